/- The contract of isa.Encode: the bytes of each, one behind the other. -/
import Derived.Test.YtbfghkhfiflibaaGreatDoorIsaB
import Derived.Laws.IdiomStrings
namespace Go.Proofs.YtbfghkhfiflibaaGreatDoor
open Go.RowKit

def toB (z : Int) : UInt8 := UInt8.ofNat z.toNat
def byteOf (n : Int) (s : Nat) : UInt8 := toB ((n / 2 ^ s) % 256)
def be8 (n : Int) : List UInt8 := [byteOf n 56, byteOf n 48, byteOf n 40, byteOf n 32, byteOf n 24, byteOf n 16, byteOf n 8, byteOf n 0]
def bytesF (f : Fm) (o : OpD) : List UInt8 := toB o.kind :: ((if f.cal = true then [toB o.cal] else []) ++ ([toB o.a, toB o.b, toB o.c].take f.regs ++ (if f.n = true then be8 o.n else [])))
def bytesS (o : OpD) : List UInt8 := match formS o.kind with
  | none => []
  | some f => bytesF f o
theorem u8_back {z : Int} (h0 : 0 ≤ z) (h1 : z < 256) : ((toB z).toNat : Int) = z := by
  unfold toB
  rw [UInt8.toNat_ofNat']
  omega

def enc8 (l : List UInt8) : List Value := l.map fun b => .int .u8 (b.toNat : Int)
theorem enc8_len (l : List UInt8) : (enc8 l).length = l.length := by simp [enc8]
theorem enc8_app (l m : List UInt8) : enc8 (l ++ m) = enc8 l ++ enc8 m := by simp [enc8]
theorem one_enc8 {l : List UInt8} : ∀ v ∈ enc8 l, v.oneCell' = true := by
  intro v hv
  simp [enc8] at hv
  obtain ⟨a, _, rfl⟩ := hv
  rfl
theorem u8Info : (Tryz.prog.info? 5).map (fun i => (i.zero, i.size, i.bytes)) = some (some (.int .u8 0), 1, 1) := by kernel_rfl

/-- the bytes so far, in a row of their own beside the boxes p and q -/
def St (w0 : World) (X Y : Obj) (p q n : Nat) (bs : List UInt8) (v : Value) (w : World) : Prop :=
  w.ownsRow w0.heap.size 5 1 v n (enc8 bs) ∧ (∀ g, v.ownBlock = some g → g ≠ p ∧ g ≠ q) ∧ w.heap[p]? = some X ∧ w.heap[q]? = some Y ∧ Below w0.heap.size w0 w

theorem St.lt {w0 w : World} {X Y : Obj} {p q n : Nat} {bs : List UInt8} {v : Value} (h : St w0 X Y p q n bs v w) : w0.heap.size ≤ w.heap.size := h.2.2.2.2.size
theorem St.alloc {w0 w : World} {X Y : Obj} {p q n : Nat} {bs : List UInt8} {v : Value} (h : St w0 X Y p q n bs v w) (x : Obj) : (w.alloc x).ownsRow w0.heap.size 5 1 v n (enc8 bs) :=
  ownsRow_chg h.1 ((Chg.refl (fun _ => False) w).alloc x) (fun _ _ => id)

theorem St.app {w0 w w' : World} {X Y : Obj} {p q n n' : Nat} {bs ns : List UInt8} {v : Value} (h : St w0 X Y p q n bs v w) (x : Obj) {ao : Option Addr} {cp : Nat}
    (hown : w'.ownsRow w0.heap.size 5 1 (.slice ao n' cp) n' (enc8 bs ++ enc8 ns))
    (hfrom : ∀ g, (Value.slice ao n' cp).ownBlock = some g → v.ownBlock = some g ∨ (w.alloc x).heap.size ≤ g) (hg : (w.alloc x).grownBy w' v.ownBlock) :
    St w0 X Y p q n' (bs ++ ns) (.slice ao n' cp) w' := by
  obtain ⟨h1, h2, h3, h4, h5⟩ := h
  have hc : Chg (fun k => v.ownBlock = some k) w w' := ((Chg.refl _ w).alloc x).grown hg (fun k hk => .inl hk)
  refine ⟨?_, fun g hg' => ?_, chgblk hc h3 (fun e => (h2 p e).1 rfl), chgblk hc h4 (fun e => (h2 q e).2 rfl), h5.trans (hc.to_below h5.size (fun k hk => (h1.lt k hk).1))⟩
  · rw [enc8_app]
    exact hown
  · have l3 := lt_of_block h3
    have l4 := lt_of_block h4
    rcases hfrom g hg' with h | h
    · exact h2 g h
    · simp at h
      omega

theorem news_take {w : World} {b : Nat} {t : TypeId} {cs : List Value} (h : w.heap[b]? = some (.cells cs.toArray t (0, 0))) (n : Nat) : ∀ j u, (cs.take n)[j]? = some u → w.cell? ((⟨b, 0, none⟩ : Addr).add j) = some u := by
  intro j u hj
  refine news_at h j u ?_
  rw [List.getElem?_take] at hj
  split at hj
  · exact hj
  · cases hj

/-- what it answers -/
def encV (l : List OpD) : Value := if (l.all checkS) = true then .tuple #[.string ⟨(l.flatMap bytesS).toArray⟩, .int .i64 0] else .tuple #[.string ⟨#[]⟩, .int .i64 1]

theorem all_take {l : List OpD} {k : Nat} {o : OpD} (h : l[k]? = some o) (hk : (l.take k).all checkS = true) (ho : checkS o = true) : (l.take (k + 1)).all checkS = true := by
  rw [take_snoc h, List.all_append, hk]
  simp [ho]
theorem encV_no {l : List OpD} {k : Nat} {o : OpD} (h : l[k]? = some o) (ho : checkS o = false) : encV l = .tuple #[.string ⟨#[]⟩, .int .i64 1] := by
  unfold encV
  rw [if_neg]
  intro hall
  have := List.all_eq_true.1 hall o (List.mem_of_getElem? h)
  rw [ho] at this
  cases this
theorem check_form {o : OpD} (h : checkS o = true) : ∃ f, formS o.kind = some f := by
  unfold checkS at h
  cases hf : formS o.kind with
  | none => rw [hf] at h; cases h
  | some f => exact ⟨f, rfl⟩

theorem shr_byte (n : Int) (s : Nat) (h : s < 64) : True := trivial

theorem bytesS_len (o : OpD) : (bytesS o).length ≤ 13 := by
  unfold bytesS
  cases hf : formS o.kind with
  | none => simp
  | some f =>
    have := form_regs hf
    simp only [bytesF, List.length_cons, List.length_append, List.length_take]
    have h1 : (if f.cal = true then [toB o.cal] else []).length ≤ 1 := by split <;> simp
    have h2 : (if f.n = true then be8 o.n else []).length ≤ 8 := by split <;> simp [be8]
    simp only [List.length_nil]
    omega
theorem flat_bytes_len (l : List OpD) : (l.flatMap bytesS).length ≤ l.length * 13 := by
  induction l with
  | nil => simp
  | cons o l ih => have := bytesS_len o; simp only [List.flatMap_cons, List.length_append, List.length_cons]; omega

set_option maxRecDepth 100000 in
set_option maxHeartbeats 8000000 in
theorem encode_any {w : World} {ao : Option Addr} {cap : Nat} {l : List OpD} (h : RdT encOp w 6 (.slice ao l.length cap) l) (hwf : ∀ o ∈ l, wfOp o) (hl : l.length ≤ 262144) :
    Calls Tryz.prog 93 #[.slice ao l.length cap] w fun e w' => e = .returned (encV l) ∧ Below w.heap.size w w' := by
  have HRD := hidI h
  clear h
  have hl1 : ¬ ((l.length : Int) > 262144) := by omega
  obtain ⟨i0, hi, hz0, hz1, hz2⟩ := info_parts u8Info
  go_enter Tryz.func93, Tryz.ntmps93
  go_wp2_with fail
  go_loopw [17, 4] (fun i b wr => ∃ (k : Nat) (bs : List UInt8), k ≤ l.length ∧ bs = (l.take k).flatMap bytesS ∧ i = .int .i64 (k : Int) ∧ (l.take k).all checkS = true ∧ Below w.heap.size w wr ∧ wr.ownsRow w.heap.size 5 1 b bs.length (enc8 bs)) (fun i _ _ => ((l.length : Int) - intOf i).toNat)
  case atStart => exact ⟨0, [], Nat.zero_le _, rfl, rfl, rfl, Below.refl _ _, World.ownsRow_nil _ _ _ _⟩
  case round =>
    obtain ⟨k, bs, hk, hbs, rfl, hall, hbel, hown⟩ := hrel
    have HBS := hidI hbs
    have hbl : bs.length ≤ 3407872 := by have := flat_bytes_len (l.take k); rw [← hbs] at this; simp at this; omega
    clear hbs
    obtain ⟨bo, bc, rfl⟩ := ownsRow_shape hown
    have HALL := hidI hall
    have HBEL := hidI hbel
    have HOWN := hidI hown
    clear hall hbel hown
    by_cases hkl : k < l.length
    · obtain ⟨o, ho⟩ := some_at hkl
      obtain ⟨g, off, rfl, hg, hc⟩ := RdT.at encOp_len (Rd.below HRD.out HBEL.out) ho
      have x0 := hc 0 _ rfl
      have x1 := hc 1 _ rfl
      have x2 := hc 2 _ rfl
      have x3 := hc 3 _ rfl
      have x4 := hc 4 _ rfl
      have x5 := hc 5 _ rfl
      simp only [Nat.add_zero] at x0
      have HO := hidI ho
      have HW := hidI (hwf o (List.mem_of_getElem? ho))
      clear hc hg ho
      go_wp2_with fail
      refine (check_any _ o HW.out).mono ?_
      rintro e w1 ⟨rfl, hb1⟩
      have hblk := blk hb1 (block_new wr _)
      have HB1 := hidI hb1
      cases hck : checkS o with
      | false =>
        have HCK := hidI hck
        clear hck hb1
        unfold codeV
        go_wp2_with fail
        go_ret2
        exact ⟨by rw [encV_no HO.out HCK.out]; rfl, HBEL.out.trans ((bnextA (Below.refl _ _) HB1.out).mono HBEL.out.size)⟩
      | true =>
        have HCK := hidI hck
        clear hck hb1
        unfold codeV
        have y0 := cell_of_block (o := 0) hblk rfl
        go_wp2_with fail
        have HBK := hidI (show w1.heap[wr.heap.size]? = some (.cells (encOp o).toArray 62 (0, 0)) from hblk)
        clear hblk y0
        refine (formOf_any _ _).mono ?_
        rintro e w2 ⟨rfl, hb2⟩
        obtain ⟨f, hf⟩ := check_form HCK.out
        have hfr := form_regs hf
        rw [hf]
        have HF := hidI hf
        obtain ⟨fc, fr, fn, fl, fM⟩ := f
        have HB2 := hidI (show Below wr.heap.size wr w2 from (bnextA (Below.refl _ _) HB1.out).trans (hb2.mono (bnextA (Below.refl _ _) HB1.out).size))
        have HBK2 := hidI (blk hb2 HBK.out)
        have hsz1 := lt_of_block HBK.out
        have hsz2 := lt_of_block HBK2.out
        have S0 := hidI (show St w (.cells (encOp o).toArray 62 (0, 0)) (.cells (encFm ⟨fc, fr, fn, fl, fM⟩).toArray 64 (0, 0)) wr.heap.size w2.heap.size bs.length bs (.slice bo bs.length bc) (w2.alloc (.cells (encFm ⟨fc, fr, fn, fl, fM⟩).toArray 64)) from
          ⟨ownsRow_chg HOWN.out (Chg.of_below (S := fun _ => False) (HB2.out.alloc HB2.out.size _)) (fun _ _ => id), fun g hg => by have := (HOWN.out.lt g hg).2; omega, block_alloc HBK2.out, block_new _ _, HBEL.out.trans ((HB2.out.alloc HB2.out.size _).mono HBEL.out.size)⟩)
        obtain ⟨kind, cal, a, b, c, n⟩ := o
        obtain ⟨hw0, hw1, hw2, hw3, hw4, hw5⟩ := HW.out
        simp only at hw0 hw1 hw2 hw3 hw4 hw5 hfr
        have HNK := hidI (show enc8 [toB kind] = [.int .u8 kind] from by simp [enc8, u8_back hw0.1 hw0.2])
        have HNC := hidI (show enc8 [toB cal] = [.int .u8 cal] from by simp [enc8, u8_back hw1.1 hw1.2])
        have HNR := hidI (show enc8 [toB a, toB b, toB c] = [.int .u8 a, .int .u8 b, .int .u8 c] from by simp [enc8, u8_back hw2.1 hw2.2, u8_back hw3.1 hw3.2, u8_back hw4.1 hw4.2])
        clear hb2 hf
        simp only [encFm, encOp] at S0
        unfold formV encFm
        simp only
        have rs : ∀ (W : World) (b : Nat), (Instr.sliceAt 77 (.pointer (some ⟨b, 0, none⟩)) none (some (.int .i64 (fr : Int))) none).run Tryz.prog W = .ok (.slice (some ⟨b, 0, none⟩) fr 3) W := by
          intro W b
          rcases (by omega : fr = 0 ∨ fr = 1 ∨ fr = 2 ∨ fr = 3) with rfl | rfl | rfl | rfl <;> kernel_rfl
        have p0 : (w2.alloc (.cells #[.bool fc, .int .i64 (fr : Int), .bool fn, .int .i64 fl, .int .i64 fM] 64)).cell? ⟨wr.heap.size, 0, none⟩ = some (.int .u8 kind) := cell_of_block S0.out.2.2.1 rfl
        have p1 : (w2.alloc (.cells #[.bool fc, .int .i64 (fr : Int), .bool fn, .int .i64 fl, .int .i64 fM] 64)).cell? ⟨wr.heap.size, 1, none⟩ = some (.int .u8 cal) := cell_of_block S0.out.2.2.1 rfl
        have p2 : (w2.alloc (.cells #[.bool fc, .int .i64 (fr : Int), .bool fn, .int .i64 fl, .int .i64 fM] 64)).cell? ⟨wr.heap.size, 2, none⟩ = some (.int .u8 a) := cell_of_block S0.out.2.2.1 rfl
        have p3 : (w2.alloc (.cells #[.bool fc, .int .i64 (fr : Int), .bool fn, .int .i64 fl, .int .i64 fM] 64)).cell? ⟨wr.heap.size, 3, none⟩ = some (.int .u8 b) := cell_of_block S0.out.2.2.1 rfl
        have p4 : (w2.alloc (.cells #[.bool fc, .int .i64 (fr : Int), .bool fn, .int .i64 fl, .int .i64 fM] 64)).cell? ⟨wr.heap.size, 4, none⟩ = some (.int .u8 c) := cell_of_block S0.out.2.2.1 rfl
        have p5 : (w2.alloc (.cells #[.bool fc, .int .i64 (fr : Int), .bool fn, .int .i64 fl, .int .i64 fM] 64)).cell? ⟨wr.heap.size, 5, none⟩ = some (.int .i64 n) := cell_of_block S0.out.2.2.1 rfl
        have q0 : (w2.alloc (.cells #[.bool fc, .int .i64 (fr : Int), .bool fn, .int .i64 fl, .int .i64 fM] 64)).cell? ⟨w2.heap.size, 0, none⟩ = some (.bool fc) := cell_of_block S0.out.2.2.2.1 rfl
        have q1 : (w2.alloc (.cells #[.bool fc, .int .i64 (fr : Int), .bool fn, .int .i64 fl, .int .i64 fM] 64)).cell? ⟨w2.heap.size, 1, none⟩ = some (.int .i64 (fr : Int)) := cell_of_block S0.out.2.2.2.1 rfl
        have q2 : (w2.alloc (.cells #[.bool fc, .int .i64 (fr : Int), .bool fn, .int .i64 fl, .int .i64 fM] 64)).cell? ⟨w2.heap.size, 2, none⟩ = some (.bool fn) := cell_of_block S0.out.2.2.2.1 rfl
        have q3 : (w2.alloc (.cells #[.bool fc, .int .i64 (fr : Int), .bool fn, .int .i64 fl, .int .i64 fM] 64)).cell? ⟨w2.heap.size, 3, none⟩ = some (.int .i64 fl) := cell_of_block S0.out.2.2.2.1 rfl
        have q4 : (w2.alloc (.cells #[.bool fc, .int .i64 (fr : Int), .bool fn, .int .i64 fl, .int .i64 fM] 64)).cell? ⟨w2.heap.size, 4, none⟩ = some (.int .i64 fM) := cell_of_block S0.out.2.2.2.1 rfl
        have r1 : ∀ x, ((w2.alloc (.cells #[.bool fc, .int .i64 (fr : Int), .bool fn, .int .i64 fl, .int .i64 fM] 64)).alloc x).cell? ⟨w2.heap.size, 1, none⟩ = some (.int .i64 (fr : Int)) := fun x => cell_of_block (block_alloc S0.out.2.2.2.1) rfl
        have r2 : ∀ x, ((w2.alloc (.cells #[.bool fc, .int .i64 (fr : Int), .bool fn, .int .i64 fl, .int .i64 fM] 64)).alloc x).cell? ⟨w2.heap.size, 2, none⟩ = some (.bool fn) := fun x => cell_of_block (block_alloc S0.out.2.2.2.1) rfl
        go_wp2_with (at_builtin; refine wpList_append_d _ rfl _ _ 286 rfl w.heap.size 5 i0 _ 1 1 Tryz.underlying286 hi hz0 hz1 hz2 rfl (by decide) _ _ _ rfl (S0.out.alloc _) ⟨w2.heap.size + 1, 0, none⟩ 1 1 (enc8 [toB kind]) rfl ?a0 ?b0 one_enc8 ?d0 ?e0 ?f0 ?_)
        case a0 => rfl
        case b0 => rw [HNK.out]; first | exact fun _ _ h => h | exact news_at (block_new _ _)
        case d0 => unfold maxLen; omega
        case e0 => omega
        case f0 => have h9 := S0.out.lt; simp at h9 ⊢; omega
        intro ao0 cp0 w3 hown hfrom hgr
        obtain ⟨m0, hm0⟩ : ∃ x, x = bs.length + 1 := ⟨_, rfl⟩
        rw [← hm0] at hown hfrom ⊢
        have hmb0 : m0 ≤ 3407900 := by omega
        have HM0 := hidI hm0
        clear hm0
        have S1 := hidI (St.app S0.out _ (ns := [toB kind]) hown (fun g hg => by simpa using hfrom g hg) hgr)
        clear hown hfrom hgr
        obtain ⟨B0, hB0⟩ : ∃ x, x = bs ++ ([toB kind]) := ⟨_, rfl⟩
        rw [← hB0] at S1
        have HBB0 := hidI hB0
        clear hB0
        clear p0 p1 p2 p3 p4 p5 q0 q1 q2 q3 q4 r1 r2
        cases fc with
        | false =>
          have p0 : (w3).cell? ⟨wr.heap.size, 0, none⟩ = some (.int .u8 kind) := cell_of_block S1.out.2.2.1 rfl
          have p1 : (w3).cell? ⟨wr.heap.size, 1, none⟩ = some (.int .u8 cal) := cell_of_block S1.out.2.2.1 rfl
          have p2 : (w3).cell? ⟨wr.heap.size, 2, none⟩ = some (.int .u8 a) := cell_of_block S1.out.2.2.1 rfl
          have p3 : (w3).cell? ⟨wr.heap.size, 3, none⟩ = some (.int .u8 b) := cell_of_block S1.out.2.2.1 rfl
          have p4 : (w3).cell? ⟨wr.heap.size, 4, none⟩ = some (.int .u8 c) := cell_of_block S1.out.2.2.1 rfl
          have p5 : (w3).cell? ⟨wr.heap.size, 5, none⟩ = some (.int .i64 n) := cell_of_block S1.out.2.2.1 rfl
          have q0 : (w3).cell? ⟨w2.heap.size, 0, none⟩ = some (.bool false) := cell_of_block S1.out.2.2.2.1 rfl
          have q1 : (w3).cell? ⟨w2.heap.size, 1, none⟩ = some (.int .i64 (fr : Int)) := cell_of_block S1.out.2.2.2.1 rfl
          have q2 : (w3).cell? ⟨w2.heap.size, 2, none⟩ = some (.bool fn) := cell_of_block S1.out.2.2.2.1 rfl
          have q3 : (w3).cell? ⟨w2.heap.size, 3, none⟩ = some (.int .i64 fl) := cell_of_block S1.out.2.2.2.1 rfl
          have q4 : (w3).cell? ⟨w2.heap.size, 4, none⟩ = some (.int .i64 fM) := cell_of_block S1.out.2.2.2.1 rfl
          have r1 : ∀ x, ((w3).alloc x).cell? ⟨w2.heap.size, 1, none⟩ = some (.int .i64 (fr : Int)) := fun x => cell_of_block (block_alloc S1.out.2.2.2.1) rfl
          have r2 : ∀ x, ((w3).alloc x).cell? ⟨w2.heap.size, 2, none⟩ = some (.bool fn) := fun x => cell_of_block (block_alloc S1.out.2.2.2.1) rfl
          go_wp2_with (at_builtin; refine wpList_append_d _ rfl _ _ 286 rfl w.heap.size 5 i0 _ 1 1 Tryz.underlying286 hi hz0 hz1 hz2 rfl (by decide) _ _ _ rfl (S1.out.alloc _) ⟨w3.heap.size, 0, none⟩ fr 3 (enc8 ([toB a, toB b, toB c].take fr)) rfl ?a1 ?b1 one_enc8 ?d1 ?e1 ?f1 ?_)
          case a1 => simp [enc8]; omega
          case b1 => rw [show enc8 ([toB a, toB b, toB c].take fr) = (enc8 [toB a, toB b, toB c]).take fr from by simp [enc8, List.map_take], HNR.out]; exact news_take (block_new _ _) fr
          case d1 => unfold maxLen; omega
          case e1 => omega
          case f1 => have h9 := S1.out.lt; simp at h9 ⊢; omega
          intro ao1 cp1 w5 hown hfrom hgr
          obtain ⟨m1, hm1⟩ : ∃ x, x = m0 + fr := ⟨_, rfl⟩
          rw [← hm1] at hown hfrom ⊢
          have hmb1 : m1 ≤ 3408000 := by omega
          have HM1 := hidI hm1
          clear hm1
          have S3 := hidI (St.app S1.out _ (ns := [toB a, toB b, toB c].take fr) hown (fun g hg => by simpa using hfrom g hg) hgr)
          clear hown hfrom hgr
          obtain ⟨B1, hB1⟩ : ∃ x, x = B0 ++ ([toB a, toB b, toB c].take fr) := ⟨_, rfl⟩
          rw [← hB1] at S3
          have HBB1 := hidI hB1
          clear hB1
          clear p0 p1 p2 p3 p4 p5 q0 q1 q2 q3 q4 r1 r2
          cases fn with
          | false =>
            have p0 : (w5).cell? ⟨wr.heap.size, 0, none⟩ = some (.int .u8 kind) := cell_of_block S3.out.2.2.1 rfl
            have p1 : (w5).cell? ⟨wr.heap.size, 1, none⟩ = some (.int .u8 cal) := cell_of_block S3.out.2.2.1 rfl
            have p2 : (w5).cell? ⟨wr.heap.size, 2, none⟩ = some (.int .u8 a) := cell_of_block S3.out.2.2.1 rfl
            have p3 : (w5).cell? ⟨wr.heap.size, 3, none⟩ = some (.int .u8 b) := cell_of_block S3.out.2.2.1 rfl
            have p4 : (w5).cell? ⟨wr.heap.size, 4, none⟩ = some (.int .u8 c) := cell_of_block S3.out.2.2.1 rfl
            have p5 : (w5).cell? ⟨wr.heap.size, 5, none⟩ = some (.int .i64 n) := cell_of_block S3.out.2.2.1 rfl
            have q0 : (w5).cell? ⟨w2.heap.size, 0, none⟩ = some (.bool false) := cell_of_block S3.out.2.2.2.1 rfl
            have q1 : (w5).cell? ⟨w2.heap.size, 1, none⟩ = some (.int .i64 (fr : Int)) := cell_of_block S3.out.2.2.2.1 rfl
            have q2 : (w5).cell? ⟨w2.heap.size, 2, none⟩ = some (.bool false) := cell_of_block S3.out.2.2.2.1 rfl
            have q3 : (w5).cell? ⟨w2.heap.size, 3, none⟩ = some (.int .i64 fl) := cell_of_block S3.out.2.2.2.1 rfl
            have q4 : (w5).cell? ⟨w2.heap.size, 4, none⟩ = some (.int .i64 fM) := cell_of_block S3.out.2.2.2.1 rfl
            have r1 : ∀ x, ((w5).alloc x).cell? ⟨w2.heap.size, 1, none⟩ = some (.int .i64 (fr : Int)) := fun x => cell_of_block (block_alloc S3.out.2.2.2.1) rfl
            have r2 : ∀ x, ((w5).alloc x).cell? ⟨w2.heap.size, 2, none⟩ = some (.bool false) := fun x => cell_of_block (block_alloc S3.out.2.2.2.1) rfl
            have hfin : B1 = (l.take (k + 1)).flatMap bytesS := by
              rw [take_snoc HO.out, List.flatMap_append, ← HBS.out]
              simp only [List.flatMap_cons, List.flatMap_nil, List.append_nil]
              rw [show bytesS ⟨kind, cal, a, b, c, n⟩ = bytesF ⟨false, fr, false, fl, fM⟩ ⟨kind, cal, a, b, c, n⟩ from by unfold bytesS; rw [HF.out], HBB1.out, HBB0.out]
              simp [bytesF]
            have hlenB : B1.length = m1 := by have := S3.out.1.1; simpa [enc8] using this
            have HFIN := hidI hfin
            clear hfin
            subst hlenB
            go_wp2_with fail
            exact ⟨⟨k + 1, B1, by omega, HFIN.out, by go_num, all_take HO.out HALL.out HCK.out, S3.out.2.2.2.2, S3.out.1⟩, by simp [intOf]; omega⟩
          | true =>
            have p0 : (w5).cell? ⟨wr.heap.size, 0, none⟩ = some (.int .u8 kind) := cell_of_block S3.out.2.2.1 rfl
            have p1 : (w5).cell? ⟨wr.heap.size, 1, none⟩ = some (.int .u8 cal) := cell_of_block S3.out.2.2.1 rfl
            have p2 : (w5).cell? ⟨wr.heap.size, 2, none⟩ = some (.int .u8 a) := cell_of_block S3.out.2.2.1 rfl
            have p3 : (w5).cell? ⟨wr.heap.size, 3, none⟩ = some (.int .u8 b) := cell_of_block S3.out.2.2.1 rfl
            have p4 : (w5).cell? ⟨wr.heap.size, 4, none⟩ = some (.int .u8 c) := cell_of_block S3.out.2.2.1 rfl
            have p5 : (w5).cell? ⟨wr.heap.size, 5, none⟩ = some (.int .i64 n) := cell_of_block S3.out.2.2.1 rfl
            have q0 : (w5).cell? ⟨w2.heap.size, 0, none⟩ = some (.bool false) := cell_of_block S3.out.2.2.2.1 rfl
            have q1 : (w5).cell? ⟨w2.heap.size, 1, none⟩ = some (.int .i64 (fr : Int)) := cell_of_block S3.out.2.2.2.1 rfl
            have q2 : (w5).cell? ⟨w2.heap.size, 2, none⟩ = some (.bool true) := cell_of_block S3.out.2.2.2.1 rfl
            have q3 : (w5).cell? ⟨w2.heap.size, 3, none⟩ = some (.int .i64 fl) := cell_of_block S3.out.2.2.2.1 rfl
            have q4 : (w5).cell? ⟨w2.heap.size, 4, none⟩ = some (.int .i64 fM) := cell_of_block S3.out.2.2.2.1 rfl
            have r1 : ∀ x, ((w5).alloc x).cell? ⟨w2.heap.size, 1, none⟩ = some (.int .i64 (fr : Int)) := fun x => cell_of_block (block_alloc S3.out.2.2.2.1) rfl
            have r2 : ∀ x, ((w5).alloc x).cell? ⟨w2.heap.size, 2, none⟩ = some (.bool true) := fun x => cell_of_block (block_alloc S3.out.2.2.2.1) rfl
            go_wp2_with fail
            clear p0 p1 p2 p3 p4 p5 q0 q1 q2 q3 q4 r1 r2
            go_loopw [11, 4] (fun i v wz => ∃ (j : Nat) (ao9 : Option Addr) (cp9 N9 : Nat), j ≤ 8 ∧ i = .int .i64 (56 - 8 * (j : Int)) ∧ v = .slice ao9 N9 cp9 ∧ N9 = m1 + j ∧ St w (.cells #[.int .u8 kind, .int .u8 cal, .int .u8 a, .int .u8 b, .int .u8 c, .int .i64 n] 62 (0, 0)) (.cells #[.bool false, .int .i64 (fr : Int), .bool true, .int .i64 fl, .int .i64 fM] 64 (0, 0)) wr.heap.size w2.heap.size N9 (B1 ++ (be8 n).take j) v wz) (fun i _ _ => (intOf i + 8).toNat)
            case atStart => exact ⟨0, _, _, _, Nat.zero_le _, rfl, rfl, rfl, by simpa using S3.out⟩
            case round =>
              obtain ⟨j, ao9, cp9, N9, hj, rfl, rfl, hN9, hst9⟩ := hrel
              obtain ⟨BJ, hBJ⟩ : ∃ x, x = B1 ++ (be8 n).take j := ⟨_, rfl⟩
              rw [← hBJ] at hst9
              have HBJ := hidI hBJ
              have T0 := hidI hst9
              have p5 : wr.cell? ⟨_, 5, none⟩ = some (.int .i64 n) := cell_of_block hst9.2.2.1 rfl
              have hN9b : N9 ≤ 3420000 := by omega
              have HN9 := hidI hN9
              clear hst9 hN9 hBJ
              rcases (by omega : j = 0 ∨ j = 1 ∨ j = 2 ∨ j = 3 ∨ j = 4 ∨ j = 5 ∨ j = 6 ∨ j = 7 ∨ j = 8) with rfl | rfl | rfl | rfl | rfl | rfl | rfl | rfl | rfl
              · have HV := hidI (show enc8 [byteOf n 56] = [.int .u8 (n / 72057594037927936 % 256)] from by
                  have h1 := Int.emod_nonneg (n / 2 ^ 56) (show (256 : Int) ≠ 0 by decide)
                  have h2 := Int.emod_lt_of_pos (n / 2 ^ 56) (show (0 : Int) < 256 by decide)
                  simp only [enc8, byteOf, List.map_cons, List.map_nil, u8_back h1 h2]
                  simp)
                go_wp2_with (at_builtin; refine wpList_append_d _ rfl _ _ 286 rfl w.heap.size 5 i0 _ 1 1 Tryz.underlying286 hi hz0 hz1 hz2 rfl (by decide) _ _ _ rfl (T0.out.alloc _) ⟨wr.heap.size, 0, none⟩ 1 1 (enc8 [byteOf n 56]) rfl ?a2 ?b2 one_enc8 ?d2 ?e2 ?f2 ?_)
                case a2 => rfl
                case b2 => rw [HV.out]; first | exact fun _ _ h => h | exact news_at (block_new _ _)
                case d2 => unfold maxLen; omega
                case e2 => omega
                case f2 => have h9 := T0.out.lt; simp at h9 ⊢; omega
                intro ao2 cp2 w9 hown hfrom hgr
                obtain ⟨m2, hm2⟩ : ∃ x, x = N9 + 1 := ⟨_, rfl⟩
                rw [← hm2] at hown hfrom ⊢
                have hmb2 : m2 ≤ 3500000 := by omega
                have HM2 := hidI hm2
                clear hm2
                have T1 := hidI (St.app T0.out _ (ns := [byteOf n 56]) hown (fun g hg => by simpa using hfrom g hg) hgr)
                clear hown hfrom hgr
                have T2 := T1.out
                obtain ⟨B2, hB2⟩ : ∃ x, x = BJ ++ ([byteOf n 56]) := ⟨_, rfl⟩
                rw [← hB2] at T1
                have HBB2 := hidI hB2
                clear hB2
                have hme : m2 = m1 + 1 := by have h1 := HM2.out; have h2 := HN9.out; omega
                have HME := hidI hme
                clear hme
                have T3 := hidI (show St w (.cells #[.int .u8 kind, .int .u8 cal, .int .u8 a, .int .u8 b, .int .u8 c, .int .i64 n] 62 (0, 0)) (.cells #[.bool false, .int .i64 (fr : Int), .bool true, .int .i64 fl, .int .i64 fM] 64 (0, 0)) _ w2.heap.size m2 (B1 ++ (be8 n).take 1) _ w9 from by have T2' := T2; rw [HBJ.out] at T2'; simpa [be8, List.append_assoc] using T2')
                clear T2
                go_wp2_with fail
                exact ⟨⟨1, ao2, cp2, m2, by omega, by go_num, rfl, HME.out, T3.out⟩, by simp [intOf]⟩
              · have HV := hidI (show enc8 [byteOf n 48] = [.int .u8 (n / 281474976710656 % 256)] from by
                  have h1 := Int.emod_nonneg (n / 2 ^ 48) (show (256 : Int) ≠ 0 by decide)
                  have h2 := Int.emod_lt_of_pos (n / 2 ^ 48) (show (0 : Int) < 256 by decide)
                  simp only [enc8, byteOf, List.map_cons, List.map_nil, u8_back h1 h2]
                  simp)
                go_wp2_with (at_builtin; refine wpList_append_d _ rfl _ _ 286 rfl w.heap.size 5 i0 _ 1 1 Tryz.underlying286 hi hz0 hz1 hz2 rfl (by decide) _ _ _ rfl (T0.out.alloc _) ⟨wr.heap.size, 0, none⟩ 1 1 (enc8 [byteOf n 48]) rfl ?a3 ?b3 one_enc8 ?d3 ?e3 ?f3 ?_)
                case a3 => rfl
                case b3 => rw [HV.out]; first | exact fun _ _ h => h | exact news_at (block_new _ _)
                case d3 => unfold maxLen; omega
                case e3 => omega
                case f3 => have h9 := T0.out.lt; simp at h9 ⊢; omega
                intro ao3 cp3 w9 hown hfrom hgr
                obtain ⟨m3, hm3⟩ : ∃ x, x = N9 + 1 := ⟨_, rfl⟩
                rw [← hm3] at hown hfrom ⊢
                have hmb3 : m3 ≤ 3500000 := by omega
                have HM3 := hidI hm3
                clear hm3
                have T1 := hidI (St.app T0.out _ (ns := [byteOf n 48]) hown (fun g hg => by simpa using hfrom g hg) hgr)
                clear hown hfrom hgr
                have T2 := T1.out
                obtain ⟨B3, hB3⟩ : ∃ x, x = BJ ++ ([byteOf n 48]) := ⟨_, rfl⟩
                rw [← hB3] at T1
                have HBB3 := hidI hB3
                clear hB3
                have hme : m3 = m1 + 2 := by have h1 := HM3.out; have h2 := HN9.out; omega
                have HME := hidI hme
                clear hme
                have T3 := hidI (show St w (.cells #[.int .u8 kind, .int .u8 cal, .int .u8 a, .int .u8 b, .int .u8 c, .int .i64 n] 62 (0, 0)) (.cells #[.bool false, .int .i64 (fr : Int), .bool true, .int .i64 fl, .int .i64 fM] 64 (0, 0)) _ w2.heap.size m3 (B1 ++ (be8 n).take 2) _ w9 from by have T2' := T2; rw [HBJ.out] at T2'; simpa [be8, List.append_assoc] using T2')
                clear T2
                go_wp2_with fail
                exact ⟨⟨2, ao3, cp3, m3, by omega, by go_num, rfl, HME.out, T3.out⟩, by simp [intOf]⟩
              · have HV := hidI (show enc8 [byteOf n 40] = [.int .u8 (n / 1099511627776 % 256)] from by
                  have h1 := Int.emod_nonneg (n / 2 ^ 40) (show (256 : Int) ≠ 0 by decide)
                  have h2 := Int.emod_lt_of_pos (n / 2 ^ 40) (show (0 : Int) < 256 by decide)
                  simp only [enc8, byteOf, List.map_cons, List.map_nil, u8_back h1 h2]
                  simp)
                go_wp2_with (at_builtin; refine wpList_append_d _ rfl _ _ 286 rfl w.heap.size 5 i0 _ 1 1 Tryz.underlying286 hi hz0 hz1 hz2 rfl (by decide) _ _ _ rfl (T0.out.alloc _) ⟨wr.heap.size, 0, none⟩ 1 1 (enc8 [byteOf n 40]) rfl ?a4 ?b4 one_enc8 ?d4 ?e4 ?f4 ?_)
                case a4 => rfl
                case b4 => rw [HV.out]; first | exact fun _ _ h => h | exact news_at (block_new _ _)
                case d4 => unfold maxLen; omega
                case e4 => omega
                case f4 => have h9 := T0.out.lt; simp at h9 ⊢; omega
                intro ao4 cp4 w9 hown hfrom hgr
                obtain ⟨m4, hm4⟩ : ∃ x, x = N9 + 1 := ⟨_, rfl⟩
                rw [← hm4] at hown hfrom ⊢
                have hmb4 : m4 ≤ 3500000 := by omega
                have HM4 := hidI hm4
                clear hm4
                have T1 := hidI (St.app T0.out _ (ns := [byteOf n 40]) hown (fun g hg => by simpa using hfrom g hg) hgr)
                clear hown hfrom hgr
                have T2 := T1.out
                obtain ⟨B4, hB4⟩ : ∃ x, x = BJ ++ ([byteOf n 40]) := ⟨_, rfl⟩
                rw [← hB4] at T1
                have HBB4 := hidI hB4
                clear hB4
                have hme : m4 = m1 + 3 := by have h1 := HM4.out; have h2 := HN9.out; omega
                have HME := hidI hme
                clear hme
                have T3 := hidI (show St w (.cells #[.int .u8 kind, .int .u8 cal, .int .u8 a, .int .u8 b, .int .u8 c, .int .i64 n] 62 (0, 0)) (.cells #[.bool false, .int .i64 (fr : Int), .bool true, .int .i64 fl, .int .i64 fM] 64 (0, 0)) _ w2.heap.size m4 (B1 ++ (be8 n).take 3) _ w9 from by have T2' := T2; rw [HBJ.out] at T2'; simpa [be8, List.append_assoc] using T2')
                clear T2
                go_wp2_with fail
                exact ⟨⟨3, ao4, cp4, m4, by omega, by go_num, rfl, HME.out, T3.out⟩, by simp [intOf]⟩
              · have HV := hidI (show enc8 [byteOf n 32] = [.int .u8 (n / 4294967296 % 256)] from by
                  have h1 := Int.emod_nonneg (n / 2 ^ 32) (show (256 : Int) ≠ 0 by decide)
                  have h2 := Int.emod_lt_of_pos (n / 2 ^ 32) (show (0 : Int) < 256 by decide)
                  simp only [enc8, byteOf, List.map_cons, List.map_nil, u8_back h1 h2]
                  simp)
                go_wp2_with (at_builtin; refine wpList_append_d _ rfl _ _ 286 rfl w.heap.size 5 i0 _ 1 1 Tryz.underlying286 hi hz0 hz1 hz2 rfl (by decide) _ _ _ rfl (T0.out.alloc _) ⟨wr.heap.size, 0, none⟩ 1 1 (enc8 [byteOf n 32]) rfl ?a5 ?b5 one_enc8 ?d5 ?e5 ?f5 ?_)
                case a5 => rfl
                case b5 => rw [HV.out]; first | exact fun _ _ h => h | exact news_at (block_new _ _)
                case d5 => unfold maxLen; omega
                case e5 => omega
                case f5 => have h9 := T0.out.lt; simp at h9 ⊢; omega
                intro ao5 cp5 w9 hown hfrom hgr
                obtain ⟨m5, hm5⟩ : ∃ x, x = N9 + 1 := ⟨_, rfl⟩
                rw [← hm5] at hown hfrom ⊢
                have hmb5 : m5 ≤ 3500000 := by omega
                have HM5 := hidI hm5
                clear hm5
                have T1 := hidI (St.app T0.out _ (ns := [byteOf n 32]) hown (fun g hg => by simpa using hfrom g hg) hgr)
                clear hown hfrom hgr
                have T2 := T1.out
                obtain ⟨B5, hB5⟩ : ∃ x, x = BJ ++ ([byteOf n 32]) := ⟨_, rfl⟩
                rw [← hB5] at T1
                have HBB5 := hidI hB5
                clear hB5
                have hme : m5 = m1 + 4 := by have h1 := HM5.out; have h2 := HN9.out; omega
                have HME := hidI hme
                clear hme
                have T3 := hidI (show St w (.cells #[.int .u8 kind, .int .u8 cal, .int .u8 a, .int .u8 b, .int .u8 c, .int .i64 n] 62 (0, 0)) (.cells #[.bool false, .int .i64 (fr : Int), .bool true, .int .i64 fl, .int .i64 fM] 64 (0, 0)) _ w2.heap.size m5 (B1 ++ (be8 n).take 4) _ w9 from by have T2' := T2; rw [HBJ.out] at T2'; simpa [be8, List.append_assoc] using T2')
                clear T2
                go_wp2_with fail
                exact ⟨⟨4, ao5, cp5, m5, by omega, by go_num, rfl, HME.out, T3.out⟩, by simp [intOf]⟩
              · have HV := hidI (show enc8 [byteOf n 24] = [.int .u8 (n / 16777216 % 256)] from by
                  have h1 := Int.emod_nonneg (n / 2 ^ 24) (show (256 : Int) ≠ 0 by decide)
                  have h2 := Int.emod_lt_of_pos (n / 2 ^ 24) (show (0 : Int) < 256 by decide)
                  simp only [enc8, byteOf, List.map_cons, List.map_nil, u8_back h1 h2]
                  simp)
                go_wp2_with (at_builtin; refine wpList_append_d _ rfl _ _ 286 rfl w.heap.size 5 i0 _ 1 1 Tryz.underlying286 hi hz0 hz1 hz2 rfl (by decide) _ _ _ rfl (T0.out.alloc _) ⟨wr.heap.size, 0, none⟩ 1 1 (enc8 [byteOf n 24]) rfl ?a6 ?b6 one_enc8 ?d6 ?e6 ?f6 ?_)
                case a6 => rfl
                case b6 => rw [HV.out]; first | exact fun _ _ h => h | exact news_at (block_new _ _)
                case d6 => unfold maxLen; omega
                case e6 => omega
                case f6 => have h9 := T0.out.lt; simp at h9 ⊢; omega
                intro ao6 cp6 w9 hown hfrom hgr
                obtain ⟨m6, hm6⟩ : ∃ x, x = N9 + 1 := ⟨_, rfl⟩
                rw [← hm6] at hown hfrom ⊢
                have hmb6 : m6 ≤ 3500000 := by omega
                have HM6 := hidI hm6
                clear hm6
                have T1 := hidI (St.app T0.out _ (ns := [byteOf n 24]) hown (fun g hg => by simpa using hfrom g hg) hgr)
                clear hown hfrom hgr
                have T2 := T1.out
                obtain ⟨B6, hB6⟩ : ∃ x, x = BJ ++ ([byteOf n 24]) := ⟨_, rfl⟩
                rw [← hB6] at T1
                have HBB6 := hidI hB6
                clear hB6
                have hme : m6 = m1 + 5 := by have h1 := HM6.out; have h2 := HN9.out; omega
                have HME := hidI hme
                clear hme
                have T3 := hidI (show St w (.cells #[.int .u8 kind, .int .u8 cal, .int .u8 a, .int .u8 b, .int .u8 c, .int .i64 n] 62 (0, 0)) (.cells #[.bool false, .int .i64 (fr : Int), .bool true, .int .i64 fl, .int .i64 fM] 64 (0, 0)) _ w2.heap.size m6 (B1 ++ (be8 n).take 5) _ w9 from by have T2' := T2; rw [HBJ.out] at T2'; simpa [be8, List.append_assoc] using T2')
                clear T2
                go_wp2_with fail
                exact ⟨⟨5, ao6, cp6, m6, by omega, by go_num, rfl, HME.out, T3.out⟩, by simp [intOf]⟩
              · have HV := hidI (show enc8 [byteOf n 16] = [.int .u8 (n / 65536 % 256)] from by
                  have h1 := Int.emod_nonneg (n / 2 ^ 16) (show (256 : Int) ≠ 0 by decide)
                  have h2 := Int.emod_lt_of_pos (n / 2 ^ 16) (show (0 : Int) < 256 by decide)
                  simp only [enc8, byteOf, List.map_cons, List.map_nil, u8_back h1 h2]
                  simp)
                go_wp2_with (at_builtin; refine wpList_append_d _ rfl _ _ 286 rfl w.heap.size 5 i0 _ 1 1 Tryz.underlying286 hi hz0 hz1 hz2 rfl (by decide) _ _ _ rfl (T0.out.alloc _) ⟨wr.heap.size, 0, none⟩ 1 1 (enc8 [byteOf n 16]) rfl ?a7 ?b7 one_enc8 ?d7 ?e7 ?f7 ?_)
                case a7 => rfl
                case b7 => rw [HV.out]; first | exact fun _ _ h => h | exact news_at (block_new _ _)
                case d7 => unfold maxLen; omega
                case e7 => omega
                case f7 => have h9 := T0.out.lt; simp at h9 ⊢; omega
                intro ao7 cp7 w9 hown hfrom hgr
                obtain ⟨m7, hm7⟩ : ∃ x, x = N9 + 1 := ⟨_, rfl⟩
                rw [← hm7] at hown hfrom ⊢
                have hmb7 : m7 ≤ 3500000 := by omega
                have HM7 := hidI hm7
                clear hm7
                have T1 := hidI (St.app T0.out _ (ns := [byteOf n 16]) hown (fun g hg => by simpa using hfrom g hg) hgr)
                clear hown hfrom hgr
                have T2 := T1.out
                obtain ⟨B7, hB7⟩ : ∃ x, x = BJ ++ ([byteOf n 16]) := ⟨_, rfl⟩
                rw [← hB7] at T1
                have HBB7 := hidI hB7
                clear hB7
                have hme : m7 = m1 + 6 := by have h1 := HM7.out; have h2 := HN9.out; omega
                have HME := hidI hme
                clear hme
                have T3 := hidI (show St w (.cells #[.int .u8 kind, .int .u8 cal, .int .u8 a, .int .u8 b, .int .u8 c, .int .i64 n] 62 (0, 0)) (.cells #[.bool false, .int .i64 (fr : Int), .bool true, .int .i64 fl, .int .i64 fM] 64 (0, 0)) _ w2.heap.size m7 (B1 ++ (be8 n).take 6) _ w9 from by have T2' := T2; rw [HBJ.out] at T2'; simpa [be8, List.append_assoc] using T2')
                clear T2
                go_wp2_with fail
                exact ⟨⟨6, ao7, cp7, m7, by omega, by go_num, rfl, HME.out, T3.out⟩, by simp [intOf]⟩
              · have HV := hidI (show enc8 [byteOf n 8] = [.int .u8 (n / 256 % 256)] from by
                  have h1 := Int.emod_nonneg (n / 2 ^ 8) (show (256 : Int) ≠ 0 by decide)
                  have h2 := Int.emod_lt_of_pos (n / 2 ^ 8) (show (0 : Int) < 256 by decide)
                  simp only [enc8, byteOf, List.map_cons, List.map_nil, u8_back h1 h2]
                  simp)
                go_wp2_with (at_builtin; refine wpList_append_d _ rfl _ _ 286 rfl w.heap.size 5 i0 _ 1 1 Tryz.underlying286 hi hz0 hz1 hz2 rfl (by decide) _ _ _ rfl (T0.out.alloc _) ⟨wr.heap.size, 0, none⟩ 1 1 (enc8 [byteOf n 8]) rfl ?a8 ?b8 one_enc8 ?d8 ?e8 ?f8 ?_)
                case a8 => rfl
                case b8 => rw [HV.out]; first | exact fun _ _ h => h | exact news_at (block_new _ _)
                case d8 => unfold maxLen; omega
                case e8 => omega
                case f8 => have h9 := T0.out.lt; simp at h9 ⊢; omega
                intro ao8 cp8 w9 hown hfrom hgr
                obtain ⟨m8, hm8⟩ : ∃ x, x = N9 + 1 := ⟨_, rfl⟩
                rw [← hm8] at hown hfrom ⊢
                have hmb8 : m8 ≤ 3500000 := by omega
                have HM8 := hidI hm8
                clear hm8
                have T1 := hidI (St.app T0.out _ (ns := [byteOf n 8]) hown (fun g hg => by simpa using hfrom g hg) hgr)
                clear hown hfrom hgr
                have T2 := T1.out
                obtain ⟨B8, hB8⟩ : ∃ x, x = BJ ++ ([byteOf n 8]) := ⟨_, rfl⟩
                rw [← hB8] at T1
                have HBB8 := hidI hB8
                clear hB8
                have hme : m8 = m1 + 7 := by have h1 := HM8.out; have h2 := HN9.out; omega
                have HME := hidI hme
                clear hme
                have T3 := hidI (show St w (.cells #[.int .u8 kind, .int .u8 cal, .int .u8 a, .int .u8 b, .int .u8 c, .int .i64 n] 62 (0, 0)) (.cells #[.bool false, .int .i64 (fr : Int), .bool true, .int .i64 fl, .int .i64 fM] 64 (0, 0)) _ w2.heap.size m8 (B1 ++ (be8 n).take 7) _ w9 from by have T2' := T2; rw [HBJ.out] at T2'; simpa [be8, List.append_assoc] using T2')
                clear T2
                go_wp2_with fail
                exact ⟨⟨7, ao8, cp8, m8, by omega, by go_num, rfl, HME.out, T3.out⟩, by simp [intOf]⟩
              · have HV := hidI (show enc8 [byteOf n 0] = [.int .u8 (n % 256)] from by
                  have h1 := Int.emod_nonneg (n / 2 ^ 0) (show (256 : Int) ≠ 0 by decide)
                  have h2 := Int.emod_lt_of_pos (n / 2 ^ 0) (show (0 : Int) < 256 by decide)
                  simp only [enc8, byteOf, List.map_cons, List.map_nil, u8_back h1 h2]
                  simp)
                go_wp2_with (at_builtin; refine wpList_append_d _ rfl _ _ 286 rfl w.heap.size 5 i0 _ 1 1 Tryz.underlying286 hi hz0 hz1 hz2 rfl (by decide) _ _ _ rfl (T0.out.alloc _) ⟨wr.heap.size, 0, none⟩ 1 1 (enc8 [byteOf n 0]) rfl ?a9 ?b9 one_enc8 ?d9 ?e9 ?f9 ?_)
                case a9 => rfl
                case b9 => rw [HV.out]; first | exact fun _ _ h => h | exact news_at (block_new _ _)
                case d9 => unfold maxLen; omega
                case e9 => omega
                case f9 => have h9 := T0.out.lt; simp at h9 ⊢; omega
                intro ao9 cp9 w9 hown hfrom hgr
                obtain ⟨m9, hm9⟩ : ∃ x, x = N9 + 1 := ⟨_, rfl⟩
                rw [← hm9] at hown hfrom ⊢
                have hmb9 : m9 ≤ 3500000 := by omega
                have HM9 := hidI hm9
                clear hm9
                have T1 := hidI (St.app T0.out _ (ns := [byteOf n 0]) hown (fun g hg => by simpa using hfrom g hg) hgr)
                clear hown hfrom hgr
                have T2 := T1.out
                obtain ⟨B9, hB9⟩ : ∃ x, x = BJ ++ ([byteOf n 0]) := ⟨_, rfl⟩
                rw [← hB9] at T1
                have HBB9 := hidI hB9
                clear hB9
                have hme : m9 = m1 + 8 := by have h1 := HM9.out; have h2 := HN9.out; omega
                have HME := hidI hme
                clear hme
                have T3 := hidI (show St w (.cells #[.int .u8 kind, .int .u8 cal, .int .u8 a, .int .u8 b, .int .u8 c, .int .i64 n] 62 (0, 0)) (.cells #[.bool false, .int .i64 (fr : Int), .bool true, .int .i64 fl, .int .i64 fM] 64 (0, 0)) _ w2.heap.size m9 (B1 ++ (be8 n).take 8) _ w9 from by have T2' := T2; rw [HBJ.out] at T2'; simpa [be8, List.append_assoc] using T2')
                clear T2
                go_wp2_with fail
                exact ⟨⟨8, ao9, cp9, m9, by omega, by go_num, rfl, HME.out, T3.out⟩, by simp [intOf]⟩
              · have hN8 := HN9.out
                have T4 := T0.out
                rw [HBJ.out, show (be8 n).take 8 = be8 n from rfl] at T4
                have TT := hidI T4
                clear T4
                obtain ⟨BB, hBB⟩ : ∃ x, x = B1 ++ be8 n := ⟨_, rfl⟩
                have T5 := TT.out
                rw [← hBB] at T5
                have S9 := hidI T5
                have HBBB := hidI hBB
                clear T5 hBB
                have hfin : BB = (l.take (k + 1)).flatMap bytesS := by
                  rw [take_snoc HO.out, List.flatMap_append, ← HBS.out]
                  simp only [List.flatMap_cons, List.flatMap_nil, List.append_nil]
                  rw [show bytesS ⟨kind, cal, a, b, c, n⟩ = bytesF ⟨false, fr, true, fl, fM⟩ ⟨kind, cal, a, b, c, n⟩ from by unfold bytesS; rw [HF.out], HBBB.out, HBB1.out, HBB0.out]
                  simp [bytesF]
                have hlenB : BB.length = N9 := by have := S9.out.1.1; simpa [enc8] using this
                have HFIN := hidI hfin
                clear hfin
                subst hlenB
                clear hN8
                go_wp2_with fail
                exact ⟨⟨k + 1, BB, by omega, HFIN.out, by go_num, all_take HO.out HALL.out HCK.out, S9.out.2.2.2.2, S9.out.1⟩, by simp [intOf]; omega⟩
        | true =>
          have p0 : (w3).cell? ⟨wr.heap.size, 0, none⟩ = some (.int .u8 kind) := cell_of_block S1.out.2.2.1 rfl
          have p1 : (w3).cell? ⟨wr.heap.size, 1, none⟩ = some (.int .u8 cal) := cell_of_block S1.out.2.2.1 rfl
          have p2 : (w3).cell? ⟨wr.heap.size, 2, none⟩ = some (.int .u8 a) := cell_of_block S1.out.2.2.1 rfl
          have p3 : (w3).cell? ⟨wr.heap.size, 3, none⟩ = some (.int .u8 b) := cell_of_block S1.out.2.2.1 rfl
          have p4 : (w3).cell? ⟨wr.heap.size, 4, none⟩ = some (.int .u8 c) := cell_of_block S1.out.2.2.1 rfl
          have p5 : (w3).cell? ⟨wr.heap.size, 5, none⟩ = some (.int .i64 n) := cell_of_block S1.out.2.2.1 rfl
          have q0 : (w3).cell? ⟨w2.heap.size, 0, none⟩ = some (.bool true) := cell_of_block S1.out.2.2.2.1 rfl
          have q1 : (w3).cell? ⟨w2.heap.size, 1, none⟩ = some (.int .i64 (fr : Int)) := cell_of_block S1.out.2.2.2.1 rfl
          have q2 : (w3).cell? ⟨w2.heap.size, 2, none⟩ = some (.bool fn) := cell_of_block S1.out.2.2.2.1 rfl
          have q3 : (w3).cell? ⟨w2.heap.size, 3, none⟩ = some (.int .i64 fl) := cell_of_block S1.out.2.2.2.1 rfl
          have q4 : (w3).cell? ⟨w2.heap.size, 4, none⟩ = some (.int .i64 fM) := cell_of_block S1.out.2.2.2.1 rfl
          have r1 : ∀ x, ((w3).alloc x).cell? ⟨w2.heap.size, 1, none⟩ = some (.int .i64 (fr : Int)) := fun x => cell_of_block (block_alloc S1.out.2.2.2.1) rfl
          have r2 : ∀ x, ((w3).alloc x).cell? ⟨w2.heap.size, 2, none⟩ = some (.bool fn) := fun x => cell_of_block (block_alloc S1.out.2.2.2.1) rfl
          go_wp2_with (at_builtin; refine wpList_append_d _ rfl _ _ 286 rfl w.heap.size 5 i0 _ 1 1 Tryz.underlying286 hi hz0 hz1 hz2 rfl (by decide) _ _ _ rfl (S1.out.alloc _) ⟨w3.heap.size, 0, none⟩ 1 1 (enc8 [toB cal]) rfl ?a10 ?b10 one_enc8 ?d10 ?e10 ?f10 ?_)
          case a10 => rfl
          case b10 => rw [HNC.out]; first | exact fun _ _ h => h | exact news_at (block_new _ _)
          case d10 => unfold maxLen; omega
          case e10 => omega
          case f10 => have h9 := S1.out.lt; simp at h9 ⊢; omega
          intro ao10 cp10 w4 hown hfrom hgr
          obtain ⟨m10, hm10⟩ : ∃ x, x = m0 + 1 := ⟨_, rfl⟩
          rw [← hm10] at hown hfrom ⊢
          have hmb10 : m10 ≤ 3408900 := by omega
          have HM10 := hidI hm10
          clear hm10
          have S2 := hidI (St.app S1.out _ (ns := [toB cal]) hown (fun g hg => by simpa using hfrom g hg) hgr)
          clear hown hfrom hgr
          obtain ⟨B10, hB10⟩ : ∃ x, x = B0 ++ ([toB cal]) := ⟨_, rfl⟩
          rw [← hB10] at S2
          have HBB10 := hidI hB10
          clear hB10
          clear p0 p1 p2 p3 p4 p5 q0 q1 q2 q3 q4 r1 r2
          have p0 : (w4).cell? ⟨wr.heap.size, 0, none⟩ = some (.int .u8 kind) := cell_of_block S2.out.2.2.1 rfl
          have p1 : (w4).cell? ⟨wr.heap.size, 1, none⟩ = some (.int .u8 cal) := cell_of_block S2.out.2.2.1 rfl
          have p2 : (w4).cell? ⟨wr.heap.size, 2, none⟩ = some (.int .u8 a) := cell_of_block S2.out.2.2.1 rfl
          have p3 : (w4).cell? ⟨wr.heap.size, 3, none⟩ = some (.int .u8 b) := cell_of_block S2.out.2.2.1 rfl
          have p4 : (w4).cell? ⟨wr.heap.size, 4, none⟩ = some (.int .u8 c) := cell_of_block S2.out.2.2.1 rfl
          have p5 : (w4).cell? ⟨wr.heap.size, 5, none⟩ = some (.int .i64 n) := cell_of_block S2.out.2.2.1 rfl
          have q0 : (w4).cell? ⟨w2.heap.size, 0, none⟩ = some (.bool true) := cell_of_block S2.out.2.2.2.1 rfl
          have q1 : (w4).cell? ⟨w2.heap.size, 1, none⟩ = some (.int .i64 (fr : Int)) := cell_of_block S2.out.2.2.2.1 rfl
          have q2 : (w4).cell? ⟨w2.heap.size, 2, none⟩ = some (.bool fn) := cell_of_block S2.out.2.2.2.1 rfl
          have q3 : (w4).cell? ⟨w2.heap.size, 3, none⟩ = some (.int .i64 fl) := cell_of_block S2.out.2.2.2.1 rfl
          have q4 : (w4).cell? ⟨w2.heap.size, 4, none⟩ = some (.int .i64 fM) := cell_of_block S2.out.2.2.2.1 rfl
          have r1 : ∀ x, ((w4).alloc x).cell? ⟨w2.heap.size, 1, none⟩ = some (.int .i64 (fr : Int)) := fun x => cell_of_block (block_alloc S2.out.2.2.2.1) rfl
          have r2 : ∀ x, ((w4).alloc x).cell? ⟨w2.heap.size, 2, none⟩ = some (.bool fn) := fun x => cell_of_block (block_alloc S2.out.2.2.2.1) rfl
          go_wp2_with (at_builtin; refine wpList_append_d _ rfl _ _ 286 rfl w.heap.size 5 i0 _ 1 1 Tryz.underlying286 hi hz0 hz1 hz2 rfl (by decide) _ _ _ rfl (S2.out.alloc _) ⟨w4.heap.size, 0, none⟩ fr 3 (enc8 ([toB a, toB b, toB c].take fr)) rfl ?a11 ?b11 one_enc8 ?d11 ?e11 ?f11 ?_)
          case a11 => simp [enc8]; omega
          case b11 => rw [show enc8 ([toB a, toB b, toB c].take fr) = (enc8 [toB a, toB b, toB c]).take fr from by simp [enc8, List.map_take], HNR.out]; exact news_take (block_new _ _) fr
          case d11 => unfold maxLen; omega
          case e11 => omega
          case f11 => have h9 := S2.out.lt; simp at h9 ⊢; omega
          intro ao11 cp11 w5 hown hfrom hgr
          obtain ⟨m11, hm11⟩ : ∃ x, x = m10 + fr := ⟨_, rfl⟩
          rw [← hm11] at hown hfrom ⊢
          have hmb11 : m11 ≤ 3409000 := by omega
          have HM11 := hidI hm11
          clear hm11
          have S3 := hidI (St.app S2.out _ (ns := [toB a, toB b, toB c].take fr) hown (fun g hg => by simpa using hfrom g hg) hgr)
          clear hown hfrom hgr
          obtain ⟨B11, hB11⟩ : ∃ x, x = B10 ++ ([toB a, toB b, toB c].take fr) := ⟨_, rfl⟩
          rw [← hB11] at S3
          have HBB11 := hidI hB11
          clear hB11
          clear p0 p1 p2 p3 p4 p5 q0 q1 q2 q3 q4 r1 r2
          cases fn with
          | false =>
            have p0 : (w5).cell? ⟨wr.heap.size, 0, none⟩ = some (.int .u8 kind) := cell_of_block S3.out.2.2.1 rfl
            have p1 : (w5).cell? ⟨wr.heap.size, 1, none⟩ = some (.int .u8 cal) := cell_of_block S3.out.2.2.1 rfl
            have p2 : (w5).cell? ⟨wr.heap.size, 2, none⟩ = some (.int .u8 a) := cell_of_block S3.out.2.2.1 rfl
            have p3 : (w5).cell? ⟨wr.heap.size, 3, none⟩ = some (.int .u8 b) := cell_of_block S3.out.2.2.1 rfl
            have p4 : (w5).cell? ⟨wr.heap.size, 4, none⟩ = some (.int .u8 c) := cell_of_block S3.out.2.2.1 rfl
            have p5 : (w5).cell? ⟨wr.heap.size, 5, none⟩ = some (.int .i64 n) := cell_of_block S3.out.2.2.1 rfl
            have q0 : (w5).cell? ⟨w2.heap.size, 0, none⟩ = some (.bool true) := cell_of_block S3.out.2.2.2.1 rfl
            have q1 : (w5).cell? ⟨w2.heap.size, 1, none⟩ = some (.int .i64 (fr : Int)) := cell_of_block S3.out.2.2.2.1 rfl
            have q2 : (w5).cell? ⟨w2.heap.size, 2, none⟩ = some (.bool false) := cell_of_block S3.out.2.2.2.1 rfl
            have q3 : (w5).cell? ⟨w2.heap.size, 3, none⟩ = some (.int .i64 fl) := cell_of_block S3.out.2.2.2.1 rfl
            have q4 : (w5).cell? ⟨w2.heap.size, 4, none⟩ = some (.int .i64 fM) := cell_of_block S3.out.2.2.2.1 rfl
            have r1 : ∀ x, ((w5).alloc x).cell? ⟨w2.heap.size, 1, none⟩ = some (.int .i64 (fr : Int)) := fun x => cell_of_block (block_alloc S3.out.2.2.2.1) rfl
            have r2 : ∀ x, ((w5).alloc x).cell? ⟨w2.heap.size, 2, none⟩ = some (.bool false) := fun x => cell_of_block (block_alloc S3.out.2.2.2.1) rfl
            have hfin : B11 = (l.take (k + 1)).flatMap bytesS := by
              rw [take_snoc HO.out, List.flatMap_append, ← HBS.out]
              simp only [List.flatMap_cons, List.flatMap_nil, List.append_nil]
              rw [show bytesS ⟨kind, cal, a, b, c, n⟩ = bytesF ⟨true, fr, false, fl, fM⟩ ⟨kind, cal, a, b, c, n⟩ from by unfold bytesS; rw [HF.out], HBB11.out, HBB10.out, HBB0.out]
              simp [bytesF]
            have hlenB : B11.length = m11 := by have := S3.out.1.1; simpa [enc8] using this
            have HFIN := hidI hfin
            clear hfin
            subst hlenB
            go_wp2_with fail
            exact ⟨⟨k + 1, B11, by omega, HFIN.out, by go_num, all_take HO.out HALL.out HCK.out, S3.out.2.2.2.2, S3.out.1⟩, by simp [intOf]; omega⟩
          | true =>
            have p0 : (w5).cell? ⟨wr.heap.size, 0, none⟩ = some (.int .u8 kind) := cell_of_block S3.out.2.2.1 rfl
            have p1 : (w5).cell? ⟨wr.heap.size, 1, none⟩ = some (.int .u8 cal) := cell_of_block S3.out.2.2.1 rfl
            have p2 : (w5).cell? ⟨wr.heap.size, 2, none⟩ = some (.int .u8 a) := cell_of_block S3.out.2.2.1 rfl
            have p3 : (w5).cell? ⟨wr.heap.size, 3, none⟩ = some (.int .u8 b) := cell_of_block S3.out.2.2.1 rfl
            have p4 : (w5).cell? ⟨wr.heap.size, 4, none⟩ = some (.int .u8 c) := cell_of_block S3.out.2.2.1 rfl
            have p5 : (w5).cell? ⟨wr.heap.size, 5, none⟩ = some (.int .i64 n) := cell_of_block S3.out.2.2.1 rfl
            have q0 : (w5).cell? ⟨w2.heap.size, 0, none⟩ = some (.bool true) := cell_of_block S3.out.2.2.2.1 rfl
            have q1 : (w5).cell? ⟨w2.heap.size, 1, none⟩ = some (.int .i64 (fr : Int)) := cell_of_block S3.out.2.2.2.1 rfl
            have q2 : (w5).cell? ⟨w2.heap.size, 2, none⟩ = some (.bool true) := cell_of_block S3.out.2.2.2.1 rfl
            have q3 : (w5).cell? ⟨w2.heap.size, 3, none⟩ = some (.int .i64 fl) := cell_of_block S3.out.2.2.2.1 rfl
            have q4 : (w5).cell? ⟨w2.heap.size, 4, none⟩ = some (.int .i64 fM) := cell_of_block S3.out.2.2.2.1 rfl
            have r1 : ∀ x, ((w5).alloc x).cell? ⟨w2.heap.size, 1, none⟩ = some (.int .i64 (fr : Int)) := fun x => cell_of_block (block_alloc S3.out.2.2.2.1) rfl
            have r2 : ∀ x, ((w5).alloc x).cell? ⟨w2.heap.size, 2, none⟩ = some (.bool true) := fun x => cell_of_block (block_alloc S3.out.2.2.2.1) rfl
            go_wp2_with fail
            clear p0 p1 p2 p3 p4 p5 q0 q1 q2 q3 q4 r1 r2
            go_loopw [11, 4] (fun i v wz => ∃ (j : Nat) (ao9 : Option Addr) (cp9 N9 : Nat), j ≤ 8 ∧ i = .int .i64 (56 - 8 * (j : Int)) ∧ v = .slice ao9 N9 cp9 ∧ N9 = m11 + j ∧ St w (.cells #[.int .u8 kind, .int .u8 cal, .int .u8 a, .int .u8 b, .int .u8 c, .int .i64 n] 62 (0, 0)) (.cells #[.bool true, .int .i64 (fr : Int), .bool true, .int .i64 fl, .int .i64 fM] 64 (0, 0)) wr.heap.size w2.heap.size N9 (B11 ++ (be8 n).take j) v wz) (fun i _ _ => (intOf i + 8).toNat)
            case atStart => exact ⟨0, _, _, _, Nat.zero_le _, rfl, rfl, rfl, by simpa using S3.out⟩
            case round =>
              obtain ⟨j, ao9, cp9, N9, hj, rfl, rfl, hN9, hst9⟩ := hrel
              obtain ⟨BJ, hBJ⟩ : ∃ x, x = B11 ++ (be8 n).take j := ⟨_, rfl⟩
              rw [← hBJ] at hst9
              have HBJ := hidI hBJ
              have T0 := hidI hst9
              have p5 : wr.cell? ⟨_, 5, none⟩ = some (.int .i64 n) := cell_of_block hst9.2.2.1 rfl
              have hN9b : N9 ≤ 3420000 := by omega
              have HN9 := hidI hN9
              clear hst9 hN9 hBJ
              rcases (by omega : j = 0 ∨ j = 1 ∨ j = 2 ∨ j = 3 ∨ j = 4 ∨ j = 5 ∨ j = 6 ∨ j = 7 ∨ j = 8) with rfl | rfl | rfl | rfl | rfl | rfl | rfl | rfl | rfl
              · have HV := hidI (show enc8 [byteOf n 56] = [.int .u8 (n / 72057594037927936 % 256)] from by
                  have h1 := Int.emod_nonneg (n / 2 ^ 56) (show (256 : Int) ≠ 0 by decide)
                  have h2 := Int.emod_lt_of_pos (n / 2 ^ 56) (show (0 : Int) < 256 by decide)
                  simp only [enc8, byteOf, List.map_cons, List.map_nil, u8_back h1 h2]
                  simp)
                go_wp2_with (at_builtin; refine wpList_append_d _ rfl _ _ 286 rfl w.heap.size 5 i0 _ 1 1 Tryz.underlying286 hi hz0 hz1 hz2 rfl (by decide) _ _ _ rfl (T0.out.alloc _) ⟨wr.heap.size, 0, none⟩ 1 1 (enc8 [byteOf n 56]) rfl ?a12 ?b12 one_enc8 ?d12 ?e12 ?f12 ?_)
                case a12 => rfl
                case b12 => rw [HV.out]; first | exact fun _ _ h => h | exact news_at (block_new _ _)
                case d12 => unfold maxLen; omega
                case e12 => omega
                case f12 => have h9 := T0.out.lt; simp at h9 ⊢; omega
                intro ao12 cp12 w9 hown hfrom hgr
                obtain ⟨m12, hm12⟩ : ∃ x, x = N9 + 1 := ⟨_, rfl⟩
                rw [← hm12] at hown hfrom ⊢
                have hmb12 : m12 ≤ 3500000 := by omega
                have HM12 := hidI hm12
                clear hm12
                have T1 := hidI (St.app T0.out _ (ns := [byteOf n 56]) hown (fun g hg => by simpa using hfrom g hg) hgr)
                clear hown hfrom hgr
                have T2 := T1.out
                obtain ⟨B12, hB12⟩ : ∃ x, x = BJ ++ ([byteOf n 56]) := ⟨_, rfl⟩
                rw [← hB12] at T1
                have HBB12 := hidI hB12
                clear hB12
                have hme : m12 = m11 + 1 := by have h1 := HM12.out; have h2 := HN9.out; omega
                have HME := hidI hme
                clear hme
                have T3 := hidI (show St w (.cells #[.int .u8 kind, .int .u8 cal, .int .u8 a, .int .u8 b, .int .u8 c, .int .i64 n] 62 (0, 0)) (.cells #[.bool true, .int .i64 (fr : Int), .bool true, .int .i64 fl, .int .i64 fM] 64 (0, 0)) _ w2.heap.size m12 (B11 ++ (be8 n).take 1) _ w9 from by have T2' := T2; rw [HBJ.out] at T2'; simpa [be8, List.append_assoc] using T2')
                clear T2
                go_wp2_with fail
                exact ⟨⟨1, ao12, cp12, m12, by omega, by go_num, rfl, HME.out, T3.out⟩, by simp [intOf]⟩
              · have HV := hidI (show enc8 [byteOf n 48] = [.int .u8 (n / 281474976710656 % 256)] from by
                  have h1 := Int.emod_nonneg (n / 2 ^ 48) (show (256 : Int) ≠ 0 by decide)
                  have h2 := Int.emod_lt_of_pos (n / 2 ^ 48) (show (0 : Int) < 256 by decide)
                  simp only [enc8, byteOf, List.map_cons, List.map_nil, u8_back h1 h2]
                  simp)
                go_wp2_with (at_builtin; refine wpList_append_d _ rfl _ _ 286 rfl w.heap.size 5 i0 _ 1 1 Tryz.underlying286 hi hz0 hz1 hz2 rfl (by decide) _ _ _ rfl (T0.out.alloc _) ⟨wr.heap.size, 0, none⟩ 1 1 (enc8 [byteOf n 48]) rfl ?a13 ?b13 one_enc8 ?d13 ?e13 ?f13 ?_)
                case a13 => rfl
                case b13 => rw [HV.out]; first | exact fun _ _ h => h | exact news_at (block_new _ _)
                case d13 => unfold maxLen; omega
                case e13 => omega
                case f13 => have h9 := T0.out.lt; simp at h9 ⊢; omega
                intro ao13 cp13 w9 hown hfrom hgr
                obtain ⟨m13, hm13⟩ : ∃ x, x = N9 + 1 := ⟨_, rfl⟩
                rw [← hm13] at hown hfrom ⊢
                have hmb13 : m13 ≤ 3500000 := by omega
                have HM13 := hidI hm13
                clear hm13
                have T1 := hidI (St.app T0.out _ (ns := [byteOf n 48]) hown (fun g hg => by simpa using hfrom g hg) hgr)
                clear hown hfrom hgr
                have T2 := T1.out
                obtain ⟨B13, hB13⟩ : ∃ x, x = BJ ++ ([byteOf n 48]) := ⟨_, rfl⟩
                rw [← hB13] at T1
                have HBB13 := hidI hB13
                clear hB13
                have hme : m13 = m11 + 2 := by have h1 := HM13.out; have h2 := HN9.out; omega
                have HME := hidI hme
                clear hme
                have T3 := hidI (show St w (.cells #[.int .u8 kind, .int .u8 cal, .int .u8 a, .int .u8 b, .int .u8 c, .int .i64 n] 62 (0, 0)) (.cells #[.bool true, .int .i64 (fr : Int), .bool true, .int .i64 fl, .int .i64 fM] 64 (0, 0)) _ w2.heap.size m13 (B11 ++ (be8 n).take 2) _ w9 from by have T2' := T2; rw [HBJ.out] at T2'; simpa [be8, List.append_assoc] using T2')
                clear T2
                go_wp2_with fail
                exact ⟨⟨2, ao13, cp13, m13, by omega, by go_num, rfl, HME.out, T3.out⟩, by simp [intOf]⟩
              · have HV := hidI (show enc8 [byteOf n 40] = [.int .u8 (n / 1099511627776 % 256)] from by
                  have h1 := Int.emod_nonneg (n / 2 ^ 40) (show (256 : Int) ≠ 0 by decide)
                  have h2 := Int.emod_lt_of_pos (n / 2 ^ 40) (show (0 : Int) < 256 by decide)
                  simp only [enc8, byteOf, List.map_cons, List.map_nil, u8_back h1 h2]
                  simp)
                go_wp2_with (at_builtin; refine wpList_append_d _ rfl _ _ 286 rfl w.heap.size 5 i0 _ 1 1 Tryz.underlying286 hi hz0 hz1 hz2 rfl (by decide) _ _ _ rfl (T0.out.alloc _) ⟨wr.heap.size, 0, none⟩ 1 1 (enc8 [byteOf n 40]) rfl ?a14 ?b14 one_enc8 ?d14 ?e14 ?f14 ?_)
                case a14 => rfl
                case b14 => rw [HV.out]; first | exact fun _ _ h => h | exact news_at (block_new _ _)
                case d14 => unfold maxLen; omega
                case e14 => omega
                case f14 => have h9 := T0.out.lt; simp at h9 ⊢; omega
                intro ao14 cp14 w9 hown hfrom hgr
                obtain ⟨m14, hm14⟩ : ∃ x, x = N9 + 1 := ⟨_, rfl⟩
                rw [← hm14] at hown hfrom ⊢
                have hmb14 : m14 ≤ 3500000 := by omega
                have HM14 := hidI hm14
                clear hm14
                have T1 := hidI (St.app T0.out _ (ns := [byteOf n 40]) hown (fun g hg => by simpa using hfrom g hg) hgr)
                clear hown hfrom hgr
                have T2 := T1.out
                obtain ⟨B14, hB14⟩ : ∃ x, x = BJ ++ ([byteOf n 40]) := ⟨_, rfl⟩
                rw [← hB14] at T1
                have HBB14 := hidI hB14
                clear hB14
                have hme : m14 = m11 + 3 := by have h1 := HM14.out; have h2 := HN9.out; omega
                have HME := hidI hme
                clear hme
                have T3 := hidI (show St w (.cells #[.int .u8 kind, .int .u8 cal, .int .u8 a, .int .u8 b, .int .u8 c, .int .i64 n] 62 (0, 0)) (.cells #[.bool true, .int .i64 (fr : Int), .bool true, .int .i64 fl, .int .i64 fM] 64 (0, 0)) _ w2.heap.size m14 (B11 ++ (be8 n).take 3) _ w9 from by have T2' := T2; rw [HBJ.out] at T2'; simpa [be8, List.append_assoc] using T2')
                clear T2
                go_wp2_with fail
                exact ⟨⟨3, ao14, cp14, m14, by omega, by go_num, rfl, HME.out, T3.out⟩, by simp [intOf]⟩
              · have HV := hidI (show enc8 [byteOf n 32] = [.int .u8 (n / 4294967296 % 256)] from by
                  have h1 := Int.emod_nonneg (n / 2 ^ 32) (show (256 : Int) ≠ 0 by decide)
                  have h2 := Int.emod_lt_of_pos (n / 2 ^ 32) (show (0 : Int) < 256 by decide)
                  simp only [enc8, byteOf, List.map_cons, List.map_nil, u8_back h1 h2]
                  simp)
                go_wp2_with (at_builtin; refine wpList_append_d _ rfl _ _ 286 rfl w.heap.size 5 i0 _ 1 1 Tryz.underlying286 hi hz0 hz1 hz2 rfl (by decide) _ _ _ rfl (T0.out.alloc _) ⟨wr.heap.size, 0, none⟩ 1 1 (enc8 [byteOf n 32]) rfl ?a15 ?b15 one_enc8 ?d15 ?e15 ?f15 ?_)
                case a15 => rfl
                case b15 => rw [HV.out]; first | exact fun _ _ h => h | exact news_at (block_new _ _)
                case d15 => unfold maxLen; omega
                case e15 => omega
                case f15 => have h9 := T0.out.lt; simp at h9 ⊢; omega
                intro ao15 cp15 w9 hown hfrom hgr
                obtain ⟨m15, hm15⟩ : ∃ x, x = N9 + 1 := ⟨_, rfl⟩
                rw [← hm15] at hown hfrom ⊢
                have hmb15 : m15 ≤ 3500000 := by omega
                have HM15 := hidI hm15
                clear hm15
                have T1 := hidI (St.app T0.out _ (ns := [byteOf n 32]) hown (fun g hg => by simpa using hfrom g hg) hgr)
                clear hown hfrom hgr
                have T2 := T1.out
                obtain ⟨B15, hB15⟩ : ∃ x, x = BJ ++ ([byteOf n 32]) := ⟨_, rfl⟩
                rw [← hB15] at T1
                have HBB15 := hidI hB15
                clear hB15
                have hme : m15 = m11 + 4 := by have h1 := HM15.out; have h2 := HN9.out; omega
                have HME := hidI hme
                clear hme
                have T3 := hidI (show St w (.cells #[.int .u8 kind, .int .u8 cal, .int .u8 a, .int .u8 b, .int .u8 c, .int .i64 n] 62 (0, 0)) (.cells #[.bool true, .int .i64 (fr : Int), .bool true, .int .i64 fl, .int .i64 fM] 64 (0, 0)) _ w2.heap.size m15 (B11 ++ (be8 n).take 4) _ w9 from by have T2' := T2; rw [HBJ.out] at T2'; simpa [be8, List.append_assoc] using T2')
                clear T2
                go_wp2_with fail
                exact ⟨⟨4, ao15, cp15, m15, by omega, by go_num, rfl, HME.out, T3.out⟩, by simp [intOf]⟩
              · have HV := hidI (show enc8 [byteOf n 24] = [.int .u8 (n / 16777216 % 256)] from by
                  have h1 := Int.emod_nonneg (n / 2 ^ 24) (show (256 : Int) ≠ 0 by decide)
                  have h2 := Int.emod_lt_of_pos (n / 2 ^ 24) (show (0 : Int) < 256 by decide)
                  simp only [enc8, byteOf, List.map_cons, List.map_nil, u8_back h1 h2]
                  simp)
                go_wp2_with (at_builtin; refine wpList_append_d _ rfl _ _ 286 rfl w.heap.size 5 i0 _ 1 1 Tryz.underlying286 hi hz0 hz1 hz2 rfl (by decide) _ _ _ rfl (T0.out.alloc _) ⟨wr.heap.size, 0, none⟩ 1 1 (enc8 [byteOf n 24]) rfl ?a16 ?b16 one_enc8 ?d16 ?e16 ?f16 ?_)
                case a16 => rfl
                case b16 => rw [HV.out]; first | exact fun _ _ h => h | exact news_at (block_new _ _)
                case d16 => unfold maxLen; omega
                case e16 => omega
                case f16 => have h9 := T0.out.lt; simp at h9 ⊢; omega
                intro ao16 cp16 w9 hown hfrom hgr
                obtain ⟨m16, hm16⟩ : ∃ x, x = N9 + 1 := ⟨_, rfl⟩
                rw [← hm16] at hown hfrom ⊢
                have hmb16 : m16 ≤ 3500000 := by omega
                have HM16 := hidI hm16
                clear hm16
                have T1 := hidI (St.app T0.out _ (ns := [byteOf n 24]) hown (fun g hg => by simpa using hfrom g hg) hgr)
                clear hown hfrom hgr
                have T2 := T1.out
                obtain ⟨B16, hB16⟩ : ∃ x, x = BJ ++ ([byteOf n 24]) := ⟨_, rfl⟩
                rw [← hB16] at T1
                have HBB16 := hidI hB16
                clear hB16
                have hme : m16 = m11 + 5 := by have h1 := HM16.out; have h2 := HN9.out; omega
                have HME := hidI hme
                clear hme
                have T3 := hidI (show St w (.cells #[.int .u8 kind, .int .u8 cal, .int .u8 a, .int .u8 b, .int .u8 c, .int .i64 n] 62 (0, 0)) (.cells #[.bool true, .int .i64 (fr : Int), .bool true, .int .i64 fl, .int .i64 fM] 64 (0, 0)) _ w2.heap.size m16 (B11 ++ (be8 n).take 5) _ w9 from by have T2' := T2; rw [HBJ.out] at T2'; simpa [be8, List.append_assoc] using T2')
                clear T2
                go_wp2_with fail
                exact ⟨⟨5, ao16, cp16, m16, by omega, by go_num, rfl, HME.out, T3.out⟩, by simp [intOf]⟩
              · have HV := hidI (show enc8 [byteOf n 16] = [.int .u8 (n / 65536 % 256)] from by
                  have h1 := Int.emod_nonneg (n / 2 ^ 16) (show (256 : Int) ≠ 0 by decide)
                  have h2 := Int.emod_lt_of_pos (n / 2 ^ 16) (show (0 : Int) < 256 by decide)
                  simp only [enc8, byteOf, List.map_cons, List.map_nil, u8_back h1 h2]
                  simp)
                go_wp2_with (at_builtin; refine wpList_append_d _ rfl _ _ 286 rfl w.heap.size 5 i0 _ 1 1 Tryz.underlying286 hi hz0 hz1 hz2 rfl (by decide) _ _ _ rfl (T0.out.alloc _) ⟨wr.heap.size, 0, none⟩ 1 1 (enc8 [byteOf n 16]) rfl ?a17 ?b17 one_enc8 ?d17 ?e17 ?f17 ?_)
                case a17 => rfl
                case b17 => rw [HV.out]; first | exact fun _ _ h => h | exact news_at (block_new _ _)
                case d17 => unfold maxLen; omega
                case e17 => omega
                case f17 => have h9 := T0.out.lt; simp at h9 ⊢; omega
                intro ao17 cp17 w9 hown hfrom hgr
                obtain ⟨m17, hm17⟩ : ∃ x, x = N9 + 1 := ⟨_, rfl⟩
                rw [← hm17] at hown hfrom ⊢
                have hmb17 : m17 ≤ 3500000 := by omega
                have HM17 := hidI hm17
                clear hm17
                have T1 := hidI (St.app T0.out _ (ns := [byteOf n 16]) hown (fun g hg => by simpa using hfrom g hg) hgr)
                clear hown hfrom hgr
                have T2 := T1.out
                obtain ⟨B17, hB17⟩ : ∃ x, x = BJ ++ ([byteOf n 16]) := ⟨_, rfl⟩
                rw [← hB17] at T1
                have HBB17 := hidI hB17
                clear hB17
                have hme : m17 = m11 + 6 := by have h1 := HM17.out; have h2 := HN9.out; omega
                have HME := hidI hme
                clear hme
                have T3 := hidI (show St w (.cells #[.int .u8 kind, .int .u8 cal, .int .u8 a, .int .u8 b, .int .u8 c, .int .i64 n] 62 (0, 0)) (.cells #[.bool true, .int .i64 (fr : Int), .bool true, .int .i64 fl, .int .i64 fM] 64 (0, 0)) _ w2.heap.size m17 (B11 ++ (be8 n).take 6) _ w9 from by have T2' := T2; rw [HBJ.out] at T2'; simpa [be8, List.append_assoc] using T2')
                clear T2
                go_wp2_with fail
                exact ⟨⟨6, ao17, cp17, m17, by omega, by go_num, rfl, HME.out, T3.out⟩, by simp [intOf]⟩
              · have HV := hidI (show enc8 [byteOf n 8] = [.int .u8 (n / 256 % 256)] from by
                  have h1 := Int.emod_nonneg (n / 2 ^ 8) (show (256 : Int) ≠ 0 by decide)
                  have h2 := Int.emod_lt_of_pos (n / 2 ^ 8) (show (0 : Int) < 256 by decide)
                  simp only [enc8, byteOf, List.map_cons, List.map_nil, u8_back h1 h2]
                  simp)
                go_wp2_with (at_builtin; refine wpList_append_d _ rfl _ _ 286 rfl w.heap.size 5 i0 _ 1 1 Tryz.underlying286 hi hz0 hz1 hz2 rfl (by decide) _ _ _ rfl (T0.out.alloc _) ⟨wr.heap.size, 0, none⟩ 1 1 (enc8 [byteOf n 8]) rfl ?a18 ?b18 one_enc8 ?d18 ?e18 ?f18 ?_)
                case a18 => rfl
                case b18 => rw [HV.out]; first | exact fun _ _ h => h | exact news_at (block_new _ _)
                case d18 => unfold maxLen; omega
                case e18 => omega
                case f18 => have h9 := T0.out.lt; simp at h9 ⊢; omega
                intro ao18 cp18 w9 hown hfrom hgr
                obtain ⟨m18, hm18⟩ : ∃ x, x = N9 + 1 := ⟨_, rfl⟩
                rw [← hm18] at hown hfrom ⊢
                have hmb18 : m18 ≤ 3500000 := by omega
                have HM18 := hidI hm18
                clear hm18
                have T1 := hidI (St.app T0.out _ (ns := [byteOf n 8]) hown (fun g hg => by simpa using hfrom g hg) hgr)
                clear hown hfrom hgr
                have T2 := T1.out
                obtain ⟨B18, hB18⟩ : ∃ x, x = BJ ++ ([byteOf n 8]) := ⟨_, rfl⟩
                rw [← hB18] at T1
                have HBB18 := hidI hB18
                clear hB18
                have hme : m18 = m11 + 7 := by have h1 := HM18.out; have h2 := HN9.out; omega
                have HME := hidI hme
                clear hme
                have T3 := hidI (show St w (.cells #[.int .u8 kind, .int .u8 cal, .int .u8 a, .int .u8 b, .int .u8 c, .int .i64 n] 62 (0, 0)) (.cells #[.bool true, .int .i64 (fr : Int), .bool true, .int .i64 fl, .int .i64 fM] 64 (0, 0)) _ w2.heap.size m18 (B11 ++ (be8 n).take 7) _ w9 from by have T2' := T2; rw [HBJ.out] at T2'; simpa [be8, List.append_assoc] using T2')
                clear T2
                go_wp2_with fail
                exact ⟨⟨7, ao18, cp18, m18, by omega, by go_num, rfl, HME.out, T3.out⟩, by simp [intOf]⟩
              · have HV := hidI (show enc8 [byteOf n 0] = [.int .u8 (n % 256)] from by
                  have h1 := Int.emod_nonneg (n / 2 ^ 0) (show (256 : Int) ≠ 0 by decide)
                  have h2 := Int.emod_lt_of_pos (n / 2 ^ 0) (show (0 : Int) < 256 by decide)
                  simp only [enc8, byteOf, List.map_cons, List.map_nil, u8_back h1 h2]
                  simp)
                go_wp2_with (at_builtin; refine wpList_append_d _ rfl _ _ 286 rfl w.heap.size 5 i0 _ 1 1 Tryz.underlying286 hi hz0 hz1 hz2 rfl (by decide) _ _ _ rfl (T0.out.alloc _) ⟨wr.heap.size, 0, none⟩ 1 1 (enc8 [byteOf n 0]) rfl ?a19 ?b19 one_enc8 ?d19 ?e19 ?f19 ?_)
                case a19 => rfl
                case b19 => rw [HV.out]; first | exact fun _ _ h => h | exact news_at (block_new _ _)
                case d19 => unfold maxLen; omega
                case e19 => omega
                case f19 => have h9 := T0.out.lt; simp at h9 ⊢; omega
                intro ao19 cp19 w9 hown hfrom hgr
                obtain ⟨m19, hm19⟩ : ∃ x, x = N9 + 1 := ⟨_, rfl⟩
                rw [← hm19] at hown hfrom ⊢
                have hmb19 : m19 ≤ 3500000 := by omega
                have HM19 := hidI hm19
                clear hm19
                have T1 := hidI (St.app T0.out _ (ns := [byteOf n 0]) hown (fun g hg => by simpa using hfrom g hg) hgr)
                clear hown hfrom hgr
                have T2 := T1.out
                obtain ⟨B19, hB19⟩ : ∃ x, x = BJ ++ ([byteOf n 0]) := ⟨_, rfl⟩
                rw [← hB19] at T1
                have HBB19 := hidI hB19
                clear hB19
                have hme : m19 = m11 + 8 := by have h1 := HM19.out; have h2 := HN9.out; omega
                have HME := hidI hme
                clear hme
                have T3 := hidI (show St w (.cells #[.int .u8 kind, .int .u8 cal, .int .u8 a, .int .u8 b, .int .u8 c, .int .i64 n] 62 (0, 0)) (.cells #[.bool true, .int .i64 (fr : Int), .bool true, .int .i64 fl, .int .i64 fM] 64 (0, 0)) _ w2.heap.size m19 (B11 ++ (be8 n).take 8) _ w9 from by have T2' := T2; rw [HBJ.out] at T2'; simpa [be8, List.append_assoc] using T2')
                clear T2
                go_wp2_with fail
                exact ⟨⟨8, ao19, cp19, m19, by omega, by go_num, rfl, HME.out, T3.out⟩, by simp [intOf]⟩
              · have hN8 := HN9.out
                have T4 := T0.out
                rw [HBJ.out, show (be8 n).take 8 = be8 n from rfl] at T4
                have TT := hidI T4
                clear T4
                obtain ⟨BB, hBB⟩ : ∃ x, x = B11 ++ be8 n := ⟨_, rfl⟩
                have T5 := TT.out
                rw [← hBB] at T5
                have S9 := hidI T5
                have HBBB := hidI hBB
                clear T5 hBB
                have hfin : BB = (l.take (k + 1)).flatMap bytesS := by
                  rw [take_snoc HO.out, List.flatMap_append, ← HBS.out]
                  simp only [List.flatMap_cons, List.flatMap_nil, List.append_nil]
                  rw [show bytesS ⟨kind, cal, a, b, c, n⟩ = bytesF ⟨true, fr, true, fl, fM⟩ ⟨kind, cal, a, b, c, n⟩ from by unfold bytesS; rw [HF.out], HBBB.out, HBB11.out, HBB10.out, HBB0.out]
                  simp [bytesF]
                have hlenB : BB.length = N9 := by have := S9.out.1.1; simpa [enc8] using this
                have HFIN := hidI hfin
                clear hfin
                subst hlenB
                clear hN8
                go_wp2_with fail
                exact ⟨⟨k + 1, BB, by omega, HFIN.out, by go_num, all_take HO.out HALL.out HCK.out, S9.out.2.2.2.2, S9.out.1⟩, by simp [intOf]; omega⟩
    · obtain rfl : k = l.length := by omega
      have hbs := HBS.out
      rw [List.take_length] at hbs
      have hcv : (convert 286 9 (.slice bo bs.length bc)).run Tryz.prog wr = .ok (.string ⟨bs.toArray⟩) wr := by
        rcases HOWN.out.2 with ⟨hv, h0⟩ | ⟨g, c, cur, hv, hb, hgg, _, _, _, ht⟩
        · simp only [Value.slice.injEq] at hv
          obtain ⟨rfl, -, rfl⟩ := hv
          obtain rfl := List.length_eq_zero_iff.1 h0
          kernel_rfl
        · simp only [Value.slice.injEq] at hv
          obtain ⟨rfl, -, rfl⟩ := hv
          refine run_convert_bytes_back wr _ _ 5 ⟨g, 0, none⟩ bc bs Tryz.underlying286 Tryz.underlying5 Tryz.underlying9 (fun j hj => ?_)
          have hat := (Rd.of_own HOWN.out).2
          obtain ⟨ao', cap', hv', _, hc'⟩ := hat
          simp only [Value.slice.injEq] at hv'
          obtain ⟨rfl, -, -⟩ := hv'
          obtain ⟨b', o', hbo, _, hc⟩ := hc' (by omega)
          simp only [Option.some.injEq, Addr.mk.injEq, and_true] at hbo
          obtain ⟨rfl, rfl⟩ := hbo
          have h1 := hc j (.int .u8 (bs[j].toNat : Int)) (by simp [enc8, hj])
          rw [Nat.zero_add] at h1
          have h2 : (⟨g, 0, none⟩ : Addr).add j = ⟨g, j, none⟩ := by unfold Addr.add; split <;> simp_all
          rw [h2]
          exact h1
      have HBS2 := hidI hbs
      clear hbs
      go_wp2_with fail
      go_ret2
      refine ⟨?_, HBEL.out⟩
      have hall := HALL.out
      rw [List.take_length] at hall
      unfold encV
      rw [if_pos hall, ← HBS2.out]
      rfl
end Go.Proofs.YtbfghkhfiflibaaGreatDoor

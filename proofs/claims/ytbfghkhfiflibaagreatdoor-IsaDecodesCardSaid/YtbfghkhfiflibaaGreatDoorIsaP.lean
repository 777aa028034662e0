/- Reading an instruction back from its bytes: plain laws, no program in sight. -/
import Derived.Test.YtbfghkhfiflibaaGreatDoorIsaD2
namespace Go.Proofs.YtbfghkhfiflibaaGreatDoor

def at8 (l : List UInt8) (i : Nat) : Int := ((l.getD i 0).toNat : Int)
def wr64 (n : Int) : Int := (n + 9223372036854775808) % 18446744073709551616 - 9223372036854775808
/-- eight bytes as a number -/
def num8 (l : List UInt8) (i : Nat) : Int :=
  wr64 (wr64 (wr64 (wr64 (wr64 (wr64 (wr64 (wr64 (0 * 256 + at8 l i) * 256 + at8 l (i + 1)) * 256 + at8 l (i + 2)) * 256 + at8 l (i + 3)) * 256 + at8 l (i + 4)) * 256 + at8 l (i + 5)) * 256 + at8 l (i + 6)) * 256 + at8 l (i + 7))
def needF (f : Fm) : Nat := f.regs + (if f.cal = true then 1 else 0) + (if f.n = true then 8 else 0)
def opOf (k : UInt8) (f : Fm) (r : List UInt8) : OpD :=
  let c := if f.cal = true then 1 else 0
  ⟨(k.toNat : Int), if f.cal = true then at8 r 0 else 0, if 0 < f.regs then at8 r c else 0, if 1 < f.regs then at8 r (c + 1) else 0, if 2 < f.regs then at8 r (c + 2) else 0, if f.n = true then num8 r (c + f.regs) else 0⟩
/-- the instruction that begins a row of bytes, and how many it takes -/
def parse1 : List UInt8 → Option (OpD × Nat)
  | [] => none
  | k :: r => match formS (k.toNat : Int) with
    | none => none
    | some f => if r.length < needF f then none else if checkS (opOf k f r) = true then some (opOf k f r, 1 + needF f) else none

theorem nest_sum (b0 b1 b2 b3 b4 b5 b6 b7 : Int) (h0 : 0 ≤ b0 ∧ b0 < 256) (h1 : 0 ≤ b1 ∧ b1 < 256) (h2 : 0 ≤ b2 ∧ b2 < 256) (h3 : 0 ≤ b3 ∧ b3 < 256) (h4 : 0 ≤ b4 ∧ b4 < 256) (h5 : 0 ≤ b5 ∧ b5 < 256) (h6 : 0 ≤ b6 ∧ b6 < 256) (h7 : 0 ≤ b7 ∧ b7 < 256) :
    wr64 (wr64 (wr64 (wr64 (wr64 (wr64 (wr64 (wr64 (0 * 256 + b0) * 256 + b1) * 256 + b2) * 256 + b3) * 256 + b4) * 256 + b5) * 256 + b6) * 256 + b7) =
      wr64 (b0 * 72057594037927936 + b1 * 281474976710656 + b2 * 1099511627776 + b3 * 4294967296 + b4 * 16777216 + b5 * 65536 + b6 * 256 + b7) := by
  have w : ∀ x : Int, 0 ≤ x → x < 9223372036854775808 → wr64 x = x := fun x h1 h2 => by unfold wr64; omega
  rw [w (0 * 256 + b0) (by omega) (by omega)]
  rw [w ((0 * 256 + b0) * 256 + b1) (by omega) (by omega)]
  rw [w (((0 * 256 + b0) * 256 + b1) * 256 + b2) (by omega) (by omega)]
  rw [w ((((0 * 256 + b0) * 256 + b1) * 256 + b2) * 256 + b3) (by omega) (by omega)]
  rw [w (((((0 * 256 + b0) * 256 + b1) * 256 + b2) * 256 + b3) * 256 + b4) (by omega) (by omega)]
  rw [w ((((((0 * 256 + b0) * 256 + b1) * 256 + b2) * 256 + b3) * 256 + b4) * 256 + b5) (by omega) (by omega)]
  rw [w (((((((0 * 256 + b0) * 256 + b1) * 256 + b2) * 256 + b3) * 256 + b4) * 256 + b5) * 256 + b6) (by omega) (by omega)]
  congr 1
  omega

theorem byte_rng (b : UInt8) : 0 ≤ (b.toNat : Int) ∧ (b.toNat : Int) < 256 := ⟨by omega, by have := b.toNat_lt; omega⟩

theorem byteOf_val (n : Int) (s : Nat) : ((byteOf n s).toNat : Int) = n / 2 ^ s % 256 := by
  unfold byteOf
  exact u8_back (Int.emod_nonneg _ (by decide)) (Int.emod_lt_of_pos _ (by decide))

/-- a number's bytes give it back -/
theorem nest_be8 (n : Int) (h1 : -9223372036854775808 ≤ n) (h2 : n ≤ 9223372036854775807) :
    wr64 (n / 72057594037927936 % 256 * 72057594037927936 + n / 281474976710656 % 256 * 281474976710656 + n / 1099511627776 % 256 * 1099511627776 + n / 4294967296 % 256 * 4294967296 + n / 16777216 % 256 * 16777216 + n / 65536 % 256 * 65536 + n / 256 % 256 * 256 + n % 256) = n := by
  have q1 : n / 65536 = n / 256 / 256 := by omega
  have q2 : n / 16777216 = n / 65536 / 256 := by omega
  have q3 : n / 4294967296 = n / 16777216 / 256 := by omega
  have q4 : n / 1099511627776 = n / 4294967296 / 256 := by omega
  have q5 : n / 281474976710656 = n / 1099511627776 / 256 := by omega
  have q6 : n / 72057594037927936 = n / 281474976710656 / 256 := by omega
  unfold wr64
  generalize n / 72057594037927936 = x7 at *
  generalize n / 281474976710656 = x6 at *
  generalize n / 1099511627776 = x5 at *
  generalize n / 4294967296 = x4 at *
  generalize n / 16777216 = x3 at *
  generalize n / 65536 = x2 at *
  omega

/-- bytes are those of the number that they give -/
theorem be8_nest (b0 b1 b2 b3 b4 b5 b6 b7 : UInt8) : be8 (wr64 (b0.toNat * 72057594037927936 + b1.toNat * 281474976710656 + b2.toNat * 1099511627776 + b3.toNat * 4294967296 + b4.toNat * 16777216 + b5.toNat * 65536 + b6.toNat * 256 + b7.toNat)) = [b0, b1, b2, b3, b4, b5, b6, b7] := by
  have r0 := byte_rng b0
  have r1 := byte_rng b1
  have r2 := byte_rng b2
  have r3 := byte_rng b3
  have r4 := byte_rng b4
  have r5 := byte_rng b5
  have r6 := byte_rng b6
  have r7 := byte_rng b7
  have key : ∀ (s : Nat) (b : UInt8) (n : Int), n / 2 ^ s % 256 = (b.toNat : Int) → byteOf n s = b := fun s b n h => by
    have h3 := byteOf_val n s
    rw [h] at h3
    exact UInt8.toNat_inj.1 (by omega)
  simp only [be8, List.cons.injEq, and_true]
  refine ⟨?_, ?_, ?_, ?_, ?_, ?_, ?_, ?_⟩
  · refine key 56 _ _ ?_
    rw [show (2 : Int) ^ 56 = 72057594037927936 from rfl]
    unfold wr64
    omega
  · refine key 48 _ _ ?_
    rw [show (2 : Int) ^ 48 = 281474976710656 from rfl]
    unfold wr64
    omega
  · refine key 40 _ _ ?_
    rw [show (2 : Int) ^ 40 = 1099511627776 from rfl]
    unfold wr64
    omega
  · refine key 32 _ _ ?_
    rw [show (2 : Int) ^ 32 = 4294967296 from rfl]
    unfold wr64
    omega
  · refine key 24 _ _ ?_
    rw [show (2 : Int) ^ 24 = 16777216 from rfl]
    unfold wr64
    omega
  · refine key 16 _ _ ?_
    rw [show (2 : Int) ^ 16 = 65536 from rfl]
    unfold wr64
    omega
  · refine key 8 _ _ ?_
    rw [show (2 : Int) ^ 8 = 256 from rfl]
    unfold wr64
    omega
  · refine key 0 _ _ ?_
    rw [show (2 : Int) ^ 0 = 1 from rfl]
    unfold wr64
    omega

theorem be8_back (n : Int) (h1 : -9223372036854775808 ≤ n) (h2 : n ≤ 9223372036854775807) (pre rest : List UInt8) : num8 (pre ++ (be8 n ++ rest)) pre.length = n := by
  have g : ∀ (j : Nat) (hj : j < 8), at8 (pre ++ (be8 n ++ rest)) (pre.length + j) = (((be8 n).getD j 0).toNat : Int) := by
    intro j hj
    unfold at8
    congr 2
    simp only [List.getD_eq_getElem?_getD]
    rw [List.getElem?_append_right (by omega), Nat.add_sub_cancel_left, List.getElem?_append_left (by simp [be8]; omega)]
  have g0 := g 0 (by omega)
  rw [Nat.add_zero] at g0
  unfold num8
  rw [g0, g 1 (by omega), g 2 (by omega), g 3 (by omega), g 4 (by omega), g 5 (by omega), g 6 (by omega), g 7 (by omega)]
  rw [nest_sum _ _ _ _ _ _ _ _ (byte_rng _) (byte_rng _) (byte_rng _) (byte_rng _) (byte_rng _) (byte_rng _) (byte_rng _) (byte_rng _)]
  simp only [be8, List.getD_cons_zero, List.getD_cons_succ, byteOf_val]
  have := nest_be8 n h1 h2
  simpa using this

/-- an instruction that may be comes back from its bytes, whatever stands behind -/
theorem parse_bytes (o : OpD) (hw : wfOp o) (hc : checkS o = true) (rest : List UInt8) : parse1 (bytesS o ++ rest) = some (o, (bytesS o).length) := by
  obtain ⟨f, hf⟩ := check_form hc
  have hb : bytesS o = bytesF f o := by unfold bytesS; rw [hf]
  have hfr := form_regs hf
  obtain ⟨kind, cal, a, b, c, n⟩ := o
  obtain ⟨fc, fr, fn, fl, fM⟩ := f
  obtain ⟨hw0, hw1, hw2, hw3, hw4, hw5⟩ := hw
  simp only at hw0 hw1 hw2 hw3 hw4 hw5 hfr hf
  have hck := hc
  unfold checkS at hck
  simp only [hf, Bool.and_eq_true] at hck
  obtain ⟨⟨⟨⟨⟨c1, c2⟩, c3⟩, c4⟩, c5⟩, c6⟩ := hck
  rw [hb]
  have hk : ((toB kind).toNat : Int) = kind := u8_back hw0.1 hw0.2
  have ek : formS ((toB kind).toNat : Int) = some ⟨fc, fr, fn, fl, fM⟩ := by rw [hk]; exact hf
  have heq : opOf (toB kind) ⟨fc, fr, fn, fl, fM⟩ ((if fc = true then [toB cal] else []) ++ ([toB a, toB b, toB c].take fr ++ (if fn = true then be8 n else [])) ++ rest) = ⟨kind, cal, a, b, c, n⟩ := by
    have k1 : ((toB cal).toNat : Int) = cal := u8_back hw1.1 hw1.2
    have k2 : ((toB a).toNat : Int) = a := u8_back hw2.1 hw2.2
    have k3 : ((toB b).toNat : Int) = b := u8_back hw3.1 hw3.2
    have k4 : ((toB c).toNat : Int) = c := u8_back hw4.1 hw4.2
    have hn : fn = true → num8 ((if fc = true then [toB cal] else []) ++ ([toB a, toB b, toB c].take fr ++ (if fn = true then be8 n else [])) ++ rest) ((if fc = true then 1 else 0) + fr) = n := by
      intro h
      subst h
      have h1 := be8_back n hw5.1 hw5.2 ((if fc = true then [toB cal] else []) ++ [toB a, toB b, toB c].take fr) rest
      have e1 : ((if fc = true then [toB cal] else []) ++ [toB a, toB b, toB c].take fr).length = (if fc = true then 1 else 0) + fr := by
        simp only [List.length_append, List.length_take, List.length_cons, List.length_nil]
        have : (if fc = true then [toB cal] else []).length = if fc = true then 1 else 0 := by split <;> rfl
        omega
      rw [e1] at h1
      simpa [List.append_assoc] using h1
    have hn0 : fn = false → n = 0 := by
      intro h
      subst h
      simpa [okNum] using c6
    simp only [opOf, OpD.mk.injEq]
    refine ⟨hk, ?_, ?_, ?_, ?_, ?_⟩
    · cases fc with
      | true => simp [at8, k1]
      | false => simp at c1 ⊢; omega
    · rcases (by omega : fr = 0 ∨ fr = 1 ∨ fr = 2 ∨ fr = 3) with rfl | rfl | rfl | rfl <;> cases fc <;> simp [at8, okReg] at c3 ⊢ <;> omega
    · rcases (by omega : fr = 0 ∨ fr = 1 ∨ fr = 2 ∨ fr = 3) with rfl | rfl | rfl | rfl <;> cases fc <;> simp [at8, okReg] at c4 ⊢ <;> omega
    · rcases (by omega : fr = 0 ∨ fr = 1 ∨ fr = 2 ∨ fr = 3) with rfl | rfl | rfl | rfl <;> cases fc <;> simp [at8, okReg] at c5 ⊢ <;> omega
    · cases fn with
      | true => simpa using hn rfl
      | false => simpa using (hn0 rfl).symm
  have hlen : ((if fc = true then [toB cal] else []) ++ ([toB a, toB b, toB c].take fr ++ (if fn = true then be8 n else [])) ++ rest).length = needF ⟨fc, fr, fn, fl, fM⟩ + rest.length := by
    simp only [needF, List.length_append, List.length_take, List.length_cons, List.length_nil]
    have e1 : (if fc = true then [toB cal] else []).length = if fc = true then 1 else 0 := by split <;> rfl
    have e2 : (if fn = true then be8 n else []).length = if fn = true then 8 else 0 := by split <;> rfl
    omega
  simp only [bytesF, List.cons_append, parse1, ek]
  rw [if_neg (by rw [hlen]; omega), heq, if_pos hc]
  congr 2
  have := hlen
  simp only [List.length_append] at this ⊢
  simp only [List.length_cons, List.length_append]
  omega

theorem toB_nat (b : UInt8) : toB (b.toNat : Int) = b := by
  unfold toB
  rw [Int.toNat_natCast, UInt8.ofNat_toNat]
theorem be8_of (p t : List UInt8) (b0 b1 b2 b3 b4 b5 b6 b7 : UInt8) : be8 (num8 (p ++ b0 :: b1 :: b2 :: b3 :: b4 :: b5 :: b6 :: b7 :: t) p.length) = [b0, b1, b2, b3, b4, b5, b6, b7] := by
  have g : ∀ (j : Nat) (hj : j < 8), at8 (p ++ b0 :: b1 :: b2 :: b3 :: b4 :: b5 :: b6 :: b7 :: t) (p.length + j) = (([b0, b1, b2, b3, b4, b5, b6, b7].getD j 0).toNat : Int) := by
    intro j hj
    unfold at8
    congr 2
    simp only [List.getD_eq_getElem?_getD]
    rw [List.getElem?_append_right (by omega), Nat.add_sub_cancel_left]
    rw [show b0 :: b1 :: b2 :: b3 :: b4 :: b5 :: b6 :: b7 :: t = [b0, b1, b2, b3, b4, b5, b6, b7] ++ t from rfl, List.getElem?_append_left (by simpa using hj)]
  have g0 := g 0 (by omega)
  rw [Nat.add_zero] at g0
  unfold num8
  rw [g0, g 1 (by omega), g 2 (by omega), g 3 (by omega), g 4 (by omega), g 5 (by omega), g 6 (by omega), g 7 (by omega)]
  rw [nest_sum _ _ _ _ _ _ _ _ (byte_rng _) (byte_rng _) (byte_rng _) (byte_rng _) (byte_rng _) (byte_rng _) (byte_rng _) (byte_rng _)]
  simp only [List.getD_cons_zero, List.getD_cons_succ]
  exact be8_nest b0 b1 b2 b3 b4 b5 b6 b7

theorem num8_rng (l : List UInt8) (i : Nat) : -9223372036854775808 ≤ num8 l i ∧ num8 l i ≤ 9223372036854775807 := by
  unfold num8
  generalize (wr64 _ * 256 + at8 l (i + 7)) = x
  unfold wr64
  omega
theorem at8_rng (l : List UInt8) (i : Nat) : 0 ≤ at8 l i ∧ at8 l i < 256 := byte_rng _
theorem if_rng {c : Prop} [Decidable c] {x : Int} (h : 0 ≤ x ∧ x < 256) : 0 ≤ (if c then x else 0) ∧ (if c then x else 0) < 256 := by split <;> omega
theorem opOf_wf (k : UInt8) (f : Fm) (r : List UInt8) : wfOp (opOf k f r) := by
  unfold opOf wfOp
  simp only
  refine ⟨byte_rng k, if_rng (at8_rng _ _), if_rng (at8_rng _ _), if_rng (at8_rng _ _), if_rng (at8_rng _ _), ?_⟩
  split
  · exact num8_rng _ _
  · omega

theorem ex1 {r : List UInt8} {m : Nat} (h : m + 1 ≤ r.length) : ∃ a t, r = a :: t ∧ m ≤ t.length := by
  cases r with
  | nil => simp at h
  | cons a t => exact ⟨a, t, rfl, by simp at h; omega⟩

set_option maxHeartbeats 1000000 in
/-- what is read is what its bytes say -/
theorem bytes_opOf (k : UInt8) (f : Fm) (r : List UInt8) (hfr : f.regs ≤ 3) (hl : needF f ≤ r.length) : ∃ t, k :: r = bytesF f (opOf k f r) ++ t := by
  obtain ⟨fc, fr, fn, fl, fM⟩ := f
  simp only at hfr
  rcases (by omega : fr = 0 ∨ fr = 1 ∨ fr = 2 ∨ fr = 3) with rfl | rfl | rfl | rfl <;> cases fc <;> cases fn
  · have h0 : 0 ≤ r.length := Nat.zero_le _
    refine ⟨r, ?_⟩
    simp [bytesF, opOf, at8, toB_nat]
  · have h8 : 8 ≤ r.length := by simpa [needF] using hl
    obtain ⟨r0, t0, rfl, h7⟩ := ex1 h8
    obtain ⟨r1, t1, rfl, h6⟩ := ex1 h7
    obtain ⟨r2, t2, rfl, h5⟩ := ex1 h6
    obtain ⟨r3, t3, rfl, h4⟩ := ex1 h5
    obtain ⟨r4, t4, rfl, h3⟩ := ex1 h4
    obtain ⟨r5, t5, rfl, h2⟩ := ex1 h3
    obtain ⟨r6, t6, rfl, h1⟩ := ex1 h2
    obtain ⟨r7, t7, rfl, h0⟩ := ex1 h1
    refine ⟨t7, ?_⟩
    have h8 := be8_of [] t7 r0 r1 r2 r3 r4 r5 r6 r7
    simp only [List.cons_append, List.nil_append, List.length_cons, List.length_nil, Nat.zero_add, Nat.reduceAdd] at h8
    simp [bytesF, opOf, at8, toB_nat, h8]
  · have h1 : 1 ≤ r.length := by simpa [needF] using hl
    obtain ⟨r0, t0, rfl, h0⟩ := ex1 h1
    refine ⟨t0, ?_⟩
    simp [bytesF, opOf, at8, toB_nat]
  · have h9 : 9 ≤ r.length := by simpa [needF] using hl
    obtain ⟨r0, t0, rfl, h8⟩ := ex1 h9
    obtain ⟨r1, t1, rfl, h7⟩ := ex1 h8
    obtain ⟨r2, t2, rfl, h6⟩ := ex1 h7
    obtain ⟨r3, t3, rfl, h5⟩ := ex1 h6
    obtain ⟨r4, t4, rfl, h4⟩ := ex1 h5
    obtain ⟨r5, t5, rfl, h3⟩ := ex1 h4
    obtain ⟨r6, t6, rfl, h2⟩ := ex1 h3
    obtain ⟨r7, t7, rfl, h1⟩ := ex1 h2
    obtain ⟨r8, t8, rfl, h0⟩ := ex1 h1
    refine ⟨t8, ?_⟩
    have h8 := be8_of [r0] t8 r1 r2 r3 r4 r5 r6 r7 r8
    simp only [List.cons_append, List.nil_append, List.length_cons, List.length_nil, Nat.zero_add, Nat.reduceAdd] at h8
    simp [bytesF, opOf, at8, toB_nat, h8]
  · have h1 : 1 ≤ r.length := by simpa [needF] using hl
    obtain ⟨r0, t0, rfl, h0⟩ := ex1 h1
    refine ⟨t0, ?_⟩
    simp [bytesF, opOf, at8, toB_nat]
  · have h9 : 9 ≤ r.length := by simpa [needF] using hl
    obtain ⟨r0, t0, rfl, h8⟩ := ex1 h9
    obtain ⟨r1, t1, rfl, h7⟩ := ex1 h8
    obtain ⟨r2, t2, rfl, h6⟩ := ex1 h7
    obtain ⟨r3, t3, rfl, h5⟩ := ex1 h6
    obtain ⟨r4, t4, rfl, h4⟩ := ex1 h5
    obtain ⟨r5, t5, rfl, h3⟩ := ex1 h4
    obtain ⟨r6, t6, rfl, h2⟩ := ex1 h3
    obtain ⟨r7, t7, rfl, h1⟩ := ex1 h2
    obtain ⟨r8, t8, rfl, h0⟩ := ex1 h1
    refine ⟨t8, ?_⟩
    have h8 := be8_of [r0] t8 r1 r2 r3 r4 r5 r6 r7 r8
    simp only [List.cons_append, List.nil_append, List.length_cons, List.length_nil, Nat.zero_add, Nat.reduceAdd] at h8
    simp [bytesF, opOf, at8, toB_nat, h8]
  · have h2 : 2 ≤ r.length := by simpa [needF] using hl
    obtain ⟨r0, t0, rfl, h1⟩ := ex1 h2
    obtain ⟨r1, t1, rfl, h0⟩ := ex1 h1
    refine ⟨t1, ?_⟩
    simp [bytesF, opOf, at8, toB_nat]
  · have h10 : 10 ≤ r.length := by simpa [needF] using hl
    obtain ⟨r0, t0, rfl, h9⟩ := ex1 h10
    obtain ⟨r1, t1, rfl, h8⟩ := ex1 h9
    obtain ⟨r2, t2, rfl, h7⟩ := ex1 h8
    obtain ⟨r3, t3, rfl, h6⟩ := ex1 h7
    obtain ⟨r4, t4, rfl, h5⟩ := ex1 h6
    obtain ⟨r5, t5, rfl, h4⟩ := ex1 h5
    obtain ⟨r6, t6, rfl, h3⟩ := ex1 h4
    obtain ⟨r7, t7, rfl, h2⟩ := ex1 h3
    obtain ⟨r8, t8, rfl, h1⟩ := ex1 h2
    obtain ⟨r9, t9, rfl, h0⟩ := ex1 h1
    refine ⟨t9, ?_⟩
    have h8 := be8_of [r0, r1] t9 r2 r3 r4 r5 r6 r7 r8 r9
    simp only [List.cons_append, List.nil_append, List.length_cons, List.length_nil, Nat.zero_add, Nat.reduceAdd] at h8
    simp [bytesF, opOf, at8, toB_nat, h8]
  · have h2 : 2 ≤ r.length := by simpa [needF] using hl
    obtain ⟨r0, t0, rfl, h1⟩ := ex1 h2
    obtain ⟨r1, t1, rfl, h0⟩ := ex1 h1
    refine ⟨t1, ?_⟩
    simp [bytesF, opOf, at8, toB_nat]
  · have h10 : 10 ≤ r.length := by simpa [needF] using hl
    obtain ⟨r0, t0, rfl, h9⟩ := ex1 h10
    obtain ⟨r1, t1, rfl, h8⟩ := ex1 h9
    obtain ⟨r2, t2, rfl, h7⟩ := ex1 h8
    obtain ⟨r3, t3, rfl, h6⟩ := ex1 h7
    obtain ⟨r4, t4, rfl, h5⟩ := ex1 h6
    obtain ⟨r5, t5, rfl, h4⟩ := ex1 h5
    obtain ⟨r6, t6, rfl, h3⟩ := ex1 h4
    obtain ⟨r7, t7, rfl, h2⟩ := ex1 h3
    obtain ⟨r8, t8, rfl, h1⟩ := ex1 h2
    obtain ⟨r9, t9, rfl, h0⟩ := ex1 h1
    refine ⟨t9, ?_⟩
    have h8 := be8_of [r0, r1] t9 r2 r3 r4 r5 r6 r7 r8 r9
    simp only [List.cons_append, List.nil_append, List.length_cons, List.length_nil, Nat.zero_add, Nat.reduceAdd] at h8
    simp [bytesF, opOf, at8, toB_nat, h8]
  · have h3 : 3 ≤ r.length := by simpa [needF] using hl
    obtain ⟨r0, t0, rfl, h2⟩ := ex1 h3
    obtain ⟨r1, t1, rfl, h1⟩ := ex1 h2
    obtain ⟨r2, t2, rfl, h0⟩ := ex1 h1
    refine ⟨t2, ?_⟩
    simp [bytesF, opOf, at8, toB_nat]
  · have h11 : 11 ≤ r.length := by simpa [needF] using hl
    obtain ⟨r0, t0, rfl, h10⟩ := ex1 h11
    obtain ⟨r1, t1, rfl, h9⟩ := ex1 h10
    obtain ⟨r2, t2, rfl, h8⟩ := ex1 h9
    obtain ⟨r3, t3, rfl, h7⟩ := ex1 h8
    obtain ⟨r4, t4, rfl, h6⟩ := ex1 h7
    obtain ⟨r5, t5, rfl, h5⟩ := ex1 h6
    obtain ⟨r6, t6, rfl, h4⟩ := ex1 h5
    obtain ⟨r7, t7, rfl, h3⟩ := ex1 h4
    obtain ⟨r8, t8, rfl, h2⟩ := ex1 h3
    obtain ⟨r9, t9, rfl, h1⟩ := ex1 h2
    obtain ⟨r10, t10, rfl, h0⟩ := ex1 h1
    refine ⟨t10, ?_⟩
    have h8 := be8_of [r0, r1, r2] t10 r3 r4 r5 r6 r7 r8 r9 r10
    simp only [List.cons_append, List.nil_append, List.length_cons, List.length_nil, Nat.zero_add, Nat.reduceAdd] at h8
    simp [bytesF, opOf, at8, toB_nat, h8]
  · have h3 : 3 ≤ r.length := by simpa [needF] using hl
    obtain ⟨r0, t0, rfl, h2⟩ := ex1 h3
    obtain ⟨r1, t1, rfl, h1⟩ := ex1 h2
    obtain ⟨r2, t2, rfl, h0⟩ := ex1 h1
    refine ⟨t2, ?_⟩
    simp [bytesF, opOf, at8, toB_nat]
  · have h11 : 11 ≤ r.length := by simpa [needF] using hl
    obtain ⟨r0, t0, rfl, h10⟩ := ex1 h11
    obtain ⟨r1, t1, rfl, h9⟩ := ex1 h10
    obtain ⟨r2, t2, rfl, h8⟩ := ex1 h9
    obtain ⟨r3, t3, rfl, h7⟩ := ex1 h8
    obtain ⟨r4, t4, rfl, h6⟩ := ex1 h7
    obtain ⟨r5, t5, rfl, h5⟩ := ex1 h6
    obtain ⟨r6, t6, rfl, h4⟩ := ex1 h5
    obtain ⟨r7, t7, rfl, h3⟩ := ex1 h4
    obtain ⟨r8, t8, rfl, h2⟩ := ex1 h3
    obtain ⟨r9, t9, rfl, h1⟩ := ex1 h2
    obtain ⟨r10, t10, rfl, h0⟩ := ex1 h1
    refine ⟨t10, ?_⟩
    have h8 := be8_of [r0, r1, r2] t10 r3 r4 r5 r6 r7 r8 r9 r10
    simp only [List.cons_append, List.nil_append, List.length_cons, List.length_nil, Nat.zero_add, Nat.reduceAdd] at h8
    simp [bytesF, opOf, at8, toB_nat, h8]
  · have h4 : 4 ≤ r.length := by simpa [needF] using hl
    obtain ⟨r0, t0, rfl, h3⟩ := ex1 h4
    obtain ⟨r1, t1, rfl, h2⟩ := ex1 h3
    obtain ⟨r2, t2, rfl, h1⟩ := ex1 h2
    obtain ⟨r3, t3, rfl, h0⟩ := ex1 h1
    refine ⟨t3, ?_⟩
    simp [bytesF, opOf, at8, toB_nat]
  · have h12 : 12 ≤ r.length := by simpa [needF] using hl
    obtain ⟨r0, t0, rfl, h11⟩ := ex1 h12
    obtain ⟨r1, t1, rfl, h10⟩ := ex1 h11
    obtain ⟨r2, t2, rfl, h9⟩ := ex1 h10
    obtain ⟨r3, t3, rfl, h8⟩ := ex1 h9
    obtain ⟨r4, t4, rfl, h7⟩ := ex1 h8
    obtain ⟨r5, t5, rfl, h6⟩ := ex1 h7
    obtain ⟨r6, t6, rfl, h5⟩ := ex1 h6
    obtain ⟨r7, t7, rfl, h4⟩ := ex1 h5
    obtain ⟨r8, t8, rfl, h3⟩ := ex1 h4
    obtain ⟨r9, t9, rfl, h2⟩ := ex1 h3
    obtain ⟨r10, t10, rfl, h1⟩ := ex1 h2
    obtain ⟨r11, t11, rfl, h0⟩ := ex1 h1
    refine ⟨t11, ?_⟩
    have h8 := be8_of [r0, r1, r2, r3] t11 r4 r5 r6 r7 r8 r9 r10 r11
    simp only [List.cons_append, List.nil_append, List.length_cons, List.length_nil, Nat.zero_add, Nat.reduceAdd] at h8
    simp [bytesF, opOf, at8, toB_nat, h8]

/-- a parse that succeeds says what stands at the head -/
theorem parse_sound {l : List UInt8} {o : OpD} {m : Nat} (h : parse1 l = some (o, m)) : checkS o = true ∧ wfOp o ∧ m = (bytesS o).length ∧ ∃ t, l = bytesS o ++ t := by
  cases l with
  | nil => simp [parse1] at h
  | cons k r =>
    simp only [parse1] at h
    cases hf : formS (k.toNat : Int) with
    | none => rw [hf] at h; cases h
    | some f =>
      rw [hf] at h
      simp only at h
      split at h
      · cases h
      rename_i hl
      split at h
      · rename_i hc
        simp only [Option.some.injEq, Prod.mk.injEq] at h
        obtain ⟨rfl, rfl⟩ := h
        have hb : bytesS (opOf k f r) = bytesF f (opOf k f r) := by
          unfold bytesS
          rw [show (opOf k f r).kind = (k.toNat : Int) from rfl, hf]
        obtain ⟨t, ht⟩ := bytes_opOf k f r (form_regs hf) (by omega)
        refine ⟨hc, opOf_wf k f r, ?_, t, by rw [hb]; exact ht⟩
        rw [hb]
        have hfr := form_regs hf
        simp only [bytesF, needF, List.length_cons, List.length_append, List.length_take, List.length_nil]
        have e1 : (if f.cal = true then [toB (opOf k f r).cal] else []).length = if f.cal = true then 1 else 0 := by split <;> rfl
        have e2 : (if f.n = true then be8 (opOf k f r).n else []).length = if f.n = true then 8 else 0 := by split <;> rfl
        omega
      · cases h

end Go.Proofs.YtbfghkhfiflibaaGreatDoor

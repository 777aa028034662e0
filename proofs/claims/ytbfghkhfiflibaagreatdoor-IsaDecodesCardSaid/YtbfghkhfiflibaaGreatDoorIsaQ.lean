/- Rows of instructions and their bytes: at most one row has given bytes; strings as rows of bytes; shift and or. -/
import Derived.Test.YtbfghkhfiflibaaGreatDoorIsaP
namespace Go.Proofs.YtbfghkhfiflibaaGreatDoor
open Go.RowKit

/-- a row that may be encoded -/
def Good (l : List OpD) : Prop := l.all checkS = true ∧ ∀ o ∈ l, wfOp o
theorem Good.head {o : OpD} {l : List OpD} (h : Good (o :: l)) : checkS o = true ∧ wfOp o ∧ Good l := by
  obtain ⟨h1, h2⟩ := h
  simp only [List.all_cons, Bool.and_eq_true] at h1
  exact ⟨h1.1, h2 o (by simp), h1.2, fun x hx => h2 x (by simp [hx])⟩
theorem Good.snoc {o : OpD} {l : List OpD} (h : Good l) (h1 : checkS o = true) (h2 : wfOp o) : Good (l ++ [o]) := by
  refine ⟨by rw [List.all_append, h.1]; simp [h1], fun x hx => ?_⟩
  rcases List.mem_append.1 hx with hx | hx
  · exact h.2 x hx
  · rw [List.mem_singleton.1 hx]; exact h2

theorem split_unique : ∀ (xs l : List OpD) (rest : List UInt8), Good xs → Good l → xs.flatMap bytesS ++ rest = l.flatMap bytesS → ∃ l', l = xs ++ l' ∧ rest = l'.flatMap bytesS
  | [], l, rest, _, _, h => ⟨l, rfl, by simpa using h⟩
  | x :: xs, l, rest, hx, hl, h => by
    obtain ⟨x1, x2, x3⟩ := hx.head
    cases l with
    | nil =>
      obtain ⟨f, hf⟩ := check_form x1
      have h1 := congrArg List.length h
      have h2 : 0 < (bytesS x).length := by unfold bytesS; rw [hf]; simp [bytesF]
      simp only [List.flatMap_cons, List.flatMap_nil, List.length_append, List.length_nil] at h1
      omega
    | cons y l =>
      obtain ⟨y1, y2, y3⟩ := hl.head
      simp only [List.flatMap_cons, List.append_assoc] at h
      have p1 := parse_bytes x x2 x1 (xs.flatMap bytesS ++ rest)
      have p2 := parse_bytes y y2 y1 (l.flatMap bytesS)
      rw [h, p2] at p1
      simp only [Option.some.injEq, Prod.mk.injEq] at p1
      obtain ⟨rfl, -⟩ := p1
      obtain ⟨l', hl1, hl2⟩ := split_unique xs l rest x3 y3 (List.append_cancel_left h)
      exact ⟨l', by rw [hl1]; rfl, hl2⟩

/-- no row has these bytes -/
def Stuck (bs : List UInt8) : Prop := ∀ l, Good l → l.length ≤ 262144 → l.flatMap bytesS ≠ bs
theorem stuck_parse {xs : List OpD} {bs rest : List UInt8} (hx : Good xs) (h : bs = xs.flatMap bytesS ++ rest) (hr : rest ≠ []) (hp : parse1 rest = none) : Stuck bs := by
  intro l hl _ he
  obtain ⟨l', h1, h2⟩ := split_unique xs l rest hx hl (by rw [← h, he])
  subst h1
  cases l' with
  | nil => exact hr (by simpa using h2)
  | cons y l' =>
    have hg : Good (y :: l') := ⟨by have := hl.1; rw [List.all_append, Bool.and_eq_true] at this; exact this.2, fun x hx => hl.2 x (by simp [hx])⟩
    obtain ⟨y1, y2, -⟩ := hg.head
    have p := parse_bytes y y2 y1 (l'.flatMap bytesS)
    rw [h2] at hp
    simp only [List.flatMap_cons] at hp
    rw [hp] at p
    cases p
theorem stuck_limit {xs : List OpD} {bs rest : List UInt8} (hx : Good xs) (h : bs = xs.flatMap bytesS ++ rest) (hr : rest ≠ []) (hn : xs.length = 262144) : Stuck bs := by
  intro l hl hlen he
  obtain ⟨l', h1, h2⟩ := split_unique xs l rest hx hl (by rw [← h, he])
  subst h1
  cases l' with
  | nil => exact hr (by simpa using h2)
  | cons y l' => simp at hlen; omega
theorem same_bytes {l m : List OpD} (hl : Good l) (hm : Good m) (h : l.flatMap bytesS = m.flatMap bytesS) : l = m := by
  obtain ⟨l', h1, h2⟩ := split_unique l m [] hl hm (by simpa using h)
  cases l' with
  | nil => simpa using h1.symm
  | cons y l' =>
    have hg : Good (y :: l') := ⟨by have := hm.1; rw [h1, List.all_append, Bool.and_eq_true] at this; exact this.2, fun x hx => hm.2 x (by rw [h1]; simp [hx])⟩
    obtain ⟨f, hf⟩ := check_form hg.head.1
    have h3 := congrArg List.length h2
    have h4 : 0 < (bytesS y).length := by unfold bytesS; rw [hf]; simp [bytesF]
    simp at h3
    omega

/-- a string of these bytes -/
def strOf (l : List UInt8) : ByteArray := ⟨l.toArray⟩
theorem strOf_size (l : List UInt8) : (strOf l).size = l.length := by simp [strOf, ByteArray.size]
theorem str_index (l : List UInt8) (i : Nat) (b : UInt8) (h : l[i]? = some b) (w : World) : (Instr.index 9 (.string (strOf l)) (.int .i64 (i : Int))).run Tryz.prog w = .ok (.int .u8 (b.toNat : Int)) w := by
  obtain ⟨hi, hb⟩ := List.getElem?_eq_some_iff.1 h
  rw [run_index_string w _ _ _ _ Tryz.underlying9, dif_pos ⟨by omega, by rw [strOf_size]; omega⟩]
  congr 3
  subst hb
  simp [strOf, ByteArray.getElem_eq_getElem_data]
theorem str_from (l : List UInt8) (i : Nat) (h : i ≤ l.length) (w : World) : (Instr.sliceAt 9 (.string (strOf l)) (some (.int .i64 (i : Int))) none none).run Tryz.prog w = .ok (.string (strOf (l.drop i))) w := by
  rw [run_sliceAt_string w _ _ _ _ _ Tryz.underlying9]
  rw [run_slice_string_from_if w _ _ _ _ Tryz.underlying9, if_pos ⟨by omega, by rw [strOf_size]; omega⟩]
  congr 2
  rw [strOf_size]
  unfold strOf
  rw [Int.toNat_natCast, ByteArray.extract_mk]
  congr 1
  have e : List.take (l.length - i) (List.drop i l) = List.drop i l := List.take_of_length_le (by simp)
  first | exact congrArg List.toArray e | (simp; exact e)

/-- x shifted by eight, a byte laid in -/
theorem shl_or (x b : Int) (h0 : 0 ≤ b) (h1 : b < 256) : bits BinOp.or IntKind.i64 (wrap64 (x * 256)) b = wrap64 (x * 256 + b) := by
  obtain ⟨n, rfl⟩ : ∃ n : Nat, b = (n : Int) := ⟨b.toNat, by omega⟩
  have hn : n < 2 ^ 8 := by omega
  unfold bits
  show IntKind.i64.wrap ((BitVec.ofInt 64 (wrap64 (x * 256)) ||| BitVec.ofInt 64 (n : Int)).toNat : Int) = _
  have e1 : (BitVec.ofInt 64 (wrap64 (x * 256))).toNat = 256 * ((x % 72057594037927936).toNat) := by
    rw [BitVec.toNat_ofInt]
    unfold wrap64
    omega
  have e2 : (BitVec.ofInt 64 (n : Int)).toNat = n := by
    rw [BitVec.toNat_ofInt]
    omega
  rw [BitVec.toNat_or, e1, e2]
  have e3 : 256 * ((x % 72057594037927936).toNat) ||| n = 256 * ((x % 72057594037927936).toNat) + n := by
    have := Nat.shiftLeft_add_eq_or_of_lt hn ((x % 72057594037927936).toNat)
    rw [Nat.shiftLeft_eq] at this
    rw [Nat.mul_comm]
    exact this.symm
  rw [e3, IntKind.wrap_i64]
  unfold wrap64
  omega

end Go.Proofs.YtbfghkhfiflibaaGreatDoor

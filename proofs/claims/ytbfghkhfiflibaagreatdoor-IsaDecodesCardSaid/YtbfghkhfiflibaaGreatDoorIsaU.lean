/- The document's Decode; that the bytes say where they go wrong, and how. -/
import Derived.Test.YtbfghkhfiflibaaGreatDoorIsaT
namespace Go.Proofs.YtbfghkhfiflibaaGreatDoor
open Go.RowKit
set_option linter.unusedVariables false
set_option linter.unusedSimpArgs false

theorem num8_drop (l : List UInt8) (i j : Nat) : num8 (l.drop i) j = num8 l (i + j) := by
  unfold num8
  simp only [at8_drop, Nat.add_assoc]
theorem form_shapes {k : Int} {f : Fm} (h : formS k = some f) : (f.cal = false ∧ f.regs = 1 ∧ f.n = true) ∨ (f.cal = false ∧ f.regs = 2 ∧ f.n = false) ∨ (f.cal = true ∧ f.regs = 2 ∧ f.n = false) ∨ (f.cal = false ∧ f.regs = 2 ∧ f.n = true) ∨ (f.cal = false ∧ f.regs = 0 ∧ f.n = true) ∨ (f.cal = false ∧ f.regs = 3 ∧ f.n = true) ∨ (f.cal = false ∧ f.regs = 0 ∧ f.n = false) ∨ (f.cal = false ∧ f.regs = 1 ∧ f.n = false) := by
  have hk := kinds (k := k) (by rw [h]; simp)
  rcases hk with rfl | rfl | rfl | rfl | rfl | rfl | rfl | rfl | rfl | rfl | rfl | rfl | rfl | rfl | rfl <;> simp [formS] at h <;> subst h <;> simp [fm]

theorem opAt_of (bs : List UInt8) (p : Nat) (k : UInt8) (r : List UInt8) (f : Fm) (hr : r = bs.drop (p + 1)) (hk : at8 bs p = (k.toNat : Int)) : opAt bs p (at8 bs p) f = opOf k f r := by
  subst hr
  unfold opAt opOf
  simp only [at8_drop, num8_drop, hk]
  cases f.cal
  · simp [Nat.add_assoc]
  · have e : p + (2 + f.regs) = p + (1 + (1 + f.regs)) := by omega
    simp [Nat.add_assoc, e]

/-- what one says of the bytes from a place on -/
def OneSays (rest : List UInt8) (p : Nat) (o : OpD) (z : Int) (b : Bool) : Prop := b = false ∧ parse1 rest = none ∨ b = true ∧ ∃ m, parse1 rest = some (o, m) ∧ z = ((p + m : Nat) : Int)

theorem one_any (w : World) (bs : List UInt8) (p : Nat) (k : UInt8) (r : List UInt8) (hd : bs.drop p = k :: r) (hbs : bs.length ≤ 9223372036854775807) :
    Calls Tryz.prog 12 #[.string (strOf bs), .int .i64 (p : Int)] w fun e w' => (∃ o z b, e = .returned (.tuple #[.agg (encOp o).toArray, .int .i64 z, .bool b]) ∧ OneSays (k :: r) p o z b) ∧ Below w.heap.size w w' := by
  have hlen : bs.length = p + 1 + r.length := by
    have h1 := congrArg List.length hd
    simp at h1
    omega
  have hp : p < bs.length := by omega
  have hr : r = bs.drop (p + 1) := by
    have h1 : (bs.drop p).drop 1 = r := by rw [hd]; rfl
    rw [List.drop_drop] at h1
    exact h1.symm
  have hk : at8 bs p = (k.toNat : Int) := by
    have h1 := at8_drop bs p 0
    rw [hd] at h1
    simpa [at8] using h1.symm
  cases hf : formS (at8 bs p) with
  | none =>
    refine (one_none w bs p hp hf).mono ?_
    rintro e w' ⟨rfl, hb⟩
    exact ⟨⟨zeroOp, 0, false, rfl, .inl ⟨rfl, by rw [hk] at hf; simp [parse1, hf]⟩⟩, hb⟩
  | some f =>
    have hc : Calls Tryz.prog 12 #[.string (strOf bs), .int .i64 (p : Int)] w fun e w' => e = .returned (oneV bs p (at8 bs p) f) ∧ Below w.heap.size w w' := by
      have hs := form_shapes hf
      obtain ⟨fc, fr, fn, fl, fM⟩ := f
      simp only at hs
      rcases hs with ⟨rfl, rfl, rfl⟩ | ⟨rfl, rfl, rfl⟩ | ⟨rfl, rfl, rfl⟩ | ⟨rfl, rfl, rfl⟩ | ⟨rfl, rfl, rfl⟩ | ⟨rfl, rfl, rfl⟩ | ⟨rfl, rfl, rfl⟩ | ⟨rfl, rfl, rfl⟩
      · exact one_011 w bs p hp hbs fl fM hf
      · exact one_020 w bs p hp hbs fl fM hf
      · exact one_120 w bs p hp hbs fl fM hf
      · exact one_021 w bs p hp hbs fl fM hf
      · exact one_001 w bs p hp hbs fl fM hf
      · exact one_031 w bs p hp hbs fl fM hf
      · exact one_000 w bs p hp hbs fl fM hf
      · exact one_010 w bs p hp hbs fl fM hf
    refine hc.mono ?_
    rintro e w' ⟨rfl, hb⟩
    refine ⟨?_, hb⟩
    have hf2 : formS (k.toNat : Int) = some f := by rw [← hk]; exact hf
    unfold oneV
    by_cases hsh : bs.length < p + 1 + needF f
    · rw [if_pos hsh]
      exact ⟨zeroOp, 0, false, rfl, .inl ⟨rfl, by simp only [parse1, hf2]; rw [if_pos (by omega)]⟩⟩
    · rw [if_neg hsh, opAt_of bs p k r f hr hk]
      cases hck : checkS (opOf k f r) with
      | false => exact ⟨_, _, _, rfl, .inl ⟨rfl, by simp only [parse1, hf2]; rw [if_neg (by omega), if_neg (by rw [hck]; decide)]⟩⟩
      | true => exact ⟨_, _, _, rfl, .inr ⟨rfl, 1 + needF f, by simp only [parse1, hf2]; rw [if_neg (by omega), if_pos hck], by omega⟩⟩

set_option maxHeartbeats 4000000 in
theorem rdecode_any (w : World) (bs : List UInt8) (hbs : bs.length ≤ 9223372036854775807) : Calls Tryz.prog 5 #[.string (strOf bs)] w fun e w' => DecYes bs w e w' ∨ DecNo bs w e w' := by
  obtain ⟨i0, hi, hz0, hz1, hz2⟩ := info_parts opInfo
  have hsz := strOf_size bs
  have HBS := hidI hbs
  clear hbs
  go_enter Tryz.func5, Tryz.ntmps5
  go_wp2_with fail
  go_loopw [6, 5] (fun i v wr => ∃ (xs : List OpD) (rest : List UInt8) (p : Nat), i = .int .i64 (p : Int) ∧ bs = xs.flatMap bytesS ++ rest ∧ p = (xs.flatMap bytesS).length ∧ Good xs ∧ xs.length ≤ 262144 ∧ Below w.heap.size w wr ∧
    wr.ownsRow w.heap.size 62 6 v xs.length (xs.flatMap encOp)) (fun i _ _ => ((bs.length : Int) - intOf i).toNat)
  case atStart => exact ⟨[], bs, 0, rfl, rfl, rfl, ⟨rfl, fun o ho => by simp at ho⟩, by simp, Below.refl _ _, World.ownsRow_nil _ _ _ _⟩
  case round =>
    obtain ⟨xs, rest, p, rfl, hbx, hp, hgood, hxl, hbel, hown⟩ := hrel
    obtain ⟨vo, vc, rfl⟩ := ownsRow_shape hown
    have hlen : bs.length = p + rest.length := by rw [hbx, List.length_append, ← hp]
    have HBX := hidI hbx
    have HP := hidI hp
    have HG := hidI hgood
    have HBEL := hidI hbel
    have HOWN := hidI hown
    clear hbx hp hgood hbel hown
    cases rest with
    | nil =>
      have hpl : p = bs.length := by simp only [List.length_nil] at hlen; omega
      clear hlen
      subst hpl
      go_wp2_with fail
      go_ret3
      refine .inl ⟨vo, vc, xs, rfl, HOWN.out, HG.out, hxl, ?_, HBEL.out⟩
      have := HBX.out
      simpa using this.symm
    | cons k r =>
      simp only [List.length_cons] at hlen
      have hpb : p < bs.length := by omega
      have hpr : p + 1 + r.length = bs.length := by omega
      have HLEN := hidI hpr
      clear hlen hpr
      obtain ⟨n9, hn9⟩ : ∃ x, x = xs.length := ⟨_, rfl⟩
      have HOWN2 := HOWN.out
      rw [← hn9] at HOWN2 hxl ⊢
      have HOWN' := hidI HOWN2
      have HN9 := hidI hn9
      clear HOWN2 hn9 HOWN
      by_cases hlim : n9 = 262144
      · have hl2 : (n9 == 262144) = true := by simp [hlim]
        subst hlim
        go_wp2_with fail
        go_ret3
        exact .inr ⟨p, 3, rfl, ⟨xs, _, HG.out, HBX.out, HP.out, by simp, .inl ⟨rfl, HN9.out.symm⟩⟩, HBEL.out⟩
      have HLT := hidI (show xs.length < 262144 from by rw [← HN9.out]; omega)
      have hl2 : (n9 == 262144) = false := by simp [hlim]
      have hl3 : ((n9 : Int) == 262144) = false := by simp; omega
      have HDR := hidI (show bs.drop p = k :: r from by rw [HBX.out, HP.out, List.drop_left])
      go_wp2_with fail
      refine (one_any _ bs p k r HDR.out HBS.out).mono ?_
      rintro e w1 ⟨⟨o, z, b, rfl, hs⟩, hb1⟩
      have HB1 := hidI hb1
      have HS := hidI hs
      clear hb1 hs
      simp only [encOp]
      cases b with
      | false =>
        have hno : parse1 (k :: r) = none := by
          rcases HS.out with ⟨-, h⟩ | ⟨h, -⟩
          · exact h
          · cases h
        have HNO := hidI hno
        clear hno
        go_wp2_with fail
        go_ret3
        exact .inr ⟨p, 13, rfl, ⟨xs, _, HG.out, HBX.out, HP.out, by simp, .inr ⟨rfl, HLT.out, HNO.out⟩⟩, HBEL.out.trans ((HB1.out.alloc HB1.out.size _).mono HBEL.out.size)⟩
      | true =>
        obtain ⟨m, hyes, hz⟩ : ∃ m, parse1 (k :: r) = some (o, m) ∧ z = ((p + m : Nat) : Int) := by
          rcases HS.out with ⟨h, -⟩ | ⟨-, h⟩
          · cases h
          · exact h
        subst hz
        obtain ⟨hck, hwo, hm, tt, htt⟩ := parse_sound hyes
        have hmp : 0 < m := by
          obtain ⟨f, hf⟩ := check_form hck
          rw [hm]
          unfold bytesS
          rw [hf]
          simp [bytesF]
        have hml : p + m ≤ bs.length := by
          have h1 := congrArg List.length htt
          simp only [List.length_cons, List.length_append] at h1
          have h2 := HLEN.out
          omega
        have HM := hidI hm
        have HTT := hidI htt
        have HCK := hidI hck
        have HWO := hidI hwo
        have HR2 := hidI (ownsRow_chg HOWN'.out (Chg.of_below (S := fun _ => False) HB1.out) (fun _ _ => id))
        have HB2 := hidI (HBEL.out.trans (HB1.out.mono HBEL.out.size))
        clear hyes hm htt hck hwo HS
        go_wp2_with (at_builtin; refine wpList_append_d _ rfl _ _ 22 rfl w.heap.size 62 i0 _ 6 16 Tryz.underlying22 hi hz0 hz1 hz2 rfl (by decide) _ _ _ rfl (ownsRow_chg HR2.out (((Chg.refl (fun _ => False) w1).alloc _).alloc _) (fun _ _ => id)) ⟨w1.heap.size + 1, 0, none⟩ 1 1 (encOp o) rfl rfl ?c1 ?c2 ?c3 ?c4 ?c5 ?_)
        case c1 => exact news_at (block_new2 _ _ _)
        case c2 => intro u hu; simp [encOp] at hu; rcases hu with rfl | rfl | rfl | rfl | rfl | rfl <;> rfl
        case c3 => unfold maxLen; omega
        case c4 => omega
        case c5 => have h9 := HB2.out.size; simp; omega
        intro ao3 cp3 w3 hown3 hfrom3 hgr3
        have hc3 : Chg (fun j => (Value.slice vo n9 vc).ownBlock = some j) w1 w3 := (((Chg.refl _ w1).alloc _).alloc _).grown hgr3 (fun k hk => .inl hk)
        have HB3 := hidI (HB2.out.trans (hc3.to_below HB2.out.size (fun k hk => (HR2.out.lt k hk).1)))
        have HO3 := hidI hown3
        clear hown3 hfrom3 hgr3 hc3
        go_wp2_with fail
        refine ⟨⟨xs ++ [o], tt, p + m, rfl, ?_, ?_, HG.out.snoc HCK.out HWO.out, ?_, HB3.out, ?_⟩, ?_⟩
        · rw [HBX.out, HTT.out]
          simp
        · rw [List.flatMap_append, List.length_append, ← HP.out]
          simp [HM.out]
        · rw [List.length_append, ← HN9.out]
          simp
          omega
        · have h9 := HO3.out
          rw [flat_snoc, List.length_append, ← HN9.out]
          exact h9
        · simp [intOf]
          omega

theorem Good.tail {o : OpD} {l : List OpD} (h : Good (o :: l)) : Good l := h.head.2.2
theorem split_two : ∀ (xs ys : List OpD) (r s : List UInt8), Good xs → Good ys → xs.flatMap bytesS ++ r = ys.flatMap bytesS ++ s → (∃ l, Good l ∧ ys = xs ++ l ∧ r = l.flatMap bytesS ++ s) ∨ (∃ l, Good l ∧ xs = ys ++ l ∧ s = l.flatMap bytesS ++ r)
  | [], ys, r, s, _, hy, h => .inl ⟨ys, hy, rfl, by simpa using h⟩
  | x :: xs, [], r, s, hx, _, h => .inr ⟨x :: xs, hx, rfl, by simpa using h.symm⟩
  | x :: xs, y :: ys, r, s, hx, hy, h => by
    obtain ⟨x1, x2, x3⟩ := hx.head
    obtain ⟨y1, y2, y3⟩ := hy.head
    simp only [List.flatMap_cons, List.append_assoc] at h
    have p1 := parse_bytes x x2 x1 (xs.flatMap bytesS ++ r)
    have p2 := parse_bytes y y2 y1 (ys.flatMap bytesS ++ s)
    rw [h, p2] at p1
    simp only [Option.some.injEq, Prod.mk.injEq] at p1
    obtain ⟨rfl, -⟩ := p1
    rcases split_two xs ys r s x3 y3 (List.append_cancel_left h) with ⟨l, g, h1, h2⟩ | ⟨l, g, h1, h2⟩
    · exact .inl ⟨l, g, by rw [h1]; rfl, h2⟩
    · exact .inr ⟨l, g, by rw [h1]; rfl, h2⟩

theorem stuck_one {xs ys : List OpD} {r s : List UInt8} {c d : Nat} (hl : ∃ l, Good l ∧ ys = xs ++ l ∧ r = l.flatMap bytesS ++ s) (hc : c = 3 ∧ xs.length = 262144 ∨ c = 13 ∧ xs.length < 262144 ∧ parse1 r = none) (hd : d = 3 ∧ ys.length = 262144 ∨ d = 13 ∧ ys.length < 262144 ∧ parse1 s = none) : xs = ys ∧ c = d := by
  obtain ⟨l, hg, rfl, rfl⟩ := hl
  cases l with
  | nil =>
    refine ⟨by simp, ?_⟩
    simp only [List.append_nil] at hd
    omega
  | cons y l =>
    exfalso
    obtain ⟨y1, y2, -⟩ := hg.head
    have hp := parse_bytes y y2 y1 (l.flatMap bytesS ++ s)
    rcases hc with ⟨-, h⟩ | ⟨-, -, h⟩
    · simp only [List.length_append, List.length_cons] at hd
      omega
    · rw [List.flatMap_cons, List.append_assoc, hp] at h
      cases h
theorem StuckAt.same {bs : List UInt8} {p c q d : Nat} (h : StuckAt bs p c) (g : StuckAt bs q d) : p = q ∧ c = d := by
  obtain ⟨xs, r, hx, h1, rfl, -, hc⟩ := h
  obtain ⟨ys, s, hy, h2, rfl, -, hd⟩ := g
  rcases split_two xs ys r s hx hy (by rw [← h1, ← h2]) with hl | hl
  · obtain ⟨h1, h2⟩ := stuck_one hl hc hd
    exact ⟨by rw [h1], h2⟩
  · obtain ⟨h1, h2⟩ := stuck_one hl hd hc
    exact ⟨by rw [h1], h2.symm⟩
theorem StuckAt.never {bs : List UInt8} {p c : Nat} {l : List OpD} (h : StuckAt bs p c) (hl : Good l) (hn : l.length ≤ 262144) (hb : l.flatMap bytesS = bs) : False := by
  obtain ⟨xs, r, hx, h1, -, hr, ⟨-, h2⟩ | ⟨-, -, h2⟩⟩ := h
  · exact stuck_limit hx h1 hr h2 l hl hn hb
  · exact stuck_parse hx h1 hr h2 l hl hn hb
end Go.Proofs.YtbfghkhfiflibaaGreatDoor

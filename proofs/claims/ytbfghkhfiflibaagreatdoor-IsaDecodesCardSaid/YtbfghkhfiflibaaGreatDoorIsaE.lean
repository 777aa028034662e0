/- turnstilelaw17.alive; isa.Decode at the bytes that it is asked for there. -/
import Derived.Test.YtbfghkhfiflibaaGreatDoorIsaD2
namespace Go.Proofs.YtbfghkhfiflibaaGreatDoor
open Go.RowKit

def str3 : Value := .string ⟨#[14, 2, 1]⟩
theorem opInfo : (Tryz.prog.info? 62).map (fun i => (i.zero, i.size, i.bytes)) = some (some (.agg #[.int .u8 0, .int .u8 0, .int .u8 0, .int .u8 0, .int .u8 0, .int .i64 0]), 6, 16) := by kernel_rfl

set_option maxRecDepth 100000 in
set_option maxHeartbeats 4000000 in
theorem decode_three (w : World) : Calls Tryz.prog 4 #[.string ⟨#[14, 2, 1]⟩] w fun e w' => e = .returned (.tuple #[.slice none 0 0, .int .i64 1, .int .i64 13]) ∧ Below w.heap.size w w' := by
  have j0 : ∀ w, (Instr.index 9 (.string ⟨#[14, 2, 1]⟩) (.int .i64 0)).run Tryz.prog w = .ok (.int .u8 14) w := fun _ => by kernel_rfl
  have j1 : ∀ w, (Instr.index 9 (.string ⟨#[14, 2, 1]⟩) (.int .i64 1)).run Tryz.prog w = .ok (.int .u8 2) w := fun _ => by kernel_rfl
  have s1 : ∀ w, (Instr.sliceAt 9 (.string ⟨#[14, 2, 1]⟩) (some (.int .i64 1)) none none).run Tryz.prog w = .ok (.string ⟨#[2, 1]⟩) w := fun _ => by kernel_rfl
  have s2 : ∀ w, (Instr.sliceAt 9 (.string ⟨#[14, 2, 1]⟩) (some (.int .i64 2)) none none).run Tryz.prog w = .ok (.string ⟨#[1]⟩) w := fun _ => by kernel_rfl
  have a0 : ∀ (p : Nat) (w : World), (Instr.index 68 (.agg #[.pointer (some ⟨p, 2, none⟩), .pointer (some ⟨p, 3, none⟩), .pointer (some ⟨p, 4, none⟩)]) (.int .i64 0)).run Tryz.prog w = .ok (.pointer (some ⟨p, 2, none⟩)) w := fun _ _ => by kernel_rfl
  have a1 : ∀ (p : Nat) (w : World), (Instr.index 68 (.agg #[.pointer (some ⟨p, 2, none⟩), .pointer (some ⟨p, 3, none⟩), .pointer (some ⟨p, 4, none⟩)]) (.int .i64 1)).run Tryz.prog w = .ok (.pointer (some ⟨p, 3, none⟩)) w := fun _ _ => by kernel_rfl
  have a2 : ∀ (p : Nat) (w : World), (Instr.index 68 (.agg #[.pointer (some ⟨p, 2, none⟩), .pointer (some ⟨p, 3, none⟩), .pointer (some ⟨p, 4, none⟩)]) (.int .i64 2)).run Tryz.prog w = .ok (.pointer (some ⟨p, 4, none⟩)) w := fun _ _ => by kernel_rfl
  obtain ⟨i0, hi, hz0, hz1, hz2⟩ := info_parts opInfo
  go_enter Tryz.func4, Tryz.ntmps4
  go_wp2_with fail
  go_loopw [3, 2] (fun i v wr => Below w.heap.size w wr ∧ (i = .int .i64 0 ∧ v = .slice none 0 0 ∨ i = .int .i64 1 ∧ ∃ ao cp, v = .slice ao 1 cp)) (fun i _ _ => (3 - intOf i).toNat)
  case atStart => exact ⟨Below.refl _ _, .inl ⟨rfl, rfl⟩⟩
  case round =>
    obtain ⟨hbel, ⟨rfl, rfl⟩ | ⟨rfl, ao, cp, rfl⟩⟩ := hrel
    · have HBEL := hidI hbel
      clear hbel
      go_wp2_with fail
      refine (formOf_14 _).mono ?_
      rintro e w1 ⟨rfl, hb1⟩
      have hblk := blk hb1 (block_new wr _)
      have HB1 := hidI (bnextA (Below.refl _ _) hb1)
      have y : ∀ x, (w1.alloc x).heap[wr.heap.size]? = _ := fun x => block_alloc hblk
      have y0 : ∀ x, (w1.alloc x).cell? ⟨wr.heap.size, 0, none⟩ = some (.int .u8 14) := fun x => cell_of_block (y x) rfl
      have y1 : ∀ x, (w1.alloc x).cell? ⟨wr.heap.size, 1, none⟩ = some (.int .u8 0) := fun x => cell_of_block (y x) rfl
      have y2 : ∀ x, (w1.alloc x).cell? ⟨wr.heap.size, 2, none⟩ = some (.int .u8 0) := fun x => cell_of_block (y x) rfl
      have y3 : ∀ x, (w1.alloc x).cell? ⟨wr.heap.size, 3, none⟩ = some (.int .u8 0) := fun x => cell_of_block (y x) rfl
      have y4 : ∀ x, (w1.alloc x).cell? ⟨wr.heap.size, 4, none⟩ = some (.int .u8 0) := fun x => cell_of_block (y x) rfl
      have y5 : ∀ x, (w1.alloc x).cell? ⟨wr.heap.size, 5, none⟩ = some (.int .i64 0) := fun x => cell_of_block (y x) rfl
      have HBLK := hidI hblk
      clear hb1 hblk y
      go_wp2_with fail
      go_loopw [65] (fun i wz => wz = w1.alloc (.cells #[.bool false, .int .i64 0, .bool false, .int .i64 (-9223372036854775808), .int .i64 9223372036854775807] 64) ∧ (i = .int .i64 0 ∨ i = .int .i64 1 ∨ i = .int .i64 2 ∨ i = .int .i64 3)) (fun i _ => (3 - intOf i).toNat)
      case atStart => exact ⟨rfl, .inl rfl⟩
      case round =>
        obtain ⟨rfl, rfl | rfl | rfl | rfl⟩ := hrel
        · go_wp2_with fail
          exact ⟨⟨trivial, .inr (.inl rfl)⟩, by simp [intOf]⟩
        · go_wp2_with fail
          exact ⟨⟨trivial, .inr (.inr (.inl rfl))⟩, by simp [intOf]⟩
        · go_wp2_with fail
          exact ⟨⟨trivial, .inr (.inr (.inr rfl))⟩, by simp [intOf]⟩
        · go_wp2_with fail
          refine (check_any _ ⟨14, 0, 0, 0, 0, 0⟩ (by unfold wfOp; decide)).mono ?_
          rintro e w2 ⟨rfl, hb2⟩
          rw [show codeV (checkS ⟨14, 0, 0, 0, 0, 0⟩) = .int .i64 0 from rfl]
          have hz2' := blk hb2 (block_alloc HBLK.out)
          have z0 : w2.cell? _ = some (.int .u8 14) := cell_of_block (o := 0) hz2' rfl
          have z1 : w2.cell? _ = some (.int .u8 0) := cell_of_block (o := 1) hz2' rfl
          have z2 : w2.cell? _ = some (.int .u8 0) := cell_of_block (o := 2) hz2' rfl
          have z3 : w2.cell? _ = some (.int .u8 0) := cell_of_block (o := 3) hz2' rfl
          have z4 : w2.cell? _ = some (.int .u8 0) := cell_of_block (o := 4) hz2' rfl
          have z5 : w2.cell? _ = some (.int .i64 0) := cell_of_block (o := 5) hz2' rfl
          have HB2 := hidI (HBEL.out.trans (((HB1.out.alloc HB1.out.size _).trans (hb2.mono (HB1.out.alloc HB1.out.size _).size)).mono HBEL.out.size))
          clear hb2 hz2' y0 y1 y2 y3 y4 y5
          have hsz := HB2.out.size
          go_wp2_with (at_builtin; refine wpList_append_d _ rfl _ _ 22 rfl w2.heap.size 62 i0 _ 6 16 Tryz.underlying22 hi hz0 hz1 hz2 rfl (by decide) _ 0 [] rfl (World.ownsRow_nil _ _ _ _) ⟨w2.heap.size, 0, none⟩ 1 1 (encOp ⟨14, 0, 0, 0, 0, 0⟩) rfl rfl ?c1 ?c2 ?c3 ?c4 ?c5 ?_)
          case c1 => exact news_at (block_new _ _)
          case c2 => intro u hu; simp [encOp] at hu; rcases hu with rfl | rfl | rfl | rfl | rfl | rfl <;> rfl
          case c3 => unfold maxLen; omega
          case c4 => omega
          case c5 => simp
          intro ao3 cp3 w3 hown3 hfrom3 hgr3
          have hb3 : Below w2.heap.size w2 w3 := (((Chg.refl (fun _ => False) w2).alloc _).grown hgr3 (fun k hk => by simp [Value.ownBlock] at hk)).to_below (Nat.le_refl _) (fun k hk => hk.elim)
          have HB3 := hidI (HB2.out.trans (hb3.mono hsz))
          clear hb3 hown3 hfrom3 hgr3
          go_wp2_with fail
          exact ⟨⟨HB3.out, .inr ⟨rfl, _, _, rfl⟩⟩, by simp [intOf]⟩
    · have HBEL := hidI hbel
      clear hbel
      go_wp2_with fail
      refine (formOf_2 _).mono ?_
      rintro e w1 ⟨rfl, hb1⟩
      have HB1 := hidI (bnextA (Below.refl _ _) hb1)
      clear hb1
      go_wp2_with fail
      go_ret3
      exact ⟨rfl, HBEL.out.trans ((HB1.out.alloc HB1.out.size _).mono HBEL.out.size)⟩

theorem lit_ops {w : World} {b : Nat} {t : TypeId} (l : List OpD) (h : w.heap[b]? = some (.cells (l.flatMap encOp).toArray t (0, 0))) (n : Nat) (hn : n = l.length) : RdT encOp w 6 (.slice (some ⟨b, 0, none⟩) n n) l := by
  subst hn
  refine ⟨flat_len encOp_len l, _, _, rfl, Nat.le_refl _, fun _ => ⟨b, 0, rfl, lt_of_block h, fun j u hj => ?_⟩⟩
  rw [Nat.zero_add]
  exact cell_of_block h (by simpa using hj)

set_option maxHeartbeats 4000000 in
theorem alive_any (w : World) : Calls Tryz.prog 9 #[] w fun e w' => e = .returned (.bool true) ∧ Below w.heap.size w w' := by
  go_enter Tryz.func9, Tryz.ntmps9
  go_wp2_with fail
  refine (encode_any (lit_ops [⟨2, 0, 1, 2, 0, 0⟩, ⟨14, 0, 0, 0, 0, 0⟩] (block_new w _) 2 rfl) (by intro o ho; simp at ho; rcases ho with rfl | rfl <;> (unfold wfOp; decide)) (by decide)).mono ?_
  rintro e w1 ⟨rfl, hb1⟩
  rw [show encV [⟨2, 0, 1, 2, 0, 0⟩, ⟨14, 0, 0, 0, 0, 0⟩] = .tuple #[.string ⟨#[2, 1, 2, 14]⟩, .int .i64 0] from by rfl]
  have HB1 := hidI (bnextA (Below.refl _ _) hb1)
  clear hb1
  go_wp2_with fail
  refine (decode_three _).mono ?_
  rintro e w2 ⟨rfl, hb2⟩
  have HB2 := hidI (HB1.out.trans (hb2.mono HB1.out.size))
  clear hb2
  go_wp2_with fail
  refine (check_any _ ⟨0, 0, 0, 0, 0, 0⟩ (by unfold wfOp; decide)).mono ?_
  rintro e w3 ⟨rfl, hb3⟩
  rw [show codeV (checkS ⟨0, 0, 0, 0, 0, 0⟩) = .int .i64 1 from rfl]
  have HB3 := hidI (HB2.out.trans (hb3.mono HB2.out.size))
  clear hb3
  go_wp2_with fail
  go_ret
  exact ⟨rfl, HB3.out⟩

end Go.Proofs.YtbfghkhfiflibaaGreatDoor

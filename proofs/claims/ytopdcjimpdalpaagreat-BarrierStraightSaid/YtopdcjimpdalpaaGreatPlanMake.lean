/- What plan.Make answers, for all words and frames. -/
import Derived.Test.YtopdcjimpdalpaaGreatPlanA
namespace Go.Proofs.YtopdcjimpdalpaaGreat
open Go.RowKit

def row4 (n : Int) (s : Int × Bool) : List Value :=
  [.int .i64 s.1, .int .i64 (tk n s).1, .int .i64 (tk 128 (tk n s)).1, .int .i64 (tk 64 (tk 128 (tk n s))).1, .int .i64 (tk 4096 (tk 64 (tk 128 (tk n s)))).1]
def adv (n : Int) (s : Int × Bool) : Int × Bool := tk 4096 (tk 64 (tk 128 (tk n s)))
def rows : List Int → Int × Bool → List Value
  | [], _ => []
  | n :: l, s => row4 n s ++ rows l (adv n s)
def fin : List Int → Int × Bool → Int × Bool
  | [], s => s
  | n :: l, s => fin l (adv n s)
theorem rows_snoc (l : List Int) (n : Int) : ∀ s, rows (l ++ [n]) s = rows l s ++ row4 n (fin l s) := by
  induction l with
  | nil => intro s; simp [rows, fin]
  | cons a l ih => intro s; simp [rows, fin, ih]
theorem fin_snoc (l : List Int) (n : Int) : ∀ s, fin (l ++ [n]) s = adv n (fin l s) := by
  induction l with
  | nil => intro s; simp [fin]
  | cons a l ih => intro s; simp [fin, ih]
theorem rows_len (l : List Int) : ∀ s, (rows l s).length = 5 * l.length := by
  induction l with
  | nil => intro s; simp [rows]
  | cons a l ih => intro s; simp [rows, row4, ih]; omega
def s0 (words : Int) : Int × Bool := tk 17 (tk words (1, false))

theorem tk_ok {n : Int} {s : Int × Bool} (hn : 0 ≤ n) (h : 1 ≤ s.1 ∧ s.1 ≤ 262144) : 1 ≤ (tk n s).1 ∧ (tk n s).1 ≤ 262144 := by
  unfold tk; split <;> simp <;> omega

/-- how Make stands: its result (block R), the closure's at and over, the plan p, what p.Threads owns -/
structure MkSt (w wr : World) (words : Int) (s : Int × Bool) (v : Value) (k : Nat) (xs : List Value) : Prop where
  r : wr.heap[w.heap.size]? = some (.cells #[.int .i64 0, .slice none 0 0, .int .i64 0] 46 (0, 0))
  a : wr.heap[w.heap.size + 1]? = some (.cells #[.int .i64 s.1] 3 (0, 0))
  o : wr.heap[w.heap.size + 1 + 1]? = some (.cells #[.bool s.2] 4 (0, 0))
  p : wr.heap[w.heap.size + 1 + 1 + 1]? = some (.cells #[.int .i64 words, v, .int .i64 0] 46 (0, 0))
  own : wr.ownsRow (w.heap.size + 1 + 1 + 1 + 1) 87 5 v k xs
  size : w.heap.size + 1 + 1 + 1 + 1 ≤ wr.heap.size
  bel : Below w.heap.size w wr

theorem take_st {w wr : World} {words : Int} {s : Int × Bool} {v : Value} {k : Nat} {xs : List Value} (h : MkSt w wr words s v k xs) (n : Int) (hn : 0 ≤ n) (hs : 1 ≤ s.1 ∧ s.1 ≤ 262144) :
    Calls Tryz.prog 40 #[.int .i64 n, .pointer (some ⟨w.heap.size + 1, 0, none⟩), .pointer (some ⟨w.heap.size + 1 + 1, 0, none⟩)] wr fun e w' => e = .returned (.int .i64 s.1) ∧ MkSt w w' words (tk n s) v k xs := by
  refine (take_any n _ _ s.1 s.2 wr hn hs.1 hs.2 h.a h.o (by omega)).mono ?_
  rintro e w' ⟨rfl, ha, ho, hsz, hch⟩
  have hS : ∀ b, b < wr.heap.size → b ≠ w.heap.size + 1 → b ≠ w.heap.size + 1 + 1 → w'.heap[b]? = wr.heap[b]? := fun b hb h1 h2 => hch.block b hb (by rintro (h | h) <;> omega)
  have hz := h.size
  refine ⟨rfl, ⟨?_, ha, ho, ?_, ?_, by omega, Chg.below h.bel (by omega) hch (by rintro k (h | h) <;> omega)⟩⟩
  · rw [hS _ (by omega) (by omega) (by omega)]; exact h.r
  · rw [hS _ (by omega) (by omega) (by omega)]; exact h.p
  · exact ownsRow_chg h.own hch (fun g hg => by have := h.own.lt g hg; rintro (h | h) <;> omega)

/-- the frames that are not negative, few enough -/
def okFrames (zs : List Int) : Prop := (∀ j, j < zs.length → 0 ≤ nth zs j) ∧ zs.length ≤ 4
instance (zs : List Int) : Decidable (okFrames zs) := by unfold okFrames; infer_instance

/-- what Make says: 1 (ErrArg), 3 (ErrLimit), 0 -/
def mkErr (words : Int) (zs : List Int) : Int :=
  if words < 0 then 1 else if ∃ j, j < zs.length ∧ nth zs j < 0 then 1 else if 4 < zs.length then 3 else if (fin zs (s0 words)).2 = true then 3 else 0

theorem mkErr_fin {words : Int} {zs : List Int} (h : 0 ≤ words) (h1 : ∀ j, j < zs.length → 0 ≤ nth zs j) (h2 : zs.length ≤ 4) : mkErr words zs = if (fin zs (s0 words)).2 = true then 3 else 0 := by
  rw [mkErr, if_neg (by omega), if_neg (by rintro ⟨j, hj, hj'⟩; have := h1 j hj; omega), if_neg (by omega)]

theorem MkSt.start (w : World) (words : Int) : MkSt w ((((w.alloc (Obj.cells #[Value.int IntKind.i64 0, Value.slice none 0 0, Value.int IntKind.i64 0] 46)).alloc
            (Obj.cells #[Value.int IntKind.i64 1] 3)).alloc (Obj.cells #[Value.bool false] 4)).alloc
    (Obj.cells #[Value.int IntKind.i64 words, Value.slice none 0 0, Value.int IntKind.i64 0] 46)) words (1, false) (.slice none 0 0) 0 [] := by
  refine ⟨?_, ?_, ?_, ?_, World.ownsRow_nil _ _ _ _, by simp, ?_⟩
  · show ((((w.heap.push _).push _).push _).push _)[_]? = _
    simp only [Array.getElem?_push, Array.size_push]
    rw [if_neg (by omega), if_neg (by omega), if_neg (by omega), if_pos trivial]
  · show ((((w.heap.push _).push _).push _).push _)[_]? = _
    simp only [Array.getElem?_push, Array.size_push]
    rw [if_neg (by omega), if_neg (by omega), if_pos trivial]
  · show ((((w.heap.push _).push _).push _).push _)[_]? = _
    simp only [Array.getElem?_push, Array.size_push]
    rw [if_neg (by omega), if_pos trivial]
  · show ((((w.heap.push _).push _).push _).push _)[_]? = _
    simp only [Array.getElem?_push, Array.size_push]
    rw [if_pos trivial]
  · exact ((((Below.refl _ _).alloc (Nat.le_refl _) _).alloc (by simp) _).alloc (by simp; omega) _).alloc (by simp; omega) _

theorem fin_ok {words : Int} {zs : List Int} (h : ∀ n ∈ zs, 0 ≤ n) (hw : 0 ≤ words) (k : Nat) : 1 ≤ (fin (zs.take k) (s0 words)).1 ∧ (fin (zs.take k) (s0 words)).1 ≤ 262144 := by
  have key : ∀ (l : List Int) s, (∀ n ∈ l, 0 ≤ n) → 1 ≤ s.1 ∧ s.1 ≤ 262144 → 1 ≤ (fin l s).1 ∧ (fin l s).1 ≤ 262144 := by
    intro l
    induction l with
    | nil => intro s _ h; exact h
    | cons a l ih =>
      intro s hl hs
      exact ih _ (fun n hn => hl n (by simp [hn])) (tk_ok (by omega) (tk_ok (by omega) (tk_ok (by omega) (tk_ok (hl a (by simp)) hs))))
  exact key _ _ (fun n hn => h n (List.mem_of_mem_take hn)) (tk_ok (by omega) (tk_ok hw (by simp)))

theorem MkSt.next {w wr w' : World} {words : Int} {zs : List Int} {k : Nat} {s : Int × Bool} {v v' : Value} {o o' : Obj} (h : MkSt w wr words (adv (nth zs k) s) v k (rows (zs.take k) (s0 words)))
    (hs : fin (zs.take k) (s0 words) = s) (ht : zs.take (k + 1) = zs.take k ++ [nth zs k]) (ho : w'.ownsRow (w.heap.size + 1 + 1 + 1 + 1) 87 5 v' (k + 1) (rows (zs.take k) (s0 words) ++ row4 (nth zs k) s))
    (hg : World.grownBy ((wr.alloc o).alloc o') w' v.ownBlock) :
    w'.heap[w.heap.size + 1 + 1 + 1]? = some (.cells #[.int .i64 words, v, .int .i64 0] 46 (0, 0)) ∧
    MkSt w (w'.setCell ⟨w.heap.size + 1 + 1 + 1, 1, none⟩ v') words (fin (zs.take (k + 1)) (s0 words)) v' (k + 1) (rows (zs.take (k + 1)) (s0 words)) := by
  have hz := h.size
  have hk : ∀ b, b < w.heap.size + 1 + 1 + 1 + 1 → w'.heap[b]? = wr.heap[b]? := fun b hb => by
    rw [hg.block b (by simp; omega) (fun e => by have := h.own.lt b e.symm; omega), Below.heap_alloc _ _ _ (by simp; omega), Below.heap_alloc _ _ _ (by omega)]
  have hsz := hg.size
  simp only [World.size_alloc] at hsz
  have hP : w'.heap[w.heap.size + 1 + 1 + 1]? = some (.cells #[.int .i64 words, v, .int .i64 0] 46 (0, 0)) := by rw [hk _ (by omega)]; exact h.p
  refine ⟨hP, ⟨?_, ?_, ?_, ?_, ?_, ?_, ?_⟩⟩
  · rw [Below.heap_setCell _ _ _ _ (by simp; omega), hk _ (by omega)]; exact h.r
  · rw [Below.heap_setCell _ _ _ _ (by simp), hk _ (by omega), ht, fin_snoc, hs]; exact h.a
  · rw [Below.heap_setCell _ _ _ _ (by simp), hk _ (by omega), ht, fin_snoc, hs]; exact h.o
  · exact block_setCell v' hP
  · rw [ht, rows_snoc, hs]
    exact ownsRow_setCell_below ho (by simp) _
  · simp [World.setCell]; omega
  · exact (((h.bel.alloc (by omega) _).alloc (by simp; omega) _).grown hg (by simp; omega) (fun b hb => by have := h.own.lt b hb; omega)).setCell (by simp; omega) _

/-- what Make answers -/
def MkPost (words : Int) (zs : List Int) (w : World) (e : Ending) (w' : World) : Prop :=
  ∃ v, e = .returned (.tuple #[.agg #[.int .i64 (if mkErr words zs = 0 then words else 0), v, .int .i64 (if mkErr words zs = 0 then (fin zs (s0 words)).1 else 0)], .int .i64 (mkErr words zs)]) ∧
    (mkErr words zs ≠ 0 → v = .slice none 0 0) ∧ (mkErr words zs = 0 → w'.ownsRow w.heap.size 87 5 v zs.length (rows zs (s0 words))) ∧ Below w.heap.size w w'

theorem MkPost.err {words : Int} {zs : List Int} {w w' : World} (n : Int) (hn : n ≠ 0) (h : mkErr words zs = n) (hb : Below w.heap.size w w') :
    MkPost words zs w (.returned (.tuple #[.agg #[.int .i64 0, .slice none 0 0, .int .i64 0], .int .i64 n])) w' := by
  refine ⟨.slice none 0 0, ?_, fun _ => rfl, fun h0 => absurd (h.symm.trans h0) hn, hb⟩
  rw [h, if_neg hn, if_neg hn]

theorem Tryz.info87 : (Tryz.prog.info? 87).map (fun i => (i.zero, i.size, i.bytes)) = some (some (.agg #[.int .i64 0, .int .i64 0, .int .i64 0, .int .i64 0, .int .i64 0]), 5, 40) := by kernel_rfl

set_option maxHeartbeats 1000000 in
theorem make_any (words : Int) (ao : Option Addr) (zs : List Int) (cap : Nat) (w : World) (hz : Ints w (.slice ao zs.length cap) zs) (hm : zs.length ≤ 9223372036854775807) :
    Calls Tryz.prog 18 #[.int .i64 words, .slice ao zs.length cap] w (MkPost words zs w) := by
  have HZ := hidI hz
  clear hz
  by_cases hw : words < 0
  · go_enter Tryz.func18, Tryz.ntmps18
    go_wp2
    refine bodyPost_ret (v := .tuple #[.agg #[.int .i64 0, .slice none 0 0, .int .i64 0], .int .i64 1]) (by simp [results, Tryz.results18, go_sem]) rfl ?_
    exact MkPost.err 1 (by omega) (by simp [mkErr, hw]) ((Below.refl _ _).alloc (Nat.le_refl _) _)
  go_enter Tryz.func18, Tryz.ntmps18
  go_wp2
  go_loop [20] (fun i => ∃ k : Nat, k ≤ zs.length ∧ i = .int .i64 k ∧ ∀ j, j < k → 0 ≤ nth zs j) (fun i => zs.length - (intOf i).toNat)
  case atStart => exact ⟨0, Nat.zero_le _, rfl, fun j hj => by omega⟩
  case round =>
    obtain ⟨k, hk, rfl, hall⟩ := hrel
    have Hall := hidI hall
    clear hall
    by_cases hlt : k < zs.length
    · obtain ⟨b, off, hao, hbs, hcell⟩ := Ints.at HZ.out hlt
      subst hao
      have hc2 : (w.alloc (Obj.cells #[Value.int IntKind.i64 0, Value.slice none 0 0, Value.int IntKind.i64 0] 46)).cell? ⟨b, off + k, none⟩ = some (.int .i64 (nth zs k)) := cell_later ((Below.refl _ _).alloc (Nat.le_refl _) _) hcell
      clear hcell
      by_cases hz : nth zs k < 0
      · go_wp2
        refine bodyPost_ret (v := .tuple #[.agg #[.int .i64 0, .slice none 0 0, .int .i64 0], .int .i64 1]) (by simp [results, Tryz.results18, go_sem]) rfl ?_
        refine MkPost.err 1 (by omega) ?_ ((Below.refl _ _).alloc (Nat.le_refl _) _)
        rw [mkErr, if_neg (by omega), if_pos ⟨k, hlt, hz⟩]
      · go_wp2
        refine ⟨⟨k + 1, by omega, by go_num, fun j hj => ?_⟩, by simp [intOf]; omega⟩
        rcases Nat.lt_or_ge j k with h | h
        · exact Hall.out j h
        · obtain rfl : j = k := by omega
          omega
    · obtain rfl : k = zs.length := by omega
      clear hk hlt
      by_cases h4 : 4 < zs.length
      · go_wp2
        refine bodyPost_ret (v := .tuple #[.agg #[.int .i64 0, .slice none 0 0, .int .i64 0], .int .i64 3]) (by simp [results, Tryz.results18, go_sem]) rfl ?_
        refine MkPost.err 3 (by omega) ?_ ((Below.refl _ _).alloc (Nat.le_refl _) _)
        rw [mkErr, if_neg (by omega), if_neg (by rintro ⟨j, hj, hj'⟩; have := Hall.out j hj; omega), if_pos h4]
      · have Hok : ∀ n ∈ zs, 0 ≤ n := by
          intro n hn
          obtain ⟨j, hj, rfl⟩ := List.mem_iff_getElem.1 hn
          have := Hall.out j hj
          simp only [nth, List.getD_eq_getElem?_getD, List.getElem?_eq_getElem hj, Option.getD_some] at this
          exact this
        have HE := hidI (mkErr_fin (words := words) (zs := zs) (by omega) Hall.out (by omega))
        have HK := hidI Hok
        clear Hok
        go_wp2_with fail
        refine (take_st (w := w) (MkSt.start w words) words hw (by simp)).mono ?_
        rintro e w1 ⟨rfl, hst1⟩
        go_wp2_with fail
        refine (take_st (w := w) hst1 17 (by omega) (tk_ok hw (by simp))).mono ?_
        rintro e w2 ⟨rfl, hst2⟩
        have HS := hidI hst2
        clear hst2 hst1
        go_wp2_with fail
        go_loopw [42] (fun i wr => ∃ (k : Nat) (v : Value), k ≤ zs.length ∧ i = .int .i64 k ∧ MkSt w wr words (fin (zs.take k) (s0 words)) v k (rows (zs.take k) (s0 words))) (fun i _ => zs.length - (intOf i).toNat)
        case atStart => exact ⟨0, .slice none 0 0, Nat.zero_le _, rfl, by simpa [fin, rows, s0] using HS.out⟩
        case round =>
          obtain ⟨k, v, hk, rfl, hst⟩ := hrel
          have hle := fin_ok HK.out hw k
          by_cases hlt : k < zs.length
          · obtain ⟨b, off, hao, hbs, hcell⟩ := Ints.at HZ.out hlt
            subst hao
            have hc2 : wr.cell? ⟨b, off + k, none⟩ = some (.int .i64 (nth zs k)) := cell_later hst.bel hcell
            clear hcell
            have hn0 : 0 ≤ nth zs k := Hall.out k hlt
            have HT := hidI (take_snoc_nth zs k hlt)
            generalize hs : fin (zs.take k) (s0 words) = s at *
            have HSS := hidI hs
            clear hs
            go_wp2_with fail
            refine (take_st (w := w) hst _ hn0 hle).mono ?_
            rintro e w3 ⟨rfl, hst3⟩
            go_wp2_with fail
            refine (take_st (w := w) hst3 128 (by omega) (tk_ok hn0 hle)).mono ?_
            rintro e w4 ⟨rfl, hst4⟩
            go_wp2_with fail
            refine (take_st (w := w) hst4 64 (by omega) (tk_ok (by omega) (tk_ok hn0 hle))).mono ?_
            rintro e w5 ⟨rfl, hst5⟩
            go_wp2_with fail
            refine (take_st (w := w) hst5 4096 (by omega) (tk_ok (by omega) (tk_ok (by omega) (tk_ok hn0 hle)))).mono ?_
            rintro e w6 ⟨rfl, hst6⟩
            clear hst hst3 hst4 hst5 hc2
            have cA := cell_of_one hst6.a
            have cP : w6.cell? ⟨w.heap.size + 1 + 1 + 1, 1, none⟩ = some v := cell_of_block hst6.p rfl
            have fP := free_of_block (o := 1) hst6.p
            have hsz := hst6.size
            have hb1 : w.heap.size + 1 < w6.heap.size := by omega
            have hb3 : w.heap.size + 1 + 1 + 1 < w6.heap.size := by omega
            have hown := hst6.own
            have H6 := hidI hst6
            clear hst6
            obtain ⟨i0, hi, hz0, hz1, hz2⟩ := info_parts Tryz.info87
            go_wp2_with (at_builtin; refine wpList_append_s _ rfl _ _ 44 rfl (w.heap.size + 1 + 1 + 1 + 1) 87 i0 _ 5 40 Tryz.underlying44 hi hz0 hz1 hz2 rfl (by decide) _ _ _ rfl ((hown.alloc _).alloc _) ⟨w6.heap.size + 1, 0, none⟩ 1 1 (row4 (nth zs k) s) rfl rfl ?c1 ?c2 ?c3 ?c4 ?c5 ?_)
            case c1 => exact news_at (block_new2 _ _ _)
            case c2 => intro u hu; simp [row4] at hu; rcases hu with rfl | rfl | rfl | rfl | rfl <;> rfl
            case c3 => unfold maxLen; omega
            case c4 => omega
            case c5 => simp; omega
            intro ao7 c7 w7 hown7 hgrow
            have HN := MkSt.next H6.out HSS.out HT.out hown7 hgrow
            have HX := hidI HN
            have cP7 : w7.cell? ⟨w.heap.size + 1 + 1 + 1, 1, none⟩ = some v := cell_of_block HN.1 rfl
            have fP7 := free_of_block (o := 1) HN.1
            clear HN hown7 hgrow hown cA cP fP
            go_wp2
            exact ⟨⟨k + 1, _, by omega, by go_num, HX.out.2⟩, by simp [intOf]; omega⟩
          · obtain rfl : k = zs.length := by omega
            have hst' := hst
            rw [List.take_length] at hst'
            have cR0 : wr.cell? ⟨w.heap.size, 0, none⟩ = some (.int .i64 0) := cell_of_block hst'.r rfl
            have cR1 : wr.cell? ⟨w.heap.size, 1, none⟩ = some (.slice none 0 0) := cell_of_block hst'.r rfl
            have cR2 : wr.cell? ⟨w.heap.size, 2, none⟩ = some (.int .i64 0) := cell_of_block hst'.r rfl
            have fR0 : wr.frozen? ⟨w.heap.size, 0, none⟩ = false := free_of_block hst'.r
            have fR1 : wr.frozen? ⟨w.heap.size, 1, none⟩ = false := free_of_block hst'.r
            have fR2 : wr.frozen? ⟨w.heap.size, 2, none⟩ = false := free_of_block hst'.r
            have cA := cell_of_one hst'.a
            have cO := cell_of_one hst'.o
            have cP0 : wr.cell? ⟨w.heap.size + 1 + 1 + 1, 0, none⟩ = some (.int .i64 words) := cell_of_block hst'.p rfl
            have cP1 : wr.cell? ⟨w.heap.size + 1 + 1 + 1, 1, none⟩ = some v := cell_of_block hst'.p rfl
            have cP2 : wr.cell? ⟨w.heap.size + 1 + 1 + 1, 2, none⟩ = some (.int .i64 0) := cell_of_block hst'.p rfl
            have fP2 : wr.frozen? ⟨w.heap.size + 1 + 1 + 1, 2, none⟩ = false := free_of_block hst'.p
            obtain ⟨ao7, c7, rfl⟩ := ownsRow_shape hst'.own
            have HF := hidI hst'
            clear hst hst'
            by_cases hov : (fin zs (s0 words)).2 = true
            · rw [hov] at cO
              go_wp2
              have hR := block_setCell (o := 2) (.int .i64 0) (block_setCell (o := 1) (.slice none 0 0) (block_setCell (o := 0) (.int .i64 0) HF.out.r))
              refine bodyPost_ret (v := .tuple #[.agg #[.int .i64 0, .slice none 0 0, .int .i64 0], .int .i64 3]) ?_ rfl ?_
              · have c0 := cell_of_block (o := 0) hR rfl
                have c1 := cell_of_block (o := 1) hR rfl
                have c2 := cell_of_block (o := 2) hR rfl
                simp [results, Tryz.results18, go_sem, c0, c1, c2]
              · exact MkPost.err 3 (by omega) (by rw [HE.out, if_pos hov]) (((HF.out.bel.setCell (by simp) _).setCell (by simp) _).setCell (by simp) _)
            · have hov' : (fin zs (s0 words)).2 = false := by simpa using hov
              rw [hov'] at cO
              go_wp2
              have hR := block_setCell (o := 2) (.int .i64 (fin zs (s0 words)).1) (block_setCell (o := 1) (.slice ao7 zs.length c7) (block_setCell (o := 0) (.int .i64 words) (block_other (a := ⟨w.heap.size + 1 + 1 + 1, 2, none⟩) (u := .int .i64 (fin zs (s0 words)).1) HF.out.r (by simp; omega))))
              have h0 : mkErr words zs = 0 := by rw [HE.out, if_neg hov]
              refine bodyPost_ret (v := .tuple #[.agg #[.int .i64 words, .slice ao7 zs.length c7, .int .i64 (fin zs (s0 words)).1], .int .i64 0]) ?_ rfl ?_
              · have c0 := cell_of_block (o := 0) hR rfl
                have c1 := cell_of_block (o := 1) hR rfl
                have c2 := cell_of_block (o := 2) hR rfl
                simp [results, Tryz.results18, go_sem, c0, c1, c2]
              · refine ⟨.slice ao7 zs.length c7, by rw [h0]; simp, fun h => absurd h0 h, fun _ => ?_, (((HF.out.bel.setCell (by simp; omega) _).setCell (by simp) _).setCell (by simp) _).setCell (by simp) _⟩
                exact ownsRow_mono (ownsRow_setCell_below (ownsRow_setCell_below (ownsRow_setCell_below (ownsRow_setCell_below HF.out.own (by simp) _) (by simp; omega) _) (by simp; omega) _) (by simp; omega) _) (by omega)

end Go.Proofs.YtopdcjimpdalpaaGreat

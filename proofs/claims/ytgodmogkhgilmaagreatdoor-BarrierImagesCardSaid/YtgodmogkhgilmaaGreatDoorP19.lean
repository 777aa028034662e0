/- Part of the proof: PlanMake, EmP, EmQ -/
import Derived.Test.YtgodmogkhgilmaaGreatDoorP17
namespace Go.Proofs.YtgodmogkhgilmaaGreatDoor
open Go.RowKit
set_option linter.unusedVariables false
set_option linter.unusedSimpArgs false
set_option maxHeartbeats 4000000
set_option maxRecDepth 100000
def row4 (n : Int) (s : Int × Bool) : List Value :=
  [.int .i64 s.1, .int .i64 (tk n s).1, .int .i64 (tk 128 (tk n s)).1, .int .i64 (tk 64 (tk 128 (tk n s))).1, .int .i64 (tk 4096 (tk 64 (tk 128 (tk n s)))).1]
def adv (n : Int) (s : Int × Bool) : Int × Bool := tk 4096 (tk 64 (tk 128 (tk n s)))
def rows : List Int → Int × Bool → List Value
  | [], _ => []
  | n :: l, s => row4 n s ++ rows l (adv n s)
def fin : List Int → Int × Bool → Int × Bool
  | [], s => s
  | n :: l, s => fin l (adv n s)
theorem rows_snoc (l : List Int) (n : Int) : ∀ s, rows (l ++ [n]) s = rows l s ++ row4 n (fin l s) := by
  induction l with
  | nil => intro s; simp [rows, fin]
  | cons a l ih => intro s; simp [rows, fin, ih]
theorem fin_snoc (l : List Int) (n : Int) : ∀ s, fin (l ++ [n]) s = adv n (fin l s) := by
  induction l with
  | nil => intro s; simp [fin]
  | cons a l ih => intro s; simp [fin, ih]
def s0 (words : Int) : Int × Bool := tk 17 (tk words (1, false))
theorem tk_ok {n : Int} {s : Int × Bool} (hn : 0 ≤ n) (h : 1 ≤ s.1 ∧ s.1 ≤ 262144) : 1 ≤ (tk n s).1 ∧ (tk n s).1 ≤ 262144 := by
  unfold tk; split <;> simp <;> omega
structure MkSt (w wr : World) (words : Int) (s : Int × Bool) (v : Value) (k : Nat) (xs : List Value) : Prop where
  r : wr.heap[w.heap.size]? = some (.cells #[.int .i64 0, .slice none 0 0, .int .i64 0] 76 (0, 0))
  a : wr.heap[w.heap.size + 1]? = some (.cells #[.int .i64 s.1] 3 (0, 0))
  o : wr.heap[w.heap.size + 1 + 1]? = some (.cells #[.bool s.2] 4 (0, 0))
  p : wr.heap[w.heap.size + 1 + 1 + 1]? = some (.cells #[.int .i64 words, v, .int .i64 0] 76 (0, 0))
  own : wr.ownsRow (w.heap.size + 1 + 1 + 1 + 1) 113 5 v k xs
  size : w.heap.size + 1 + 1 + 1 + 1 ≤ wr.heap.size
  bel : Below w.heap.size w wr
theorem take_st {w wr : World} {words : Int} {s : Int × Bool} {v : Value} {k : Nat} {xs : List Value} (h : MkSt w wr words s v k xs) (n : Int) (hn : 0 ≤ n) (hs : 1 ≤ s.1 ∧ s.1 ≤ 262144) :
    Calls Tryz.prog 113 #[.int .i64 n, .pointer (some ⟨w.heap.size + 1, 0, none⟩), .pointer (some ⟨w.heap.size + 1 + 1, 0, none⟩)] wr fun e w' => e = .returned (.int .i64 s.1) ∧ MkSt w w' words (tk n s) v k xs := by
  refine (take_any n _ _ s.1 s.2 wr hn hs.1 hs.2 h.a h.o (by omega)).mono ?_
  rintro e w' ⟨rfl, ha, ho, hsz, hch⟩
  have hS : ∀ b, b < wr.heap.size → b ≠ w.heap.size + 1 → b ≠ w.heap.size + 1 + 1 → w'.heap[b]? = wr.heap[b]? := fun b hb h1 h2 => hch.block b hb (by rintro (h | h) <;> omega)
  have hz := h.size
  refine ⟨rfl, ⟨?_, ha, ho, ?_, ?_, by omega, Chg.below h.bel (by omega) hch (by rintro k (h | h) <;> omega)⟩⟩
  · rw [hS _ (by omega) (by omega) (by omega)]; exact h.r
  · rw [hS _ (by omega) (by omega) (by omega)]; exact h.p
  · exact ownsRow_chg h.own hch (fun g hg => by have := h.own.lt g hg; rintro (h | h) <;> omega)
def okFrames (zs : List Int) : Prop := (∀ j, j < zs.length → 0 ≤ nth zs j) ∧ zs.length ≤ 4
instance (zs : List Int) : Decidable (okFrames zs) := by unfold okFrames; infer_instance
def mkErr (words : Int) (zs : List Int) : Int :=
  if words < 0 then 1 else if ∃ j, j < zs.length ∧ nth zs j < 0 then 1 else if 4 < zs.length then 3 else if (fin zs (s0 words)).2 = true then 3 else 0
theorem mkErr_fin {words : Int} {zs : List Int} (h : 0 ≤ words) (h1 : ∀ j, j < zs.length → 0 ≤ nth zs j) (h2 : zs.length ≤ 4) : mkErr words zs = if (fin zs (s0 words)).2 = true then 3 else 0 := by
  rw [mkErr, if_neg (by omega), if_neg (by rintro ⟨j, hj, hj'⟩; have := h1 j hj; omega), if_neg (by omega)]
theorem MkSt.start (w : World) (words : Int) : MkSt w ((((w.alloc (Obj.cells #[Value.int IntKind.i64 0, Value.slice none 0 0, Value.int IntKind.i64 0] 76)).alloc
            (Obj.cells #[Value.int IntKind.i64 1] 3)).alloc (Obj.cells #[Value.bool false] 4)).alloc
    (Obj.cells #[Value.int IntKind.i64 words, Value.slice none 0 0, Value.int IntKind.i64 0] 76)) words (1, false) (.slice none 0 0) 0 [] := by
  refine ⟨?_, ?_, ?_, ?_, World.ownsRow_nil _ _ _ _, by simp, ?_⟩
  · show ((((w.heap.push _).push _).push _).push _)[_]? = _
    simp only [Array.getElem?_push, Array.size_push]
    rw [if_neg (by omega), if_neg (by omega), if_neg (by omega), if_pos trivial]
  · show ((((w.heap.push _).push _).push _).push _)[_]? = _
    simp only [Array.getElem?_push, Array.size_push]
    rw [if_neg (by omega), if_neg (by omega), if_pos trivial]
  · show ((((w.heap.push _).push _).push _).push _)[_]? = _
    simp only [Array.getElem?_push, Array.size_push]
    rw [if_neg (by omega), if_pos trivial]
  · show ((((w.heap.push _).push _).push _).push _)[_]? = _
    simp only [Array.getElem?_push, Array.size_push]
    rw [if_pos trivial]
  · exact ((((Below.refl _ _).alloc (Nat.le_refl _) _).alloc (by simp) _).alloc (by simp; omega) _).alloc (by simp; omega) _
theorem fin_ok {words : Int} {zs : List Int} (h : ∀ n ∈ zs, 0 ≤ n) (hw : 0 ≤ words) (k : Nat) : 1 ≤ (fin (zs.take k) (s0 words)).1 ∧ (fin (zs.take k) (s0 words)).1 ≤ 262144 := by
  have key : ∀ (l : List Int) s, (∀ n ∈ l, 0 ≤ n) → 1 ≤ s.1 ∧ s.1 ≤ 262144 → 1 ≤ (fin l s).1 ∧ (fin l s).1 ≤ 262144 := by
    intro l
    induction l with
    | nil => intro s _ h; exact h
    | cons a l ih =>
      intro s hl hs
      exact ih _ (fun n hn => hl n (by simp [hn])) (tk_ok (by omega) (tk_ok (by omega) (tk_ok (by omega) (tk_ok (hl a (by simp)) hs))))
  exact key _ _ (fun n hn => h n (List.mem_of_mem_take hn)) (tk_ok (by omega) (tk_ok hw (by simp)))
theorem MkSt.next {w wr w' : World} {words : Int} {zs : List Int} {k : Nat} {s : Int × Bool} {v v' : Value} {o o' : Obj} (h : MkSt w wr words (adv (nth zs k) s) v k (rows (zs.take k) (s0 words)))
    (hs : fin (zs.take k) (s0 words) = s) (ht : zs.take (k + 1) = zs.take k ++ [nth zs k]) (ho : w'.ownsRow (w.heap.size + 1 + 1 + 1 + 1) 113 5 v' (k + 1) (rows (zs.take k) (s0 words) ++ row4 (nth zs k) s))
    (hg : World.grownBy ((wr.alloc o).alloc o') w' v.ownBlock) :
    w'.heap[w.heap.size + 1 + 1 + 1]? = some (.cells #[.int .i64 words, v, .int .i64 0] 76 (0, 0)) ∧
    MkSt w (w'.setCell ⟨w.heap.size + 1 + 1 + 1, 1, none⟩ v') words (fin (zs.take (k + 1)) (s0 words)) v' (k + 1) (rows (zs.take (k + 1)) (s0 words)) := by
  have hz := h.size
  have hk : ∀ b, b < w.heap.size + 1 + 1 + 1 + 1 → w'.heap[b]? = wr.heap[b]? := fun b hb => by
    rw [hg.block b (by simp; omega) (fun e => by have := h.own.lt b e.symm; omega), Below.heap_alloc _ _ _ (by simp; omega), Below.heap_alloc _ _ _ (by omega)]
  have hsz := hg.size
  simp only [World.size_alloc] at hsz
  have hP : w'.heap[w.heap.size + 1 + 1 + 1]? = some (.cells #[.int .i64 words, v, .int .i64 0] 76 (0, 0)) := by rw [hk _ (by omega)]; exact h.p
  refine ⟨hP, ⟨?_, ?_, ?_, ?_, ?_, ?_, ?_⟩⟩
  · rw [Below.heap_setCell _ _ _ _ (by simp; omega), hk _ (by omega)]; exact h.r
  · rw [Below.heap_setCell _ _ _ _ (by simp), hk _ (by omega), ht, fin_snoc, hs]; exact h.a
  · rw [Below.heap_setCell _ _ _ _ (by simp), hk _ (by omega), ht, fin_snoc, hs]; exact h.o
  · exact block_setCell v' hP
  · rw [ht, rows_snoc, hs]
    exact ownsRow_setCell_below ho (by simp) _
  · simp [World.setCell]; omega
  · exact (((h.bel.alloc (by omega) _).alloc (by simp; omega) _).grown hg (by simp; omega) (fun b hb => by have := h.own.lt b hb; omega)).setCell (by simp; omega) _
def MkPost (words : Int) (zs : List Int) (w : World) (e : Ending) (w' : World) : Prop :=
  ∃ v, e = .returned (.tuple #[.agg #[.int .i64 (if mkErr words zs = 0 then words else 0), v, .int .i64 (if mkErr words zs = 0 then (fin zs (s0 words)).1 else 0)], .int .i64 (mkErr words zs)]) ∧
    (mkErr words zs ≠ 0 → v = .slice none 0 0) ∧ (mkErr words zs = 0 → w'.ownsRow w.heap.size 113 5 v zs.length (rows zs (s0 words))) ∧ Below w.heap.size w w'
theorem MkPost.err {words : Int} {zs : List Int} {w w' : World} (n : Int) (hn : n ≠ 0) (h : mkErr words zs = n) (hb : Below w.heap.size w w') :
    MkPost words zs w (.returned (.tuple #[.agg #[.int .i64 0, .slice none 0 0, .int .i64 0], .int .i64 n])) w' := by
  refine ⟨.slice none 0 0, ?_, fun _ => rfl, fun h0 => absurd (h.symm.trans h0) hn, hb⟩
  rw [h, if_neg hn, if_neg hn]
theorem placeInfoM : (Tryz.prog.info? 113).map (fun i => (i.zero, i.size, i.bytes)) = some (some (.agg #[.int .i64 0, .int .i64 0, .int .i64 0, .int .i64 0, .int .i64 0]), 5, 40) := by kernel_rfl
theorem make_any (words : Int) (ao : Option Addr) (zs : List Int) (cap : Nat) (w : World) (hz : Ints w (.slice ao zs.length cap) zs) (hm : zs.length ≤ 9223372036854775807) :
    Calls Tryz.prog 19 #[.int .i64 words, .slice ao zs.length cap] w (MkPost words zs w) := by
  have HZ := hidI hz
  clear hz
  by_cases hw : words < 0
  · go_enter Tryz.func19, Tryz.ntmps19
    go_wp2
    refine bodyPost_ret (v := .tuple #[.agg #[.int .i64 0, .slice none 0 0, .int .i64 0], .int .i64 1]) (by simp [results, Tryz.results19, go_sem]) rfl ?_
    exact MkPost.err 1 (by omega) (by simp [mkErr, hw]) ((Below.refl _ _).alloc (Nat.le_refl _) _)
  go_enter Tryz.func19, Tryz.ntmps19
  go_wp2
  go_loop [20] (fun i => ∃ k : Nat, k ≤ zs.length ∧ i = .int .i64 k ∧ ∀ j, j < k → 0 ≤ nth zs j) (fun i => zs.length - (intOf i).toNat)
  case atStart => exact ⟨0, Nat.zero_le _, rfl, fun j hj => by omega⟩
  case round =>
    obtain ⟨k, hk, rfl, hall⟩ := hrel
    have Hall := hidI hall
    clear hall
    by_cases hlt : k < zs.length
    · obtain ⟨b, off, hao, hbs, hcell⟩ := Ints.at HZ.out hlt
      subst hao
      have hc2 : (w.alloc (Obj.cells #[Value.int IntKind.i64 0, Value.slice none 0 0, Value.int IntKind.i64 0] 76)).cell? ⟨b, off + k, none⟩ = some (.int .i64 (nth zs k)) := cell_later ((Below.refl _ _).alloc (Nat.le_refl _) _) hcell
      clear hcell
      by_cases hz : nth zs k < 0
      · go_wp2
        refine bodyPost_ret (v := .tuple #[.agg #[.int .i64 0, .slice none 0 0, .int .i64 0], .int .i64 1]) (by simp [results, Tryz.results19, go_sem]) rfl ?_
        refine MkPost.err 1 (by omega) ?_ ((Below.refl _ _).alloc (Nat.le_refl _) _)
        rw [mkErr, if_neg (by omega), if_pos ⟨k, hlt, hz⟩]
      · go_wp2
        refine ⟨⟨k + 1, by omega, by go_num, fun j hj => ?_⟩, by simp [intOf]; omega⟩
        rcases Nat.lt_or_ge j k with h | h
        · exact Hall.out j h
        · obtain rfl : j = k := by omega
          omega
    · obtain rfl : k = zs.length := by omega
      clear hk hlt
      by_cases h4 : 4 < zs.length
      · go_wp2
        refine bodyPost_ret (v := .tuple #[.agg #[.int .i64 0, .slice none 0 0, .int .i64 0], .int .i64 3]) (by simp [results, Tryz.results19, go_sem]) rfl ?_
        refine MkPost.err 3 (by omega) ?_ ((Below.refl _ _).alloc (Nat.le_refl _) _)
        rw [mkErr, if_neg (by omega), if_neg (by rintro ⟨j, hj, hj'⟩; have := Hall.out j hj; omega), if_pos h4]
      · have Hok : ∀ n ∈ zs, 0 ≤ n := by
          intro n hn
          obtain ⟨j, hj, rfl⟩ := List.mem_iff_getElem.1 hn
          have := Hall.out j hj
          simp only [nth, List.getD_eq_getElem?_getD, List.getElem?_eq_getElem hj, Option.getD_some] at this
          exact this
        have HE := hidI (mkErr_fin (words := words) (zs := zs) (by omega) Hall.out (by omega))
        have HK := hidI Hok
        clear Hok
        go_wp2_with fail
        refine (take_st (w := w) (MkSt.start w words) words hw (by simp)).mono ?_
        rintro e w1 ⟨rfl, hst1⟩
        go_wp2_with fail
        refine (take_st (w := w) hst1 17 (by omega) (tk_ok hw (by simp))).mono ?_
        rintro e w2 ⟨rfl, hst2⟩
        have HS := hidI hst2
        clear hst2 hst1
        go_wp2_with fail
        go_loopw [42] (fun i wr => ∃ (k : Nat) (v : Value), k ≤ zs.length ∧ i = .int .i64 k ∧ MkSt w wr words (fin (zs.take k) (s0 words)) v k (rows (zs.take k) (s0 words))) (fun i _ => zs.length - (intOf i).toNat)
        case atStart => exact ⟨0, .slice none 0 0, Nat.zero_le _, rfl, by simpa [fin, rows, s0] using HS.out⟩
        case round =>
          obtain ⟨k, v, hk, rfl, hst⟩ := hrel
          have hle := fin_ok HK.out hw k
          by_cases hlt : k < zs.length
          · obtain ⟨b, off, hao, hbs, hcell⟩ := Ints.at HZ.out hlt
            subst hao
            have hc2 : wr.cell? ⟨b, off + k, none⟩ = some (.int .i64 (nth zs k)) := cell_later hst.bel hcell
            clear hcell
            have hn0 : 0 ≤ nth zs k := Hall.out k hlt
            have HT := hidI (take_snoc_nth zs k hlt)
            generalize hs : fin (zs.take k) (s0 words) = s at *
            have HSS := hidI hs
            clear hs
            go_wp2_with fail
            refine (take_st (w := w) hst _ hn0 hle).mono ?_
            rintro e w3 ⟨rfl, hst3⟩
            go_wp2_with fail
            refine (take_st (w := w) hst3 128 (by omega) (tk_ok hn0 hle)).mono ?_
            rintro e w4 ⟨rfl, hst4⟩
            go_wp2_with fail
            refine (take_st (w := w) hst4 64 (by omega) (tk_ok (by omega) (tk_ok hn0 hle))).mono ?_
            rintro e w5 ⟨rfl, hst5⟩
            go_wp2_with fail
            refine (take_st (w := w) hst5 4096 (by omega) (tk_ok (by omega) (tk_ok (by omega) (tk_ok hn0 hle)))).mono ?_
            rintro e w6 ⟨rfl, hst6⟩
            clear hst hst3 hst4 hst5 hc2
            have cA := cell_of_one hst6.a
            have cP : w6.cell? ⟨w.heap.size + 1 + 1 + 1, 1, none⟩ = some v := cell_of_block hst6.p rfl
            have fP := free_of_block (o := 1) hst6.p
            have hsz := hst6.size
            have hb1 : w.heap.size + 1 < w6.heap.size := by omega
            have hb3 : w.heap.size + 1 + 1 + 1 < w6.heap.size := by omega
            have hown := hst6.own
            have H6 := hidI hst6
            clear hst6
            obtain ⟨i0, hi, hz0, hz1, hz2⟩ := info_parts placeInfoM
            go_wp2_with (at_builtin; refine wpList_append_s _ rfl _ _ 74 rfl (w.heap.size + 1 + 1 + 1 + 1) 113 i0 _ 5 40 Tryz.underlying74 hi hz0 hz1 hz2 rfl (by decide) _ _ _ rfl ((hown.alloc _).alloc _) ⟨w6.heap.size + 1, 0, none⟩ 1 1 (row4 (nth zs k) s) rfl rfl ?c1 ?c2 ?c3 ?c4 ?c5 ?_)
            case c1 => exact news_at (block_new2 _ _ _)
            case c2 => intro u hu; simp [row4] at hu; rcases hu with rfl | rfl | rfl | rfl | rfl <;> rfl
            case c3 => unfold maxLen; omega
            case c4 => omega
            case c5 => simp; omega
            intro ao7 c7 w7 hown7 hgrow
            have HN := MkSt.next H6.out HSS.out HT.out hown7 hgrow
            have HX := hidI HN
            have cP7 : w7.cell? ⟨w.heap.size + 1 + 1 + 1, 1, none⟩ = some v := cell_of_block HN.1 rfl
            have fP7 := free_of_block (o := 1) HN.1
            clear HN hown7 hgrow hown cA cP fP
            go_wp2
            exact ⟨⟨k + 1, _, by omega, by go_num, HX.out.2⟩, by simp [intOf]; omega⟩
          · obtain rfl : k = zs.length := by omega
            have hst' := hst
            rw [List.take_length] at hst'
            have cR0 : wr.cell? ⟨w.heap.size, 0, none⟩ = some (.int .i64 0) := cell_of_block hst'.r rfl
            have cR1 : wr.cell? ⟨w.heap.size, 1, none⟩ = some (.slice none 0 0) := cell_of_block hst'.r rfl
            have cR2 : wr.cell? ⟨w.heap.size, 2, none⟩ = some (.int .i64 0) := cell_of_block hst'.r rfl
            have fR0 : wr.frozen? ⟨w.heap.size, 0, none⟩ = false := free_of_block hst'.r
            have fR1 : wr.frozen? ⟨w.heap.size, 1, none⟩ = false := free_of_block hst'.r
            have fR2 : wr.frozen? ⟨w.heap.size, 2, none⟩ = false := free_of_block hst'.r
            have cA := cell_of_one hst'.a
            have cO := cell_of_one hst'.o
            have cP0 : wr.cell? ⟨w.heap.size + 1 + 1 + 1, 0, none⟩ = some (.int .i64 words) := cell_of_block hst'.p rfl
            have cP1 : wr.cell? ⟨w.heap.size + 1 + 1 + 1, 1, none⟩ = some v := cell_of_block hst'.p rfl
            have cP2 : wr.cell? ⟨w.heap.size + 1 + 1 + 1, 2, none⟩ = some (.int .i64 0) := cell_of_block hst'.p rfl
            have fP2 : wr.frozen? ⟨w.heap.size + 1 + 1 + 1, 2, none⟩ = false := free_of_block hst'.p
            obtain ⟨ao7, c7, rfl⟩ := ownsRow_shape hst'.own
            have HF := hidI hst'
            clear hst hst'
            by_cases hov : (fin zs (s0 words)).2 = true
            · rw [hov] at cO
              go_wp2
              have hR := block_setCell (o := 2) (.int .i64 0) (block_setCell (o := 1) (.slice none 0 0) (block_setCell (o := 0) (.int .i64 0) HF.out.r))
              refine bodyPost_ret (v := .tuple #[.agg #[.int .i64 0, .slice none 0 0, .int .i64 0], .int .i64 3]) ?_ rfl ?_
              · have c0 := cell_of_block (o := 0) hR rfl
                have c1 := cell_of_block (o := 1) hR rfl
                have c2 := cell_of_block (o := 2) hR rfl
                simp [results, Tryz.results19, go_sem, c0, c1, c2]
              · exact MkPost.err 3 (by omega) (by rw [HE.out, if_pos hov]) (((HF.out.bel.setCell (by simp) _).setCell (by simp) _).setCell (by simp) _)
            · have hov' : (fin zs (s0 words)).2 = false := by simpa using hov
              rw [hov'] at cO
              go_wp2
              have hR := block_setCell (o := 2) (.int .i64 (fin zs (s0 words)).1) (block_setCell (o := 1) (.slice ao7 zs.length c7) (block_setCell (o := 0) (.int .i64 words) (block_other (a := ⟨w.heap.size + 1 + 1 + 1, 2, none⟩) (u := .int .i64 (fin zs (s0 words)).1) HF.out.r (by simp; omega))))
              have h0 : mkErr words zs = 0 := by rw [HE.out, if_neg hov]
              refine bodyPost_ret (v := .tuple #[.agg #[.int .i64 words, .slice ao7 zs.length c7, .int .i64 (fin zs (s0 words)).1], .int .i64 0]) ?_ rfl ?_
              · have c0 := cell_of_block (o := 0) hR rfl
                have c1 := cell_of_block (o := 1) hR rfl
                have c2 := cell_of_block (o := 2) hR rfl
                simp [results, Tryz.results19, go_sem, c0, c1, c2]
              · refine ⟨.slice ao7 zs.length c7, by rw [h0]; simp, fun h => absurd h0 h, fun _ => ?_, (((HF.out.bel.setCell (by simp; omega) _).setCell (by simp) _).setCell (by simp) _).setCell (by simp) _⟩
                exact ownsRow_mono (ownsRow_setCell_below (ownsRow_setCell_below (ownsRow_setCell_below (ownsRow_setCell_below HF.out.own (by simp) _) (by simp; omega) _) (by simp; omega) _) (by simp; omega) _) (by omega)
structure PlaceD where
  a : Int
  b : Int
  c : Int
  d : Int
  e : Int
def encP (p : PlaceD) : List Value := [.int .i64 p.a, .int .i64 p.b, .int .i64 p.c, .int .i64 p.d, .int .i64 p.e]
theorem encP_len : ∀ p, (encP p).length = 5 := fun _ => rfl
def placesOf : List Int → Int × Bool → List PlaceD
  | [], _ => []
  | n :: l, s => ⟨s.1, (tk n s).1, (tk 128 (tk n s)).1, (tk 64 (tk 128 (tk n s))).1, (tk 4096 (tk 64 (tk 128 (tk n s)))).1⟩ :: placesOf l (adv n s)
theorem places_rows : ∀ (l : List Int) s, (placesOf l s).flatMap encP = rows l s
  | [], _ => rfl
  | n :: l, s => by rw [placesOf, List.flatMap_cons, places_rows l]; rfl
theorem places_len : ∀ (l : List Int) s, (placesOf l s).length = l.length
  | [], _ => rfl
  | n :: l, s => by rw [placesOf, List.length_cons, places_len l]; rfl
def mkP (words : Int) (zs : List Int) : List PlaceD := if mkErr words zs = 0 then placesOf zs (s0 words) else []
def mkW (words : Int) (zs : List Int) : Int := if mkErr words zs = 0 then words else 0
def mkS (words : Int) (zs : List Int) : Int := if mkErr words zs = 0 then (fin zs (s0 words)).1 else 0
theorem mkP_len (words : Int) (zs : List Int) : (mkP words zs).length ≤ 4 := by
  unfold mkP
  split
  · rename_i h
    rw [places_len]
    unfold mkErr at h
    split at h
    · omega
    · split at h
      · omega
      · split at h
        · omega
        · omega
  · simp
def MkU (words : Int) (zs : List Int) (w : World) (e : Ending) (w' : World) : Prop :=
  ∃ ao c, e = .returned (.tuple #[.agg #[.int .i64 (mkW words zs), .slice ao (mkP words zs).length c, .int .i64 (mkS words zs)], .int .i64 (mkErr words zs)]) ∧
    w'.ownsRow w.heap.size 113 5 (.slice ao (mkP words zs).length c) (mkP words zs).length ((mkP words zs).flatMap encP) ∧ Below w.heap.size w w'
theorem MkU.of {words : Int} {zs : List Int} {w : World} {e : Ending} {w' : World} (h : MkPost words zs w e w') : MkU words zs w e w' := by
  obtain ⟨v, rfl, h1, h2, h3⟩ := h
  by_cases h0 : mkErr words zs = 0
  · have ho := h2 h0
    obtain ⟨ao, c, rfl⟩ := ownsRow_shape ho
    have e1 : mkP words zs = placesOf zs (s0 words) := if_pos h0
    have e2 : mkW words zs = words := if_pos h0
    have e3 : mkS words zs = (fin zs (s0 words)).1 := if_pos h0
    refine ⟨ao, c, ?_, ?_, h3⟩
    · rw [e1, e2, e3, places_len, if_pos h0, if_pos h0]
    · rw [e1, places_len, places_rows]; exact ho
  · obtain rfl := h1 h0
    have e1 : mkP words zs = [] := if_neg h0
    have e2 : mkW words zs = 0 := if_neg h0
    have e3 : mkS words zs = 0 := if_neg h0
    refine ⟨none, 0, ?_, ?_, h3⟩
    · rw [e1, e2, e3, if_neg h0, if_neg h0]; rfl
    · rw [e1]; exact World.ownsRow_nil _ _ _ _
theorem equalP_any {w : World} {ao bo : Option Addr} {ca cb : Nat} {l m : List PlaceD} (ha : RdT encP w 5 (.slice ao l.length ca) l) (hb : RdT encP w 5 (.slice bo m.length cb) m) (h1 : l.length ≤ 9000000000000000000) (h2 : m.length ≤ 9000000000000000000) :
    Calls Tryz.prog 176 #[.slice ao l.length ca, .slice bo m.length cb] w fun e w' => ∃ b, e = .returned (.bool b) ∧ (b = true ↔ l = m) ∧ Below w.heap.size w w' := by
  have HA := hidI ha
  have HB := hidI hb
  have H1 := hidI h1
  clear ha hb h1
  by_cases hlen : l.length = m.length
  · have HLEN := hidI hlen
    have hd : ((l.length : Int) != (m.length : Int)) = false := by rw [hlen]; simp
    have hm2 := H1.out
    go_enter Tryz.func176, Tryz.ntmps176
    rw [← hlen] at HB ⊢
    clear hlen hd
    go_wp2
    go_loopw [13] (fun i wr => ∃ k n : Nat, k ≤ l.length ∧ i = .int .i64 k ∧ Hid (l.take k = m.take k) ∧ wr = w.drewN n) (fun i _ => l.length - (intOf i).toNat)
    case atStart => exact ⟨0, 0, Nat.zero_le _, rfl, hidI (by rw [List.take_zero, List.take_zero]), rfl⟩
    case round =>
      obtain ⟨k, n, hk, rfl, HT, rfl⟩ := hrel
      by_cases hlt : k < l.length
      · obtain ⟨x, hx⟩ := some_at hlt
        obtain ⟨y, hy⟩ := some_at (show k < m.length from by have := HLEN.out; omega)
        obtain ⟨b1, o1, rfl, hs1, hc1⟩ := HA.out.at encP_len hx
        have HB' := HB.out
        obtain ⟨b2, o2, rfl, hs2, hc2⟩ := RdT.at encP_len (show RdT encP w 5 (.slice bo l.length cb) m from HB.out) hy
        have x0 := hc1 0 _ rfl
        have y0 := hc2 0 _ rfl
        have x1 := hc1 1 _ rfl
        have y1 := hc2 1 _ rfl
        have x2 := hc1 2 _ rfl
        have y2 := hc2 2 _ rfl
        have x3 := hc1 3 _ rfl
        have y3 := hc2 3 _ rfl
        have x4 := hc1 4 _ rfl
        have y4 := hc2 4 _ rfl
        simp only [Nat.add_zero] at x0 y0
        have HX := hidI (And.intro hx hy)
        obtain ⟨xa, xb, xc, xd, xe⟩ := x
        obtain ⟨ya, yb, yc, yd, ye⟩ := y
        simp only at x0 x1 x2 x3 x4 y0 y1 y2 y3 y4
        clear hc1 hc2 hx hy hs1 hs2 HB'
        by_cases ha : xa = ya
        rotate_left
        · have hcmp : (xa == ya) = false := by simpa using ha
          have HNE := hidI ha
          clear ha
          go_wp2_with fail
          go_quiet (fail)
          go_wp2_with fail
          go_ret
          refine ⟨false, rfl, ⟨fun h => (by cases h), fun h => ?_⟩, below_drewN (below_drewN (Below.refl _ _) _) _⟩
          subst h
          have h9 := HX.out.1.symm.trans HX.out.2
          simp only [Option.some.injEq, PlaceD.mk.injEq] at h9
          exact absurd h9.1 HNE.out
        subst ha
        by_cases hb : xb = yb
        rotate_left
        · have hcmp : (xb == yb) = false := by simpa using hb
          have HNE := hidI hb
          clear hb
          go_wp2_with fail
          go_quiet (fail)
          go_wp2_with fail
          go_ret
          refine ⟨false, rfl, ⟨fun h => (by cases h), fun h => ?_⟩, below_drewN (below_drewN (Below.refl _ _) _) _⟩
          subst h
          have h9 := HX.out.1.symm.trans HX.out.2
          simp only [Option.some.injEq, PlaceD.mk.injEq] at h9
          exact absurd h9.2.1 HNE.out
        subst hb
        by_cases hc : xc = yc
        rotate_left
        · have hcmp : (xc == yc) = false := by simpa using hc
          have HNE := hidI hc
          clear hc
          go_wp2_with fail
          go_quiet (fail)
          go_wp2_with fail
          go_ret
          refine ⟨false, rfl, ⟨fun h => (by cases h), fun h => ?_⟩, below_drewN (below_drewN (Below.refl _ _) _) _⟩
          subst h
          have h9 := HX.out.1.symm.trans HX.out.2
          simp only [Option.some.injEq, PlaceD.mk.injEq] at h9
          exact absurd h9.2.2.1 HNE.out
        subst hc
        by_cases hd : xd = yd
        rotate_left
        · have hcmp : (xd == yd) = false := by simpa using hd
          have HNE := hidI hd
          clear hd
          go_wp2_with fail
          go_quiet (fail)
          go_wp2_with fail
          go_ret
          refine ⟨false, rfl, ⟨fun h => (by cases h), fun h => ?_⟩, below_drewN (below_drewN (Below.refl _ _) _) _⟩
          subst h
          have h9 := HX.out.1.symm.trans HX.out.2
          simp only [Option.some.injEq, PlaceD.mk.injEq] at h9
          exact absurd h9.2.2.2.1 HNE.out
        subst hd
        by_cases he : xe = ye
        rotate_left
        · have hcmp : (xe == ye) = false := by simpa using he
          have HNE := hidI he
          clear he
          go_wp2_with fail
          go_quiet (fail)
          go_wp2_with fail
          go_ret
          refine ⟨false, rfl, ⟨fun h => (by cases h), fun h => ?_⟩, below_drewN (below_drewN (Below.refl _ _) _) _⟩
          subst h
          have h9 := HX.out.1.symm.trans HX.out.2
          simp only [Option.some.injEq, PlaceD.mk.injEq] at h9
          exact absurd h9.2.2.2.2 HNE.out
        subst he
        go_wp2_with fail
        go_quiet (fail)
        go_wp2_with fail
        exact ⟨⟨k + 1, _, by omega, by go_num, hidI (by rw [take_snoc HX.out.1, take_snoc HX.out.2, HT.out]), rfl⟩, by simp [intOf]; omega⟩
      · obtain rfl : k = l.length := by omega
        go_wp2
        go_ret
        refine ⟨true, rfl, ⟨fun _ => ?_, fun _ => rfl⟩, below_drewN (Below.refl _ _) n⟩
        have h9 := HT.out
        rw [List.take_length, HLEN.out, List.take_length] at h9
        exact h9
  · have hd : ((l.length : Int) != (m.length : Int)) = true := by simp only [bne_iff_ne, ne_eq]; omega
    have HLEN := hidI hlen
    clear hlen
    go_enter Tryz.func176, Tryz.ntmps176
    go_wp2_with fail
    go_ret
    exact ⟨false, rfl, ⟨fun h => (by cases h), fun h => absurd (by rw [h]) HLEN.out⟩, Below.refl _ _⟩
section
variable {w w' : World}
def okTx (words : Int) (o : Tx) : Bool := (decide (o.kind = 2) || decide (o.kind = 3)) && decide (1 ≤ o.at_) && decide (o.at_ ≤ words)
theorem badtx_any {bp : Nat} {words size : Int} {tv : Value} (h : w.heap[bp]? = some (.cells #[.int .i64 words, tv, .int .i64 size] 76 (0, 0))) (o : Tx) :
    Calls Tryz.prog 116 #[.agg #[.int .i64 o.th, .int .u8 o.kind, .int .i64 o.at_, .int .i64 o.v], .pointer (some ⟨bp, 0, none⟩)] w fun e w' => e = .returned (.bool (!okTx words o)) ∧ Below w.heap.size w w' := by
  obtain ⟨th, kind, a, v⟩ := o
  have hb := lt_of_block h
  have x0 : w.cell? ⟨bp, 0, none⟩ = some (.int .i64 words) := cell_of_block h rfl
  have HBOX := hidI ((Below.refl w.heap.size w).alloc (Nat.le_refl _) (.cells #[.int .i64 th, .int .u8 kind, .int .i64 a, .int .i64 v] 88))
  have x1 : (w.alloc (.cells #[.int .i64 th, .int .u8 kind, .int .i64 a, .int .i64 v] 88)).cell? ⟨bp, 0, none⟩ = some (.int .i64 words) := by rw [World.cell?_alloc_lt _ _ _ hb]; exact x0
  clear h
  by_cases hk : kind = 2 ∨ kind = 3
  · by_cases h1 : a < 1
    · have HE := hidI (show okTx words ⟨th, kind, a, v⟩ = false from by simp [okTx]; omega)
      have q1 : decide (a < 1) = true := decide_eq_true h1
      rcases hk with rfl | rfl
      all_goals (
        go_enter Tryz.func116, Tryz.ntmps116
        go_wp2_with fail
        go_ret
        exact ⟨by rw [HE.out]; rfl, HBOX.out⟩)
    · have q1 : decide (a < 1) = false := decide_eq_false h1
      by_cases h2 : words < a
      · have HE := hidI (show okTx words ⟨th, kind, a, v⟩ = false from by simp [okTx]; omega)
        have q2 : decide (words < a) = true := decide_eq_true h2
        rcases hk with rfl | rfl
        all_goals (
          go_enter Tryz.func116, Tryz.ntmps116
          go_wp2_with fail
          go_ret
          exact ⟨by rw [HE.out]; rfl, HBOX.out⟩)
      · have HE := hidI (show okTx words ⟨th, kind, a, v⟩ = true from by simp [okTx]; omega)
        have q2 : decide (words < a) = false := decide_eq_false h2
        rcases hk with rfl | rfl
        all_goals (
          go_enter Tryz.func116, Tryz.ntmps116
          go_wp2_with fail
          go_ret
          exact ⟨by rw [HE.out]; rfl, HBOX.out⟩)
  · have HE := hidI (show okTx words ⟨th, kind, a, v⟩ = false from by simp [okTx]; omega)
    have q1 : (kind != 2) = true := by simp; omega
    have q2 : (kind != 3) = true := by simp; omega
    clear hk
    go_enter Tryz.func116, Tryz.ntmps116
    go_wp2_with fail
    go_ret
    exact ⟨by rw [HE.out]; rfl, HBOX.out⟩
theorem indextx_any {bp : Nat} {words size : Int} {tv : Value} (hp : w.heap[bp]? = some (.cells #[.int .i64 words, tv, .int .i64 size] 76 (0, 0))) {ao : Option Addr} {cap : Nat} {l : List Tx} (h : RdT encTxD w 4 (.slice ao l.length cap) l) (hl : l.length ≤ 262144) :
    Calls Tryz.prog 177 #[.slice ao l.length cap, .func (.func 116) #[] #[.pointer (some ⟨bp, 0, none⟩)]] w fun e w' => (∃ z : Int, e = .returned (.int .i64 z) ∧ (0 ≤ z ↔ ∃ o ∈ l, okTx words o = false)) ∧ Below w.heap.size w w' := by
  have H := hidI h
  have HL := hidI hl
  have HP := hidI hp
  clear h hl hp
  go_enter Tryz.func177, Tryz.ntmps177
  go_wp2_with fail
  go_loopw [8] (fun i w' => ∃ k : Nat, k ≤ l.length ∧ i = .int .i64 (k : Int) ∧ Hid (Below w.heap.size w w' ∧ ∀ j (o : Tx), j < k → l[j]? = some o → okTx words o = true)) (fun i _ => ((l.length : Int) - intOf i).toNat)
  case atStart => exact ⟨0, by omega, rfl, ⟨Below.refl _ _, fun j o hj => absurd hj (by omega)⟩⟩
  case round =>
    obtain ⟨k, hk, rfl, HR⟩ := hrel
    by_cases hlt : k < l.length
    · obtain ⟨⟨th, ki, at_, v⟩, ho⟩ := some_at hlt
      obtain ⟨cb, co, rfl, hcb, hcc⟩ := RdT.at encTxD_len (Rd.below H.out HR.out.1) ho
      have i0 := hcc 0 _ rfl
      have i1 := hcc 1 _ rfl
      have i2 := hcc 2 _ rfl
      have i3 := hcc 3 _ rfl
      rw [Nat.add_zero] at i0
      have HO := hidI ho
      clear ho hcc hcb
      go_wp2_with fail
      refine (badtx_any (blk HR.out.1 HP.out) ⟨th, ki, at_, v⟩).mono ?_
      rintro e w2 ⟨rfl, hb2⟩
      have HB2 := hidI (HR.out.1.trans (hb2.mono HR.out.1.size))
      clear hb2 i0 i1 i2 i3
      cases hc : okTx words ⟨th, ki, at_, v⟩ with
      | false =>
        have HC := hidI hc
        clear hc
        go_wp2_with fail
        go_ret
        exact ⟨⟨_, rfl, ⟨fun _ => ⟨_, List.mem_of_getElem? HO.out, HC.out⟩, fun _ => by omega⟩⟩, HB2.out⟩
      | true =>
        have HC := hidI hc
        have hkl : k < 262144 := Nat.lt_of_lt_of_le hlt HL.out
        clear hc
        go_wp2_with fail
        refine ⟨⟨k + 1, by omega, by go_num, ⟨HB2.out, fun j o hj ho => ?_⟩⟩, by simp [intOf]; omega⟩
        by_cases e : j = k
        · subst e
          rw [HO.out] at ho
          cases ho
          exact HC.out
        · exact HR.out.2 j o (by omega) ho
    · obtain rfl : k = l.length := by omega
      go_wp2_with fail
      go_ret
      refine ⟨⟨-1, rfl, ⟨fun h => absurd h (by decide), fun ⟨o, ho, hc⟩ => ?_⟩⟩, HR.out.1⟩
      obtain ⟨j, hj⟩ := List.getElem?_of_mem ho
      rw [HR.out.2 j o (List.getElem?_eq_some_iff.1 hj).1 hj] at hc
      cases hc
theorem containstx_any {bp : Nat} {words size : Int} {tv : Value} (hp : w.heap[bp]? = some (.cells #[.int .i64 words, tv, .int .i64 size] 76 (0, 0))) {ao : Option Addr} {cap : Nat} {l : List Tx} (h : RdT encTxD w 4 (.slice ao l.length cap) l) (hl : l.length ≤ 262144) :
    Calls Tryz.prog 115 #[.slice ao l.length cap, .func (.func 116) #[] #[.pointer (some ⟨bp, 0, none⟩)]] w fun e w' => e = .returned (.bool (!(l.all (okTx words)))) ∧ Below w.heap.size w w' := by
  have H := hidI h
  have HL := hidI hl
  have HP := hidI hp
  clear h hl hp
  go_enter Tryz.func115, Tryz.ntmps115
  go_wp2_with fail
  refine (indextx_any HP.out H.out HL.out).mono ?_
  rintro e w1 ⟨⟨z, rfl, hz⟩, hb⟩
  have HZ := hidI hz
  have HB := hidI hb
  clear hz hb
  by_cases h0 : 0 ≤ z
  · have hd : decide (0 ≤ z) = true := decide_eq_true h0
    go_wp2_with fail
    go_ret
    refine ⟨?_, HB.out⟩
    obtain ⟨o, ho, hc⟩ := HZ.out.1 h0
    rw [show l.all (okTx words) = false from by rw [List.all_eq_false]; exact ⟨o, ho, by simp [hc]⟩]
    rfl
  · have hd : decide (0 ≤ z) = false := decide_eq_false h0
    go_wp2_with fail
    go_ret
    refine ⟨?_, HB.out⟩
    rw [show l.all (okTx words) = true from by
      rw [List.all_eq_true]
      intro o ho
      cases hc : okTx words o with
      | true => rfl
      | false => exact absurd (HZ.out.2 ⟨o, ho, hc⟩) (by omega)]
    rfl
def frameOf (p : PlaceD) : Int := wrap64 (p.b - p.a)
def framesOf (ps : List PlaceD) : List Int := ps.map frameOf
def Planned (words size : Int) (ps : List PlaceD) : Prop := (∀ p ∈ ps, 32 ≤ frameOf p) ∧ mkErr words (framesOf ps) = 0 ∧ mkS words (framesOf ps) = size ∧ mkP words (framesOf ps) = ps
theorem one_emint (x : Int) : ∀ u ∈ [Value.int .i64 x], u.oneCell' = true := by intro u hu; simp at hu; subst hu; rfl
theorem ints_of {v : Value} {n : Nat} {zs : List Int} (h : Rd w 1 v n (zs.map (Value.int .i64))) (hn : n = zs.length) : Ints w v zs := by
  obtain ⟨h1, ao, cap, rfl, h2, h3⟩ := h
  subst hn
  refine ⟨ao, cap, rfl, h2, fun i hi => ?_⟩
  obtain ⟨b, off, rfl, hb, hc⟩ := h3 (by omega)
  exact ⟨b, off, rfl, hb, hc i _ (by simp [nth, hi])⟩
def PlannedPost (words size : Int) (ps : List PlaceD) (w : World) (e : Ending) (w' : World) : Prop := ∃ b, e = .returned (.bool b) ∧ (b = true ↔ Planned words size ps) ∧ Below w.heap.size w w'
theorem planned_any {tao : Option Addr} {tcap : Nat} {ps : List PlaceD} (h : RdT encP w 5 (.slice tao ps.length tcap) ps) (hl : ps.length ≤ 262144) (words size : Int) :
    Calls Tryz.prog 114 #[.agg #[.int .i64 words, .slice tao ps.length tcap, .int .i64 size]] w (PlannedPost words size ps w) := by
  have H := hidI h
  have HL := hidI hl
  clear h hl
  obtain ⟨i0, hi, hz0, hz1, hz2⟩ := info_parts emIntInfo
  go_enter Tryz.func114, Tryz.ntmps114
  go_wp2_with fail
  have HB0 := hidI ((Below.refl w.heap.size w).alloc (Nat.le_refl _) (.cells #[.int .i64 words, .slice tao ps.length tcap, .int .i64 size] 76))
  have HP0 := hidI (block_new w (.cells #[.int .i64 words, .slice tao ps.length tcap, .int .i64 size] 76))
  have HS0 := hidI (show w.heap.size + 1 ≤ (w.alloc (.cells #[.int .i64 words, .slice tao ps.length tcap, .int .i64 size] 76)).heap.size from by rw [World.size_alloc]; omega)
  generalize w.alloc (.cells #[.int .i64 words, .slice tao ps.length tcap, .int .i64 size] 76) = w0 at HB0 HP0 HS0 ⊢
  have hpl := HL.out
  obtain ⟨bp, hbp⟩ : ∃ b, b = w.heap.size := ⟨_, rfl⟩
  have HBP := hidI hbp
  rw [← hbp] at HP0 ⊢
  clear hbp
  go_loopw [3, 11] (fun v i wr => ∃ (j : Nat) (ao : Option Addr) (cp : Nat), j ≤ ps.length ∧ i = .int .i64 (j : Int) ∧ v = .slice ao j cp ∧ Hid (wr.ownsRow (w.heap.size + 1) 3 1 (.slice ao j cp) j ((framesOf (ps.take j)).map (Value.int .i64))) ∧ Hid (∀ p ∈ ps.take j, 32 ≤ frameOf p) ∧ Hid (Below w.heap.size w wr) ∧ Hid (wr.heap[bp]? = some (.cells #[.int .i64 words, .slice tao ps.length tcap, .int .i64 size] 76 (0, 0))) ∧ Hid (w.heap.size + 1 ≤ wr.heap.size)) (fun _ i _ => ((ps.length : Int) - intOf i).toNat)
  case atStart => exact ⟨0, none, 0, Nat.zero_le _, rfl, rfl, hidI (World.ownsRow_nil _ _ _ _), hidI (fun p hp => by simp at hp), HB0, HP0, HS0⟩
  case round =>
    obtain ⟨j, ao, cp, hj, rfl, rfl, HO, HG, HB, HP, HSZ⟩ := hrel
    clear HB0 HP0 HS0
    have hpl := HL.out
    have p0 : wr.cell? ⟨bp, 0, none⟩ = some (.int .i64 words) := cell_of_block HP.out rfl
    have p2 : wr.cell? ⟨bp, 2, none⟩ = some (.int .i64 size) := cell_of_block HP.out rfl
    have p1 : wr.cell? ⟨bp, 1, none⟩ = some (.slice tao ps.length tcap) := cell_of_block HP.out rfl
    have hbpl := lt_of_block HP.out
    by_cases hlt : j < ps.length
    · obtain ⟨⟨xa, xb, xc, xd, xe⟩, hx⟩ := some_at hlt
      obtain ⟨g, off, rfl, hg, hc⟩ := RdT.at encP_len (Rd.below H.out HB.out) hx
      have d0 := hc 0 _ rfl
      have d1 := hc 1 _ rfl
      have d2 := hc 2 _ rfl
      have d3 := hc 3 _ rfl
      have d4 := hc 4 _ rfl
      simp only [Nat.add_zero] at d0
      have HX := hidI hx
      have HTK := hidI (take_snoc hx)
      clear hx hc
      by_cases h32 : wrap64 (xb - xa) < 32
      · have q1 : decide (wrap64 (xb - xa) < 32) = true := decide_eq_true h32
        have HNO := hidI (show ¬ Planned words size ps from fun hp => by
          have := hp.1 _ (List.mem_of_getElem? HX.out)
          unfold frameOf at this
          simp only at this
          omega)
        have HBR := hidI (HB.out.alloc HB.out.size (.cells #[.int .i64 xa, .int .i64 xb, .int .i64 xc, .int .i64 xd, .int .i64 xe] 113))
        clear h32
        go_wp2_with fail
        go_ret
        exact ⟨false, rfl, ⟨fun h => (by cases h), fun h => absurd h HNO.out⟩, HBR.out⟩
      · have q1 : decide (wrap64 (xb - xa) < 32) = false := decide_eq_false h32
        have H32 := hidI h32
        clear h32
        have HJ := hidI hlt
        go_wp2_with (at_builtin; refine Hid.out ?_)
        refine wpList_append_d _ rfl _ _ 69 rfl (w.heap.size + 1) 3 i0 _ 1 8 Tryz.underlying69 hi hz0 hz1 hz2 rfl (by decide) (.slice ao j cp) j _ (by simp [Act.eval]) (ownsRow_chg HO.out (((Chg.refl (fun _ => False) wr).alloc _).alloc _) (fun _ _ => id)) ⟨wr.heap.size + 1, 0, none⟩ 1 1 [.int .i64 (wrap64 (xb - xa))] (by simp [Act.eval]) rfl ?c1 ?c2 ?c3 ?c4 ?c5 ?_
        case c1 => exact news_at (block_new2 _ _ _)
        case c2 => exact one_emint _
        case c3 => have := HL.out; have := HJ.out; unfold maxLen; omega
        case c4 => have := HL.out; have := HJ.out; omega
        case c5 => have := HSZ.out; simp; omega
        intro ao5 cp5 w5 hown hfrom hgrown
        have hc5 : Chg (fun k => w.heap.size + 1 ≤ k) wr w5 := ((((Chg.refl (fun k => w.heap.size + 1 ≤ k) wr)).alloc _).alloc _).grown hgrown (fun k hk => .inl (HO.out.lt k hk).1)
        have HB5 := hidI (hc5.below HB.out HB.out.size (fun k hk => by omega))
        have HP5 := hidI (chgblk hc5 HP.out (by have := HBP.out; omega))
        have HSZ5 := hidI (show w.heap.size + 1 ≤ w5.heap.size from by have := hc5.size; have := HSZ.out; omega)
        have HO5 := hidI (show w5.ownsRow (w.heap.size + 1) 3 1 (.slice ao5 (j + 1) cp5) (j + 1) ((framesOf (ps.take (j + 1))).map (Value.int .i64)) from by rw [HTK.out]; unfold framesOf; rw [List.map_append, List.map_append]; exact hown)
        have HG5 := hidI (show ∀ p ∈ ps.take (j + 1), 32 ≤ frameOf p from fun p hp => by
          rw [HTK.out] at hp
          rcases List.mem_append.1 hp with hp | hp
          · exact HG.out p hp
          · simp at hp; subst hp
            have := H32.out
            unfold frameOf; simp only; omega)
        clear hown hfrom hgrown hc5 p0 p1 p2 d0 d1 d2 d3 d4
        go_wp2_with fail
        exact ⟨⟨j + 1, ao5, cp5, by omega, by go_num, rfl, HO5, HG5, HB5, HP5, HSZ5⟩, by simp [intOf]; omega⟩
    · obtain rfl : j = ps.length := by omega
      have ho := HO.out
      have hg := HG.out
      rw [List.take_length] at ho hg
      have HG' := hidI hg
      have hfl : (framesOf ps).length = ps.length := by unfold framesOf; rw [List.length_map]
      have HFL := hidI hfl
      have HINTS := hidI (show Ints wr (.slice ao (framesOf ps).length cp) (framesOf ps) from by have h9 := Rd.of_own ho; rw [hfl]; exact ints_of h9 hfl.symm)
      rw [hfl] at HINTS
      clear ho hg hfl
      go_wp2_with fail
      refine ((show Calls Tryz.prog 19 #[.int .i64 words, .slice ao ps.length cp] wr (MkPost words (framesOf ps) wr) from by have h9 := make_any words ao (framesOf ps) cp wr (by rw [HFL.out]; exact HINTS.out) (by rw [HFL.out]; omega); rw [HFL.out] at h9; exact h9)).mono ?_
      intro e w2 hm
      obtain ⟨mo, mc, rfl, hmo, hb2⟩ := MkU.of hm
      have HMO := hidI hmo
      have HB2 := hidI (HB.out.trans (hb2.mono HB.out.size))
      have HP2 := hidI (blk hb2 HP.out)
      have HR2 := hidI (Rd.below H.out HB2.out)
      have HML := hidI (mkP_len words (framesOf ps))
      clear hm hmo hb2 p0 p1 p2 hbpl
      have p0 : w2.cell? ⟨bp, 0, none⟩ = some (.int .i64 words) := cell_of_block HP2.out rfl
      have p1 : w2.cell? ⟨bp, 1, none⟩ = some (.slice tao ps.length tcap) := cell_of_block HP2.out rfl
      have p2 : w2.cell? ⟨bp, 2, none⟩ = some (.int .i64 size) := cell_of_block HP2.out rfl
      have hbpl := lt_of_block HP2.out
      obtain ⟨me, hme⟩ : ∃ x, x = mkErr words (framesOf ps) := ⟨_, rfl⟩
      obtain ⟨ms, hms⟩ : ∃ x, x = mkS words (framesOf ps) := ⟨_, rfl⟩
      obtain ⟨mw, hmw⟩ : ∃ x, x = mkW words (framesOf ps) := ⟨_, rfl⟩
      obtain ⟨mp, hmp⟩ : ∃ x, x = mkP words (framesOf ps) := ⟨_, rfl⟩
      rw [← hmp] at HMO HML
      rw [← hme, ← hms, ← hmw, ← hmp]
      have HME := hidI hme
      have HMS := hidI hms
      have HMP := hidI hmp
      clear hme hms hmw hmp
      have hal : ∀ o : Obj, Below w.heap.size w (w2.alloc o) := fun o => HB2.out.alloc HB2.out.size o
      have HAL := hidI hal
      clear hal
      by_cases he : me = 0
      · subst he
        by_cases hs : ms = size
        · have hd : (ms == size) = true := by simpa using hs
          have HS := hidI hs
          clear hs
          go_wp2_with fail
          refine (equalP_any (l := mp) (m := ps) (Rd.alloc (Rd.of_own HMO.out) _) (Rd.alloc HR2.out _) (by have := HML.out; omega) (by have := HL.out; omega)).mono ?_
          rintro e w3 ⟨b, rfl, hbe, hb3⟩
          have HBE := hidI hbe
          have HB3 := hidI ((HAL.out _).trans (hb3.mono (HAL.out _).size))
          clear hbe hb3
          go_wp2_with fail
          go_ret
          refine ⟨b, rfl, ?_, HB3.out⟩
          rw [HBE.out]
          constructor
          · intro h
            exact ⟨HG'.out, HME.out.symm, by rw [← HMS.out]; exact HS.out, by rw [← HMP.out]; exact h⟩
          · intro h
            rw [HMP.out]; exact h.2.2.2
        · have hd : (ms == size) = false := by simpa using hs
          have HS := hidI hs
          clear hs
          go_wp2_with fail
          go_ret
          exact ⟨false, rfl, ⟨fun h => (by cases h), fun h => absurd (by rw [HMS.out]; exact h.2.2.1) HS.out⟩, HAL.out _⟩
      · have hd : (me == 0) = false := by simpa using he
        have HE := hidI he
        clear he
        go_wp2_with fail
        go_ret
        exact ⟨false, rfl, ⟨fun h => (by cases h), fun h => absurd (by rw [HME.out]; exact h.2.1) HE.out⟩, HAL.out _⟩
end
end Go.Proofs.YtgodmogkhgilmaaGreatDoor

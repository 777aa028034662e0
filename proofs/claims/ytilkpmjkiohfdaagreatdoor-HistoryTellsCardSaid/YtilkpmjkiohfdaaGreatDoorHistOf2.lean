/- (With the lists' apartness.) The contract of history.Of: as runH says. -/
import Derived.Test.YtilkpmjkiohfdaaGreatDoorHistF
namespace Go.Proofs.YtilkpmjkiohfdaaGreatDoor
set_option linter.unusedVariables false
set_option linter.unusedSimpArgs false
open Go.RowKit

theorem run_stop {evs : List Ev} {k : Nat} {s0 s : HS} {x : Ev} (h : runH (evs.take k) 0 s0 = .inl s) (hx : evs[k]? = some x) (hs : stepH s x k = none) : runH evs 0 s0 = .inr k := by
  obtain ⟨hk, rfl⟩ := List.getElem?_eq_some_iff.1 hx
  have e : evs = evs.take k ++ (evs[k] :: evs.drop (k + 1)) := by simp
  rw [e, runH_append, h]
  simp only [runH, List.length_take, Nat.zero_add]
  rw [show min k evs.length = k from by omega, hs]

theorem run_next {evs : List Ev} {k : Nat} {s0 s s' : HS} {x : Ev} (h : runH (evs.take k) 0 s0 = .inl s) (hx : evs[k]? = some x) (hs : stepH s x k = some s') : runH (evs.take (k + 1)) 0 s0 = .inl s' := by
  have hk := (List.getElem?_eq_some_iff.1 hx).1
  rw [take_snoc hx, runH_append, h]
  simp only [runH, List.length_take, Nat.zero_add]
  rw [show min k evs.length = k from by omega, hs]

def enc2 (p : Att × Value) : List Value := encAtt p.1 p.2
theorem enc2_len : ∀ p, (enc2 p).length = 8 := fun _ => rfl

/-- the answer: a list of the attempts, each with its events in a row of its own, all in new memory -/
def OfYes (l : List Att) (w : World) (e : Ending) (w' : World) : Prop :=
  ∃ (ao : Option Addr) (cp : Nat) (ps : List (Att × Value)), ps.map Prod.fst = l ∧ e = .returned (.tuple #[.slice ao ps.length cp, .int .i64 0, .int .i64 0]) ∧ w'.ownsRow w.heap.size 138 8 (.slice ao ps.length cp) ps.length (ps.flatMap enc2) ∧
    (∀ p ∈ ps, w'.ownsRow w.heap.size 126 4 p.2 p.1.done.length (p.1.done.flatMap encEv)) ∧
    (∀ (i j g : Nat) p q, i ≠ j → ps[i]? = some p → ps[j]? = some q → p.2.ownBlock = some g → q.2.ownBlock ≠ some g) ∧ (∀ p ∈ ps, ∀ g, p.2.ownBlock = some g → (Value.slice ao ps.length cp).ownBlock ≠ some g) ∧ Below w.heap.size w w'
def OfPost (evs : List Ev) (w : World) (e : Ending) (w' : World) : Prop :=
  match runH evs 0 HS.init with
  | .inl s => OfYes s.atts w e w'
  | .inr k => e = .returned (.tuple #[.slice none 0 0, .int .i64 (k : Int), .int .i64 15]) ∧ Below w.heap.size w w'

theorem OfPost.no {evs : List Ev} {k : Nat} {w w' : World} (h : runH evs 0 HS.init = .inr k) (hb : Below w.heap.size w w') : OfPost evs w (.returned (.tuple #[.slice none 0 0, .int .i64 (k : Int), .int .i64 15])) w' := by
  unfold OfPost
  rw [h]
  exact ⟨rfl, hb⟩

theorem Held.init {w : World} {x : Obj} (hx : x = .cells (encThr HS.init fun _ => 0).toArray 131 (0, 0)) : Held (w.alloc x) w.heap.size w.heap.size (fun _ => 0) (fun _ => .slice none 0 0) (.slice none 0 0) (fun _ => 0) HS.init := by
  subst hx
  exact ⟨block_new _ _, Nat.le_refl _, fun j a h => by simp [HS.init] at h, World.ownsRow_nil _ _ _ _, rfl, fun g hg => by simp [Value.ownBlock] at hg, fun j h => by simp [HS.init] at h, fun j g h => by simp [HS.init] at h⟩

theorem Held.row_after {w w1 : World} {base bt : Nat} {gb : Nat → Nat} {dv : Nat → Value} {all : Value} {lab : Nat → Nat} {s : HS} (h : Held w base bt gb dv all lab s) (c : Chg (fun j => j = bt) w w1) :
    w1.ownsRow base 128 1 all s.atts.length (ptrs gb s.atts.length) :=
  ownsRow_chg h.row c (fun g hg e => by have := h.l1 g hg; rw [e, h.l0] at this; omega)

theorem ptrInfo : (Tryz.prog.info? 128).map (fun i => (i.zero, i.size, i.bytes)) = some (some (.pointer none), 1, 8) := by kernel_rfl
theorem attInfo : (Tryz.prog.info? 138).map (fun i => (i.zero, i.size, i.bytes)) = some (some (.agg #[.int .i64 0, .int .u8 0, .int .i64 0, .int .i64 0, .int .i64 0, .int .i64 0, .bool false, .slice none 0 0]), 8, 80) := by kernel_rfl

theorem one_slice {w : World} {base : Nat} {e : TypeId} {size : Nat} (v : Value) {n : Nat} {xs : List Value} (h : w.ownsRow base e size v n xs) : v.oneCell' = true := by
  obtain ⟨ao, c, rfl⟩ := ownsRow_shape h
  rfl

theorem stop_range {s : HS} {x : Ev} {i : Nat} (h : x.th < 0 ∨ 4 ≤ x.th) : stepH s x i = none := by unfold stepH; rw [if_pos h]

set_option maxRecDepth 100000 in
set_option maxHeartbeats 4000000 in
theorem of_any {w : World} {v : Value} {evs : List Ev} (h : RdT encEv w 4 v evs) (hl : evs.length ≤ 2 ^ 18) :
    Calls Tryz.prog 30 #[v] w (OfPost evs w) := by
  obtain ⟨ao, cap, rfl⟩ := Rd.shape h
  have HRD := hidI h
  obtain ⟨i0, hi, hz0, hz1, hz2⟩ := info_parts ptrInfo
  obtain ⟨i1, gi, gz0, gz1, gz2⟩ := info_parts attInfo
  clear h
  have hl1 : ¬ ((evs.length : Int) > 1048576) := by omega
  go_enter Tryz.func30, Tryz.ntmps30
  go_wp2_with fail
  go_loopw [19, 6, 2] (fun i all l2 wr => l2 = .slice none 0 0 ∧ ∃ (k : Nat) (s : HS) (gb : Nat → Nat) (dv : Nat → Value) (lab : Nat → Nat), k ≤ evs.length ∧ i = .int .i64 (k : Int) ∧ runH (evs.take k) 0 HS.init = .inl s ∧
    Held wr w.heap.size w.heap.size gb dv all lab s ∧ Below w.heap.size w wr) (fun i _ _ _ => ((evs.length : Int) - intOf i).toNat)
  case atStart => exact ⟨rfl, 0, HS.init, _, _, _, Nat.zero_le _, rfl, rfl, Held.init rfl, (Below.refl _ _).alloc (Nat.le_refl _) _⟩
  case round =>
    obtain ⟨rfl, k, s, gb, dv, lab, hk, rfl, hr, hh, hbel⟩ := hrel
    obtain ⟨a6, c6, rfl⟩ := ownsRow_shape hh.row
    have HR := hidI hr
    have HH := hidI hh
    have HBEL := hidI hbel
    clear hr hh hbel
    by_cases hkl : k < evs.length
    · obtain ⟨x, hx⟩ := some_at hkl
      obtain ⟨b, off, rfl, hb, hc⟩ := RdT.at encEv_len (Rd.below HRD.out HBEL.out) hx
      have x0 := hc 0 _ rfl
      have x1 := hc 1 _ rfl
      have x2 := hc 2 _ rfl
      have x3 := hc 3 _ rfl
      simp only [Nat.add_zero] at x0
      clear hc
      have HX := hidI hx
      clear hx
      have HOK := hidI (show HOk s k from by have := HOk.run _ HOk.init HR.out; simpa [List.length_take, Nat.min_eq_left hk] using this)
      by_cases h1 : x.th < 0
      · go_wp2_with fail
        go_ret3
        exact OfPost.no (run_stop HR.out HX.out (stop_range (.inl h1))) (HBEL.out.alloc HBEL.out.size _)
      by_cases h2 : 4 ≤ x.th
      · go_wp2_with fail
        go_ret3
        exact OfPost.no (run_stop HR.out HX.out (stop_range (.inr h2))) (HBEL.out.alloc HBEL.out.size _)
      · have h3 : x.th < 4 := by omega
        have h0 : 0 ≤ x.th := by omega
        go_wp2_with fail
        rw [Nat.mul_comm]
        refine (take_any ((HH.out).keep ((Below.refl _ _).alloc (Nat.le_refl _) _)) x k HOK.out h0 h3 ?_).mono ?_
        · have h5 := total_le _ HR.out
          simp only [List.length_take] at h5
          omega
        rintro e w1 hp
        rcases hp with ⟨hst, rfl, hb1⟩ | ⟨s', dv', lab', hst, rfl, hh', hb1⟩ | ⟨hst, g, hg, rfl, hc1, hg1, hbt1⟩
        · go_wp2_with fail
          go_ret3
          exact OfPost.no (run_stop HR.out HX.out hst) (HBEL.out.trans (((Below.refl _ _).alloc HBEL.out.size _).trans (hb1.mono (HBEL.out.alloc HBEL.out.size _).size)))
        · have HH' := hidI hh'
          have HB1 := hidI hb1
          have HST := hidI hst
          clear hh' hb1 hst
          go_wp2_with fail
          exact ⟨⟨rfl, k + 1, s', gb, dv', lab', by omega, by go_num, run_next HR.out HX.out HST.out, HH'.out, HBEL.out.trans (((Below.refl _ _).alloc HBEL.out.size _).trans HB1.out)⟩, by simp [intOf]; omega⟩
        · have HST := hidI hst
          have HC1 := hidI hc1
          have HG1 := hidI hg1
          have HT1 := hidI hbt1
          have HGE := hidI hg
          have H0 := hidI ((HH.out).keep ((Below.refl _ _).alloc (Nat.le_refl _) (.cells #[.int .i64 x.th, .int .u8 x.k, .int .i64 x.a, .int .i64 x.b] 126)))
          have HROW := hidI (H0.out.row_after HC1.out)
          have HN := hidI (show s.atts.length ≤ k from by have := atts_run _ HR.out; simp [HS.init] at this; omega)
          have hsz := HC1.out.size
          have hsz0 := HBEL.out.size
          clear hst hc1 hg1 hbt1 hg
          go_wp2_with (at_builtin; refine wpList_append_d _ rfl _ _ 132 rfl w.heap.size 128 i0 _ 1 8 Tryz.underlying132 hi hz0 hz1 hz2 rfl (by decide) _ _ _ rfl (ownsRow_chg HROW.out ((Chg.refl (fun _ => False) w1).alloc _) (fun _ _ => id)) ⟨w1.heap.size, 0, none⟩ 1 1 [.pointer (some ⟨g, 0, none⟩)] rfl rfl ?c1 ?c2 ?c3 ?c4 ?c5 ?_)
          case c1 => exact news_at (block_new _ _)
          case c2 => intro u hu; simp at hu; subst hu; rfl
          case c3 => have := HN.out; unfold maxLen; omega
          case c4 => have := HN.out; omega
          case c5 => simp at hsz ⊢; omega
          intro a7 c7 w2 hown hfrom hgrown
          have hc2 := Chg.grown (S := fun j => (Value.slice a6 s.atts.length c6).ownBlock = some j) ((Chg.refl _ w1).alloc _) hgrown (fun k hk => .inl hk)
          obtain ⟨lab', hh'⟩ := H0.out.begin x k (fun t j hj => by obtain ⟨a, ha, _⟩ := HOK.out.opn t j hj; exact (List.getElem?_eq_some_iff.1 ha).1) (by omega) HC1.out HGE.out HG1.out HT1.out hc2 (fun k hk => hk) hown (fun j hj => by
            rcases hfrom j hj with h | h
            · exact .inl h
            · exact .inr (by first | omega | (simp at h; omega)))
          have hb2 : Below w.heap.size w w2 := HBEL.out.trans (((Below.refl _ _).alloc HBEL.out.size _).trans ((HC1.out.to_below (by simp; omega) (fun j hj => by have := H0.out.bbt; omega)).trans (hc2.to_below (by simp at hsz; omega) (fun j hj => (H0.out.row.lt j hj).1))))
          have HH2 := hidI hh'
          have HB2 := hidI hb2
          clear hh' hb2 hc2 hown hfrom hgrown
          go_wp2_with fail
          exact ⟨⟨rfl, k + 1, _, _, _, lab', by omega, by go_num, run_next HR.out HX.out HST.out, HH2.out, HB2.out⟩, by simp [intOf]; omega⟩
    · obtain rfl : k = evs.length := by omega
      obtain ⟨w1, rfl⟩ : ∃ x, x = wr := ⟨_, rfl⟩
      have HN := hidI (show s.atts.length ≤ evs.length from by have := atts_run _ HR.out; simp [HS.init] at this; omega)
      have HA := hidI (Rd.of_own HH.out.row)
      go_wp2_with fail
      go_loopw [55, 2] (fun i l2 w2 => ∃ (m : Nat) (ao2 : Option Addr) (cp2 : Nat) (ps : List (Att × Value)), m ≤ s.atts.length ∧ i = .int .i64 (m : Int) ∧ l2 = .slice ao2 m cp2 ∧ ps.map Prod.fst = s.atts.take m ∧
        w2.ownsRow w1.heap.size 138 8 (.slice ao2 m cp2) m (ps.flatMap enc2) ∧ (∀ (j : Nat) (p : Att × Value), ps[j]? = some p → p.2 = dv j) ∧ Below w1.heap.size w1 w2) (fun i _ _ => ((s.atts.length : Int) - intOf i).toNat)
      case atStart => exact ⟨0, none, 0, [], Nat.zero_le _, rfl, rfl, rfl, World.ownsRow_nil _ _ _ _, fun j p h => by simp at h, Below.refl _ _⟩
      case round =>
        obtain ⟨m, ao2, cp2, ps, hm, rfl, rfl, hps, hown, hdv, hb2⟩ := hrel
        have HPS := hidI hps
        have HOWN := hidI hown
        have HDV := hidI hdv
        have HB2 := hidI hb2
        clear hps hown hdv hb2
        have hpl : ps.length = m := by have := congrArg List.length HPS.out; simp at this; omega
        by_cases hml : m < s.atts.length
        · obtain ⟨a, ha⟩ := some_at hml
          obtain ⟨-, a6', c6', he6, -, hc6⟩ := HA.out
          simp only [Value.slice.injEq] at he6
          obtain ⟨rfl, -, -⟩ := he6
          obtain ⟨b6, o6, rfl, hb6, hc6⟩ := hc6 (by omega)
          have y0 := cell_later HB2.out (hc6 m _ (ptrs_at hml))
          have hat := (HH.out.att m a ha).1
          have hat2 := blk HB2.out hat
          have z0 : wr.cell? ⟨gb m, 0, none⟩ = some (.int .i64 a.th) := cell_of_block (o := 0) hat2 rfl
          have z1 : wr.cell? ⟨gb m, 1, none⟩ = some (.int .u8 a.kind) := cell_of_block (o := 1) hat2 rfl
          have z2 : wr.cell? ⟨gb m, 2, none⟩ = some (.int .i64 a.beg) := cell_of_block (o := 2) hat2 rfl
          have z3 : wr.cell? ⟨gb m, 3, none⟩ = some (.int .i64 a.fin) := cell_of_block (o := 3) hat2 rfl
          have z4 : wr.cell? ⟨gb m, 4, none⟩ = some (.int .i64 a.clock) := cell_of_block (o := 4) hat2 rfl
          have z5 : wr.cell? ⟨gb m, 5, none⟩ = some (.int .i64 a.place) := cell_of_block (o := 5) hat2 rfl
          have z6 : wr.cell? ⟨gb m, 6, none⟩ = some (.bool a.writer) := cell_of_block (o := 6) hat2 rfl
          have z7 : wr.cell? ⟨gb m, 7, none⟩ = some (dv m) := cell_of_block (o := 7) hat2 rfl
          have AE := hidI ha
          clear hc6 hat hat2 ha
          have hsz2 := HB2.out.size
          have hn2 : s.atts.length ≤ 262144 := Nat.le_trans HN.out hl
          go_wp2_with (at_builtin; refine wpList_append_d _ rfl _ _ 88 rfl w1.heap.size 138 i1 _ 8 80 Tryz.underlying88 gi gz0 gz1 gz2 rfl (by decide) _ _ _ rfl (ownsRow_chg HOWN.out ((Chg.refl (fun _ => False) wr).alloc _) (fun _ _ => id)) ⟨wr.heap.size, 0, none⟩ 1 1 (encAtt a (dv m)) rfl rfl ?c1 ?c2 ?c3 ?c4 ?c5 ?_)
          case c1 => exact news_at (block_new _ _)
          case c2 => intro u hu; simp [encAtt] at hu; rcases hu with rfl | rfl | rfl | rfl | rfl | rfl | rfl | rfl <;> first | rfl | exact one_slice (dv m) (HH.out.att m a AE.out).2.2
          case c3 => have := HN.out; unfold maxLen; omega
          case c4 => have := HN.out; omega
          case c5 => simp; omega
          intro ao3 cp3 w3 hown3 hfrom3 hgrown3
          have hb3 : Below w1.heap.size w1 w3 := HB2.out.trans ((Chg.grown (S := fun k => (Value.slice ao2 m cp2).ownBlock = some k) ((Chg.refl _ wr).alloc _) hgrown3 (fun k hk => .inl hk)).to_below hsz2 (fun k hk => (HOWN.out.lt k hk).1))
          have HOWN3 := hidI hown3
          have HB3 := hidI hb3
          clear hown3 hfrom3 hgrown3 hb3
          go_wp2_with fail
          refine ⟨⟨m + 1, _, _, ps ++ [(a, dv m)], by omega, by go_num, rfl, ?_, ?_, fun j p hj => ?_, HB3.out⟩, by simp [intOf]; omega⟩
          · rw [List.map_append, HPS.out, take_snoc AE.out]
            rfl
          · have h1 := HOWN3.out
            rw [flat_snoc]
            exact h1
          · rcases Nat.lt_or_ge j ps.length with h | h
            · rw [List.getElem?_append_left h] at hj
              exact HDV.out j p hj
            · rw [List.getElem?_append_right h] at hj
              have h2 := (List.getElem?_eq_some_iff.1 hj).1
              simp at h2
              obtain rfl : j = m := by omega
              simp [hpl] at hj
              subst hj
              rfl
        · obtain rfl : m = s.atts.length := by omega
          go_wp2_with fail
          go_ret3
          have hr := HR.out
          rw [List.take_length] at hr
          unfold OfPost
          rw [hr]
          have hsz := HBEL.out.size
          refine ⟨ao2, cp2, ps, by rw [HPS.out, List.take_length], by rw [hpl]; rfl, ?_, fun p hp => ?_, fun i j g p q hij hi hj hg hg2 => ?_, fun p hp g hg hg2 => ?_, HBEL.out.trans (HB2.out.mono hsz)⟩
          · rw [hpl]
            exact ownsRow_mono HOWN.out hsz
          · obtain ⟨j, hj⟩ := List.getElem?_of_mem hp
            rw [HDV.out j p hj]
            have hp1 : s.atts[j]? = some p.1 := by
              have h1 := congrArg (fun l => l[j]?) HPS.out
              simp only [List.getElem?_map, hj, List.take_length, Option.map_some] at h1
              exact h1.symm
            exact ((HH.out.keep HB2.out).att j p.1 hp1).2.2
          · have h1 := HH.out.l3 i g (by rw [← hpl]; exact (List.getElem?_eq_some_iff.1 hi).1) (by rw [← HDV.out i p hi]; exact hg)
            have h2 := HH.out.l3 j g (by rw [← hpl]; exact (List.getElem?_eq_some_iff.1 hj).1) (by rw [← HDV.out j q hj]; exact hg2)
            omega
          · obtain ⟨j, hj⟩ := List.getElem?_of_mem hp
            have h1 := HH.out.lt3 (j := j) (g := g) (by rw [← hpl]; exact (List.getElem?_eq_some_iff.1 hj).1) (by rw [← HDV.out j p hj]; exact hg)
            have h2 := (HOWN.out.lt g (by rw [hpl] at hg2; exact hg2)).1
            omega
end Go.Proofs.YtilkpmjkiohfdaaGreatDoor

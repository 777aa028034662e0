/- Package tso: of, event, there, named, waits. -/
import Derived.Test.YtopdcjimpdalpaaGreatTsoA
namespace Go.Proofs.YtopdcjimpdalpaaGreat
open Go.RowKit
set_option linter.unusedVariables false
set_option linter.unusedSimpArgs false

variable {w w' : World} {base b : Nat} {own own' : Nat → Nat} {mm : MM} {xs : List TX} {mv tv ev : Value}

set_option maxHeartbeats 1000000 in
theorem of_yes {tb cap : Nat} (h : MAt w base b own mm xs mv (.slice (some ⟨tb, 0, none⟩) xs.length cap) ev) {n : Nat} {x : TX} (hx : xs[n]? = some x) :
    Calls Tryz.prog 100 #[.pointer (some ⟨b, 0, none⟩), .int .i64 (n : Int)] w fun r w' => r = .returned (.pointer (some ⟨tb, n * 13, none⟩)) ∧ w' = w := by
  have c0 := h.wcell 0 _ rfl
  have c2 := h.wcell 2 _ rfl
  have hn : n < xs.length := (List.getElem?_eq_some_iff.1 hx).1
  clear h hx
  go_enter Tryz.func100, Tryz.ntmps100
  go_wp2_with fail
  go_ret
  exact ⟨rfl, rfl⟩

set_option maxHeartbeats 1000000 in
theorem of_no (h : MAt w base b own mm xs mv tv ev) {z : Int} (hz : z < 0 ∨ xs.length ≤ z) :
    Calls Tryz.prog 100 #[.pointer (some ⟨b, 0, none⟩), .int .i64 z] w fun r w' => r = .returned (.pointer none) ∧ w' = w := by
  obtain ⟨ao, cp, rfl⟩ := ownsRow_shape h.ths
  have c0 := h.wcell 0 _ rfl
  have c2 := h.wcell 2 _ rfl
  clear h
  by_cases h0 : z < 0
  · go_enter Tryz.func100, Tryz.ntmps100
    go_wp2_with fail
    go_ret
    exact ⟨rfl, rfl⟩
  · have h1 : (xs.length : Int) ≤ z := by omega
    clear hz
    go_enter Tryz.func100, Tryz.ntmps100
    go_wp2_with fail
    go_ret
    exact ⟨rfl, rfl⟩

set_option maxHeartbeats 1000000 in
theorem there_in (h : MAt w base b own mm xs mv tv ev) {a : Int} (ha : 0 ≤ a ∧ a < mm.mem.length) (hl : mm.mem.length ≤ 262144) :
    Calls Tryz.prog 141 #[.pointer (some ⟨b, 0, none⟩), .int .i64 a] w fun r w' => r = .returned (.int .i64 a) ∧ w' = w := by
  obtain ⟨ao, cp, rfl⟩ := ownsRow_shape h.mem
  have c1 := h.wcell 1 _ rfl
  have e1 : IntKind.i64.wrap (mm.mem.length : Int) = mm.mem.length := IntWalk.i64_in _ (by omega)
  have e2 : IntKind.i64.wrap a = a := IntWalk.i64_in _ (by omega)
  clear h
  go_enter Tryz.func141, Tryz.ntmps141
  go_wp2_with fail
  go_ret
  exact ⟨rfl, rfl⟩

/-- a panic of package tso: a thread ends -/
def tfault (k : Int) : PanicEntry := { v := .iface 188 (.int .u8 k), recovered := false }

set_option maxHeartbeats 1000000 in
theorem there_out (h : MAt w base b own mm xs mv tv ev) {a : Int} (ha : ¬ (0 ≤ a ∧ a < mm.mem.length)) (hl : mm.mem.length ≤ 262144) :
    Calls Tryz.prog 141 #[.pointer (some ⟨b, 0, none⟩), .int .i64 a] w fun r w' => r = .panicked [tfault 8] ∧ w' = w := by
  obtain ⟨ao, cp, rfl⟩ := ownsRow_shape h.mem
  have c1 := h.wcell 1 _ rfl
  have e1 : IntKind.i64.wrap (mm.mem.length : Int) = mm.mem.length := IntWalk.i64_in _ (by omega)
  clear h
  by_cases h0 : a < 0
  · clear ha
    go_enter Tryz.func141, Tryz.ntmps141
    go_wp2_with fail
    exact ⟨rfl, rfl, rfl⟩
  · have h1 : (mm.mem.length : Int) ≤ a := by omega
    clear ha
    go_enter Tryz.func141, Tryz.ntmps141
    go_wp2_with fail
    exact ⟨rfl, rfl, rfl⟩

theorem Chg.imp {S T : Nat → Prop} {a c : World} (h : Chg S a c) (hs : ∀ k, k < a.heap.size → S k → T k) : Chg T a c :=
  ⟨h.os, h.tape, h.output, h.size, fun k hk hn => h.block k hk fun hS => hn (hs k hk hS)⟩
theorem evInfo : (Tryz.prog.info? 127).map (fun i => (i.zero, i.size, i.bytes)) = some (some (.agg #[.int .i64 0, .int .u8 0, .int .i64 0, .int .i64 0]), 4, 32) := by kernel_rfl
theorem one_ev (x : Ev) : ∀ u ∈ encEv x, u.oneCell' = true := by
  intro u hu
  simp [encEv] at hu
  rcases hu with rfl | rfl | rfl | rfl <;> rfl

theorem run_equalIn_ptr {P : Program} {w : World} (d : Nat) (t e : TypeId) (tb o o' : Nat) (h : P.underlying t = some (.pointer e)) {i : TypeInfo} (hi : P.info? e = some i) (hs : i.size ≠ 0) :
    (Op.equalIn (d + 1) t (.pointer (some ⟨tb, o, none⟩)) (.pointer (some ⟨tb, o', none⟩))).run P w = .ok (decide (o = o')) w := by
  have h3 : ((⟨tb, o, none⟩ : Addr) == ⟨tb, o', none⟩) = decide (o = o') := by
    rw [Bool.eq_iff_iff]
    simp
  simp [Op.equalIn, run_underlying h, sizeOf, typeInfo, hi, hs, sameAddr, h3]
theorem thInfo : (Tryz.prog.info? 184).map (·.size) = some 13 := by kernel_rfl
theorem ptr_eq (w : World) (tb o o' : Nat) : Sem.run Tryz.prog (binOp BinOp.eql 186 (.pointer (some ⟨tb, o, none⟩)) (.pointer (some ⟨tb, o', none⟩))) w = .ok (.bool (decide (o = o'))) w := by
  obtain ⟨i, hi, hs⟩ : ∃ i, Tryz.prog.info? 184 = some i ∧ i.size = 13 := by
    have := thInfo
    cases hq : Tryz.prog.info? 184 with
    | none => rw [hq] at this; cases this
    | some i => rw [hq] at this; exact ⟨i, rfl, by simpa using this⟩
  have := run_equalIn_ptr (P := Tryz.prog) (w := w) 9999 186 184 tb o o' Tryz.underlying186 hi (by omega)
  simp [binOp, Op.equal, Op.maxDepth, this]

/-- what event leaves -/
def EvPost (base b : Nat) (own : Nat → Nat) (mm : MM) (xs : List TX) (mv tv : Value) (w w' : World) : Prop :=
  (∃ own' ev', MAt w' base b own' mm xs mv tv ev' ∧ ∀ k, k < w.heap.size → own' k = own k) ∧ Chg (fun k => own k = 1 ∨ own k = 4) w w'

set_option maxRecDepth 100000 in
set_option maxHeartbeats 2000000 in
theorem event_any {tb cap : Nat} (h : MAt w base b own mm xs mv (.slice (some ⟨tb, 0, none⟩) xs.length cap) ev) {n : Nat} {x : TX} (hx : xs[n]? = some x) (hlen : mm.evs.length < 1000000000) (h4 : xs.length ≤ 4) (k : Int) (a c : Int) :
    Calls Tryz.prog 102 #[.pointer (some ⟨b, 0, none⟩), .pointer (some ⟨tb, n * 13, none⟩), .int .u8 k, .int .i64 a, .int .i64 c] w fun r w' => r = .returned (.tuple #[]) ∧ EvPost base b own (mm.tell n k a c) xs mv (.slice (some ⟨tb, 0, none⟩) xs.length cap) w w' := by
  have c2 := h.wcell 2 _ rfl
  have c3 := h.wcell 3 _ rfl
  have hn : n < xs.length := (List.getElem?_eq_some_iff.1 hx).1
  have H := hidI h
  have HX := hidI hx
  have HL := hidI hlen
  obtain ⟨i0, hi, hz0, hz1, hz2⟩ := info_parts evInfo
  have HI := hidI hi
  have HZ0 := hidI hz0
  have HZ1 := hidI hz1
  have HZ2 := hidI hz2
  clear h hx hlen hi hz0 hz1 hz2
  go_enter Tryz.func102, Tryz.ntmps102
  go_wp2_with fail
  go_loopw [16] (fun i w' => ∃ q : Nat, q ≤ xs.length ∧ i = .int .i64 (q : Int) ∧ (q ≤ n ∧ w' = w ∨ n < q ∧ Hid (EvPost base b own (mm.tell n k a c) xs mv (.slice (some ⟨tb, 0, none⟩) xs.length cap) w w'))) (fun i _ => ((xs.length : Int) - intOf i).toNat)
  case atStart => exact ⟨0, by omega, rfl, .inl ⟨by omega, rfl⟩⟩
  case round =>
    obtain ⟨q, hq, rfl, hw⟩ := hrel
    by_cases hlt : q < xs.length
    · rcases hw with ⟨hqn, rfl⟩ | ⟨hqn, HE⟩
      · by_cases he : q = n
        · subst he
          have hp := fun w => (ptr_eq w tb (q * 13) (q * 13)).trans (by rw [decide_eq_true rfl])
          have hi := HI.out
          have hz0 := HZ0.out
          have hz1 := HZ1.out
          have hz2 := HZ2.out
          go_wp2_with (at_builtin; refine wpList_append_d _ rfl _ _ 53 rfl base 127 i0 _ 4 32 Tryz.underlying53 hi hz0 hz1 hz2 rfl (by decide) _ _ _ rfl (ownsRow_chg H.out.evs ((Chg.refl (fun _ => False) wr).alloc _) (fun _ _ => id)) ⟨wr.heap.size, 0, none⟩ 1 1 (encEv ⟨q, k, a, c⟩) rfl rfl ?c1 ?c2 ?c3 ?c4 ?c5 ?_)
          case c1 => first | exact news_at (block_new _ _) | exact fun j u h => h
          case c2 => exact one_ev _
          case c3 => have := HL.out; unfold maxLen; omega
          case c4 => have := HL.out; omega
          case c5 => have := H.out.base_le; simp; omega
          intro ao cp w1 hown hfrom hgrown
          have hc := Chg.grown (S := fun k => ev.ownBlock = some k) ((Chg.refl _ wr).alloc (.cells (encEv ⟨q, k, a, c⟩).toArray 127)) hgrown (fun k hk => .inl hk)
          have hb1 := chgblk hc H.out.blk (fun hk => by have h1 := H.out.evsT _ hk; rw [H.out.bT.2] at h1; exact absurd h1 (by decide))
          have f1 := free_of_block (o := 3) hb1
          have f2 : w1.cell? ⟨b, 3, none⟩ = some ev := cell_of_block hb1 rfl
          have HB := hidI hb1
          have HC := hidI hc
          have HO := hidI hown
          have HF := hidI hfrom
          clear hb1 hc hown hfrom hgrown hi hz0 hz1 hz2 hp
          go_wp2_with fail
          have hset := block_setCell (o := 3) (.slice ao (mm.evs.length + 1) cp) HB.out
          have hne : ∀ g, (Value.slice ao (mm.evs.length + 1) cp).ownBlock = some g → ev.ownBlock = some g ∨ wr.heap.size ≤ g := fun g hg => by
            rcases HF.out g hg with e | e
            · exact .inl e
            · exact .inr (by omega)
          have hchg : Chg (fun k => k = b ∨ ev.ownBlock = some k) wr (w1.setCell ⟨b, 3, none⟩ (.slice ao (mm.evs.length + 1) cp)) :=
            (Chg.then_ (S := fun k => k = b ∨ ev.ownBlock = some k) (Chg.refl _ wr) HC.out (fun k _ hk => .inr hk)).setCell (p := ⟨b, 3, none⟩) (.inl (.inl rfl)) _
          have hm := H.out.event (mm.evs ++ [⟨q, k, a, c⟩]) (.slice ao (mm.evs.length + 1) cp) hchg hset (by
            rw [List.length_append, flat_snoc]
            exact ownRow_keep HO.out fun g hg hlt => Below.heap_setCell _ _ _ _ (fun e => by
              rcases hne g hg with h1 | h1
              · have h2 := H.out.evsT _ h1; rw [e, H.out.bT.2] at h2; exact absurd h2 (by decide)
              · have := H.out.lt; simp only at e; omega)) hne
          have HE : EvPost base b own (mm.tell q k a c) xs mv (.slice (some ⟨tb, 0, none⟩) xs.length cap) wr (w1.setCell ⟨b, 3, none⟩ (.slice ao (mm.evs.length + 1) cp)) :=
            ⟨⟨_, _, hm, fun k hk => retag_old hk⟩, hchg.imp fun k _ hk => by
              rcases hk with rfl | hk
              · exact .inl H.out.bT.2
              · exact .inr (H.out.evsT k hk)⟩
          exact ⟨⟨q + 1, by omega, by go_num, .inr ⟨by omega, hidI HE⟩⟩, by simp [intOf]; omega⟩
        · have hp := fun w => (ptr_eq w tb (q * 13) (n * 13)).trans (by rw [decide_eq_false (show ¬ q * 13 = n * 13 by omega)])
          go_wp2_with fail
          exact ⟨⟨q + 1, by omega, by go_num, .inl ⟨by omega, trivial⟩⟩, by simp [intOf]; omega⟩
      · have hp := fun w => (ptr_eq w tb (q * 13) (n * 13)).trans (by rw [decide_eq_false (show ¬ q * 13 = n * 13 by omega)])
        obtain ⟨⟨own', ev', hm, ho⟩, hc⟩ := HE.out
        have d2 := hm.wcell 2 _ rfl
        clear hm ho hc
        go_wp2_with fail
        exact ⟨⟨q + 1, by omega, by go_num, .inr ⟨by omega, HE⟩⟩, by simp [intOf]; omega⟩
    · obtain rfl : q = xs.length := by omega
      rcases hw with ⟨hqn, rfl⟩ | ⟨hqn, HE⟩
      · omega
      · go_wp2_with fail
        go_end0
        exact ⟨rfl, HE.out⟩
end Go.Proofs.YtopdcjimpdalpaaGreat

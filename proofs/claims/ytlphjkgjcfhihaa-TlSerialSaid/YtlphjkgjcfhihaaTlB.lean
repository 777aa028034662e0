/- Package tl2: how what lies there changes; the contract of tell. -/
import Derived.Test.YtlphjkgjcfhihaaHistD
import Derived.Test.YtlphjkgjcfhihaaTlA
namespace Go.Proofs.Ytlphjkgjcfhihaa
set_option linter.unusedVariables false
set_option linter.unusedSimpArgs false
open Go.RowKit

variable {w w' : World} {base b m t : Nat} {tw : TW} {ts : List (Th × Value)} {ev : Value}

theorem TlAt.blt (h : TlAt w base b m t tw ts ev) : b < w.heap.size := lt_of_block h.blk
theorem TlAt.mlt (h : TlAt w base b m t tw ts ev) : m < w.heap.size := lt_of_block h.mem
theorem TlAt.tlt (h : TlAt w base b m t tw ts ev) : t < w.heap.size := lt_of_block h.ths
theorem ownLt {w : World} {base : Nat} {e : TypeId} {size : Nat} {v : Value} {n : Nat} {xs : List Value} (h : w.ownsRow base e size v n xs) {g : Nat} (hg : v.ownBlock = some g) : base ≤ g ∧ g < w.heap.size := by
  rcases h.2 with ⟨rfl, _⟩ | ⟨g', cap, cur, rfl, hb, hgg, _⟩
  · cases hg
  · simp only [Value.ownBlock, Option.some.injEq] at hg
    subst hg
    exact ⟨hb, lt_of_block hgg⟩

theorem ownsRow_keep {w w' : World} {base : Nat} {e : TypeId} {size : Nat} {v : Value} {n : Nat} {xs : List Value} (h : w.ownsRow base e size v n xs) (hk : ∀ g, v.ownBlock = some g → g < w.heap.size → w'.heap[g]? = w.heap[g]?) : w'.ownsRow base e size v n xs := by
  refine ⟨h.1, ?_⟩
  rcases h.2 with hn | ⟨g', cap, cur, rfl, hb, hgg, rest⟩
  · exact .inl hn
  · refine .inr ⟨g', cap, cur, rfl, hb, ?_, rest⟩
    rw [hk g' rfl (Array.getElem?_eq_some_iff.1 hgg).1]
    exact hgg

theorem LogAt.keep {x : Th × Value} (h : LogAt w base x) (hs : w.heap.size ≤ w'.heap.size) (hk : ∀ g, x.2.ownBlock = some g → w'.heap[g]? = w.heap[g]?) : LogAt w' base x := by
  refine ⟨fun g hg => ⟨(h.1 g hg).1, by have := (h.1 g hg).2; omega⟩, ?_⟩
  rcases h.2 with ⟨h1, h2⟩ | ⟨h1, h2⟩
  · exact .inl ⟨h1, ownsRow_keep h2 fun g hg _ => hk g hg⟩
  · exact .inr ⟨h1, h2.keep fun g hg _ => hk g hg⟩

/-- the log reads, whatever the phase -/
theorem LogAt.rd {x : Th × Value} (h : LogAt w base x) : Rd w 2 x.2 x.1.log.length (x.1.log.flatMap encCell) := by
  rcases h.2 with ⟨_, h2⟩ | ⟨_, h2⟩
  · exact Rd.of_own h2
  · exact h2

theorem TlAt.below (h : TlAt w base b m t tw ts ev) (hb : Below w.heap.size w w') : TlAt w' base b m t tw ts ev :=
  ⟨Go.Proofs.Ytlphjkgjcfhihaa.blk hb h.blk, Go.Proofs.Ytlphjkgjcfhihaa.blk hb h.mem, Go.Proofs.Ytlphjkgjcfhihaa.blk hb h.ths, h.same, ownsRow_keep h.evs fun g _ hg => hb.block g hg,
    fun k x hk => (h.log k x hk).keep hb.size fun g hg => hb.block g ((h.log k x hk).1 g hg).2, h.lb, h.lm, h.lt, h.bm, h.bt, h.mt, h.ev_ne, h.lg_ne, h.lg_lg⟩
theorem TlAt.drewN (h : TlAt w base b m t tw ts ev) (n : Nat) : TlAt (w.drewN n) base b m t tw ts ev := ⟨h.blk, h.mem, h.ths, h.same, h.evs, h.log, h.lb, h.lm, h.lt, h.bm, h.bt, h.mt, h.ev_ne, h.lg_ne, h.lg_lg⟩
theorem TlAt.drew (h : TlAt w base b m t tw ts ev) : TlAt w.drew base b m t tw ts ev := ⟨h.blk, h.mem, h.ths, h.same, h.evs, h.log, h.lb, h.lm, h.lt, h.bm, h.bt, h.mt, h.ev_ne, h.lg_ne, h.lg_lg⟩

/-- the world's own cells change: clock, locks -/
theorem TlAt.world (h : TlAt w base b m t tw ts ev) (hc : Chg (fun k => k = b) w w') (ck : Int) (lk : Nat → Int)
    (hb : w'.heap[b]? = some (.cells (encW (.slice (some ⟨m, 0, none⟩) tw.mem.length tw.mem.length) ck lk (.slice (some ⟨t, 0, none⟩) ts.length ts.length) ev).toArray 50 (0, 0))) :
    TlAt w' base b m t { tw with clock := ck, locks := lk } ts ev :=
  ⟨hb, chgblk hc h.mem (fun e => h.bm e.symm), chgblk hc h.ths (fun e => h.bt e.symm), h.same, ownsRow_keep h.evs fun g hg hlt => hc.block g hlt fun e => (h.ev_ne g hg).1 e,
    fun k x hk => (h.log k x hk).keep hc.size fun g hg => hc.block g ((h.log k x hk).1 g hg).2 fun e => (h.lg_ne k g x hk hg).1 e, h.lb, h.lm, h.lt, h.bm, h.bt, h.mt, h.ev_ne, h.lg_ne, h.lg_lg⟩

/-- events -/
theorem TlAt.event (h : TlAt w base b m t tw ts ev) (hc : Chg (fun k => k = b ∨ ev.ownBlock = some k) w w') (es : List Ev) (ev' : Value)
    (hb : w'.heap[b]? = some (.cells (encW (.slice (some ⟨m, 0, none⟩) tw.mem.length tw.mem.length) tw.clock tw.locks (.slice (some ⟨t, 0, none⟩) ts.length ts.length) ev').toArray 50 (0, 0)))
    (he : w'.ownsRow base 57 4 ev' es.length (es.flatMap encEv)) (hn : ∀ g, ev'.ownBlock = some g → ev.ownBlock = some g ∨ w.heap.size ≤ g) :
    TlAt w' base b m t { tw with evs := es } ts ev' := by
  have hbl := h.blt
  have hml := h.mlt
  have htl := h.tlt
  refine ⟨hb, chgblk hc h.mem ?_, chgblk hc h.ths ?_, h.same, he, fun k x hk => (h.log k x hk).keep hc.size fun g hg => hc.block g ((h.log k x hk).1 g hg).2 ?_, h.lb, h.lm, h.lt, h.bm, h.bt, h.mt, ?_, ?_, h.lg_lg⟩
  · rintro (e | e)
    · exact h.bm e.symm
    · exact (h.ev_ne m e).2.1 rfl
  · rintro (e | e)
    · exact h.bt e.symm
    · exact (h.ev_ne t e).2.2 rfl
  · rintro (e | e)
    · exact (h.lg_ne k g x hk hg).1 e
    · exact (h.lg_ne k g x hk hg).2.2.2 e
  · intro g hg
    rcases hn g hg with e | e
    · exact h.ev_ne g e
    · omega
  · intro k g x hk hg
    obtain ⟨h1, h2, h3, h4⟩ := h.lg_ne k g x hk hg
    refine ⟨h1, h2, h3, fun e => ?_⟩
    rcases hn g e with e | e
    · exact h4 e
    · have := ((h.log k x hk).1 g hg).2
      omega

/-- one word -/
theorem TlAt.word (h : TlAt w base b m t tw ts ev) (hc : Chg (fun k => k = m) w w') (i : Nat) (v : Int)
    (hm : w'.heap[m]? = some (.cells (((tw.mem.map (Value.int .i64)).toArray).setIfInBounds i (.int .i64 v)) 2 (0, 0))) : TlAt w' base b m t { tw with mem := tw.mem.set i v } ts ev := by
  refine ⟨?_, ?_, chgblk hc h.ths (fun e => h.mt e.symm), h.same, ownsRow_keep h.evs fun g hg hlt => hc.block g hlt fun e => (h.ev_ne g hg).2.1 e,
    fun k x hk => (h.log k x hk).keep hc.size fun g hg => hc.block g ((h.log k x hk).1 g hg).2 fun e => (h.lg_ne k g x hk hg).2.1 e, h.lb, h.lm, h.lt, h.bm, h.bt, h.mt, h.ev_ne, h.lg_ne, h.lg_lg⟩
  · rw [List.length_set]
    exact chgblk hc h.blk h.bm
  · rw [hm]
    simp [List.map_set]

/-- one thread -/
theorem TlAt.thread (h : TlAt w base b m t tw ts ev) {n : Nat} {x : Th × Value} (hx : ts[n]? = some x) (y : Th × Value) (hc : Chg (fun k => k = t ∨ x.2.ownBlock = some k) w w')
    (ht : w'.heap[t]? = some (.cells ((ts.set n y).flatMap encTh).toArray 80 (0, 0))) (hl : LogAt w' base y) (hn : ∀ g, y.2.ownBlock = some g → x.2.ownBlock = some g ∨ w.heap.size ≤ g) :
    TlAt w' base b m t { tw with ths := tw.ths.set n y.1 } (ts.set n y) ev := by
  have hbl := h.blt
  have hml := h.mlt
  have htl := h.tlt
  have hx' := h.lg_ne n
  have get : ∀ (k : Nat) z, (ts.set n y)[k]? = some z → k = n ∧ z = y ∨ k ≠ n ∧ ts[k]? = some z := by
    intro k z hz
    rw [List.getElem?_set] at hz
    split at hz
    · rename_i e
      split at hz
      · cases hz; exact .inl ⟨e.symm, rfl⟩
      · cases hz
    · rename_i e
      exact .inr ⟨fun e' => e e'.symm, hz⟩
  have yne : ∀ g, y.2.ownBlock = some g → g ≠ b ∧ g ≠ m ∧ g ≠ t ∧ ev.ownBlock ≠ some g := by
    intro g hg
    rcases hn g hg with e | e
    · exact h.lg_ne n g x hx e
    · refine ⟨by omega, by omega, by omega, fun e' => ?_⟩
      have := (ownLt h.evs e').2
      omega
  have xne := fun g => h.lg_ne n g x hx
  refine ⟨?_, chgblk hc h.mem ?_, ht, by rw [List.map_set, h.same], ownsRow_keep h.evs fun g hg hlt => hc.block g hlt ?_, ?_, h.lb, h.lm, h.lt, h.bm, h.bt, h.mt, h.ev_ne, ?_, ?_⟩
  · rw [List.length_set]
    refine chgblk hc h.blk ?_
    rintro (e | e)
    · exact h.bt e
    · exact (xne b e).1 rfl
  · rintro (e | e)
    · exact h.mt e
    · exact (xne m e).2.1 rfl
  · rintro (e | e)
    · exact (h.ev_ne g hg).2.2 e
    · exact (xne g e).2.2.2 hg
  · intro k z hz
    rcases get k z hz with ⟨rfl, rfl⟩ | ⟨hk, hz'⟩
    · exact hl
    · refine (h.log k z hz').keep hc.size fun g hg => hc.block g ((h.log k z hz').1 g hg).2 ?_
      rintro (e | e)
      · exact (h.lg_ne k g z hz' hg).2.2.1 e
      · exact h.lg_lg k n g z x hk hz' hx hg e
  · intro k g z hz hg
    rcases get k z hz with ⟨rfl, rfl⟩ | ⟨hk, hz'⟩
    · exact yne g hg
    · exact h.lg_ne k g z hz' hg
  · intro j k g u v hjk hu hv hg hg'
    rcases get j u hu with ⟨rfl, rfl⟩ | ⟨hj, hu'⟩
    · rcases get k v hv with ⟨rfl, rfl⟩ | ⟨hk, hv'⟩
      · exact hjk rfl
      · rcases hn g hg with e | e
        · exact h.lg_lg j k g x v hjk hx hv' e hg'
        · have := ((h.log k v hv').1 g hg').2
          omega
    · rcases get k v hv with ⟨rfl, rfl⟩ | ⟨hk, hv'⟩
      · rcases hn g hg' with e | e
        · exact h.lg_lg k j g x u (fun e => hjk e.symm) hx hu' e hg
        · have := ((h.log j u hu').1 g hg).2
          omega
      · exact h.lg_lg j k g u v hjk hu' hv' hg hg'

theorem TlAt.ev_slice (h : TlAt w base b m t tw ts ev) : ∃ ao c, ev = .slice ao tw.evs.length c := ownsRow_shape h.evs

set_option maxHeartbeats 1000000 in
theorem tell_any (h : TlAt w base b m t tw ts ev) (hlen : tw.evs.length < 70000) (x : Ev) :
    Calls Try.prog 38 #[.pointer (some ⟨b, 0, none⟩), .int .i64 x.th, .int .u8 x.k, .int .i64 x.a, .int .i64 x.b] w fun r w' => r = .returned (.tuple #[]) ∧
      (∃ ev', TlAt w' base b m t { tw with evs := tw.evs ++ [x] } ts ev') ∧ Chg (fun k => k = b ∨ ev.ownBlock = some k) w w' := by
  have c1 : w.cell? ⟨b, 19, none⟩ = some ev := cell_of_block h.blk rfl
  have H := hidI h
  have hbl := h.blt
  have hbb := h.lb
  obtain ⟨i0, hi, hz0, hz1, hz2⟩ := info_parts evInfo
  clear h
  go_enter Try.func38, Try.ntmps38
  go_wp2_with (at_builtin; refine wpList_append_d _ rfl _ _ 24 rfl base 57 i0 _ 4 32 Try.underlying24 hi hz0 hz1 hz2 rfl (by decide) _ _ _ rfl (ownsRow_chg H.out.evs ((Chg.refl (fun _ => False) w).alloc _) (fun _ _ => id)) ⟨w.heap.size, 0, none⟩ 1 1 (encEv x) rfl rfl ?c1 ?c2 ?c3 ?c4 ?c5 ?_)
  case c1 => exact news_at (block_new _ _)
  case c2 => exact one_ev x
  case c3 => unfold maxLen; omega
  case c4 => omega
  case c5 => simp; omega
  intro ao cp w1 hown hfrom hgrown
  have hc := Chg.grown (S := fun k => ev.ownBlock = some k) ((Chg.refl _ w).alloc (.cells (encEv x).toArray 57)) hgrown (fun k hk => .inl hk)
  have hb1 := chgblk hc H.out.blk (fun hk => (H.out.ev_ne b hk).1 rfl)
  have f1 := free_of_block (o := 19) hb1
  have f2 : w1.cell? ⟨b, 19, none⟩ = some ev := cell_of_block hb1 rfl
  have HB := hidI hb1
  have HC := hidI hc
  have HO := hidI hown
  have HF := hidI hfrom
  clear hb1 hc hown hfrom hgrown c1 hi hz0 hz1 hz2 hbl hbb hlen
  go_wp2_with fail
  go_end0
  have hbl := H.out.blt
  have hset := block_setCell (o := 19) (.slice ao (tw.evs.length + 1) cp) HB.out
  have hne : ∀ g, (Value.slice ao (tw.evs.length + 1) cp).ownBlock = some g → ev.ownBlock = some g ∨ w.heap.size ≤ g := fun g hg => by
    rcases HF.out g hg with e | e
    · exact .inl e
    · exact .inr (by omega)
  have hchg : Chg (fun k => k = b ∨ ev.ownBlock = some k) w (w1.setCell ⟨b, 19, none⟩ (.slice ao (tw.evs.length + 1) cp)) :=
    (Chg.then_ (S := fun k => k = b ∨ ev.ownBlock = some k) (Chg.refl _ w) HC.out (fun k _ hk => .inr hk)).setCell (p := ⟨b, 19, none⟩) (.inl (.inl rfl)) _
  refine ⟨rfl, ⟨.slice ao (tw.evs.length + 1) cp, H.out.event hchg (tw.evs ++ [x]) _ hset ?_ hne⟩, hchg⟩
  rw [List.length_append, flat_snoc]
  exact ownsRow_keep HO.out fun g hg hlt => Below.heap_setCell _ _ _ _ (fun e => by
    rcases hne g hg with h1 | h1
    · exact (H.out.ev_ne g h1).1 e
    · simp only at e; omega)

end Go.Proofs.Ytlphjkgjcfhihaa

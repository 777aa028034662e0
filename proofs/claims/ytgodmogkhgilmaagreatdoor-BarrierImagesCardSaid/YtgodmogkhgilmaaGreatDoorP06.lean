/- Part of the proof: EmA -/
import Derived.Test.YtgodmogkhgilmaaGreatDoorP05
import Derived.StillTailTactics
import Derived.Deep.RegionHeld3
import Derived.Maps.RangeWalk
namespace Go.Proofs.YtgodmogkhgilmaaGreatDoor
open Go.RowKit Go.Maps
set_option linter.unusedVariables false
set_option linter.unusedSimpArgs false
set_option maxHeartbeats 2000000
set_option maxRecDepth 100000
structure Cd where
  ops : List OpD
  labs : List Int
  jmp : List (Nat × Nat)
  over : Bool
def Cd.new : Cd := ⟨[], [], [], false⟩
def Cd.put (c : Cd) (o : OpD) : Cd := if 262144 ≤ c.ops.length then { c with over := true } else { c with ops := c.ops ++ [o] }
def Cd.label (c : Cd) : Cd := { c with labs := c.labs ++ [-1] }
def Cd.here (c : Cd) (l : Nat) : Cd := { c with labs := c.labs.set l c.ops.length }
def Cd.mark (c : Cd) (l : Nat) : Cd := { c with jmp := c.jmp ++ [(c.ops.length, l)] }
def Cd.jump (c : Cd) (l : Nat) : Cd := (c.mark l).put ⟨6, 0, 0, 0, 0, 0⟩
def Cd.zero (c : Cd) (r : Int) (l : Nat) : Cd := (c.mark l).put ⟨7, 0, r, 0, 0, 0⟩
theorem put_labs (c : Cd) (o : OpD) : (c.put o).labs = c.labs := by unfold Cd.put; split <;> rfl
def JD (l : List (Nat × Nat)) : DataW Unit := l.foldl (fun D p => D.put (.int .i64 (p.1 : Int)) (.lit (.int .i64 (p.2 : Int)))) (.map [])
theorem JD_snoc (l : List (Nat × Nat)) (p : Nat × Nat) : JD (l ++ [p]) = (JD l).put (.int .i64 (p.1 : Int)) (.lit (.int .i64 (p.2 : Int))) := by unfold JD; rw [List.foldl_append]; rfl
structure CdIn (w : World) (own : Nat → Prop) (bc : Nat) (c : Cd) (k : Nat) (oo : Option Addr) (oc : Nat) (lo : Option Addr) (lc : Nat) (mb : Nat) : Prop where
  blk : w.heap[bc]? = some (.cells #[.slice oo c.ops.length oc, .slice lo c.labs.length lc, .map (some mb), .bool c.over] 127 (0, 0))
  ops : w.ownsRow 0 101 6 (.slice oo c.ops.length oc) c.ops.length (c.ops.flatMap encOp)
  labs : w.ownsRow 0 3 1 (.slice lo c.labs.length lc) c.labs.length (c.labs.map (Value.int .i64))
  mp : w.ownsMap Tryz.prog 3 (plainElem Tryz.prog 326) mb k (JD c.jmp)
  ob : own bc
  oo_ : ∀ g, (Value.slice oo c.ops.length oc).ownBlock = some g → own g
  ol : ∀ g, (Value.slice lo c.labs.length lc).ownBlock = some g → own g
  om : own mb
  lt : ∀ g, own g → g < w.heap.size
  few : c.ops.length ≤ 262144
  lk : c.labs.length ≤ k
  jl : ∀ p ∈ c.jmp, p.2 < c.labs.length
def CdAt (w : World) (own : Nat → Prop) (bc : Nat) (c : Cd) (k : Nat) : Prop := ∃ oo oc lo lc mb, CdIn w own bc c k oo oc lo lc mb
structure Turn (own : Nat → Prop) (w : World) (own' : Nat → Prop) (w' : World) : Prop where
  chg : Chg own w w'
  less : ∀ g, g < w.heap.size → own' g → own g
variable {w w' w1 w2 : World} {own own1 own2 : Nat → Prop} {bc k : Nat} {c : Cd}
theorem Turn.refl (own : Nat → Prop) (w : World) : Turn own w own w := ⟨Chg.refl _ _, fun _ _ h => h⟩
theorem Turn.trans (h : Turn own w own1 w1) (g : Turn own1 w1 own2 w2) : Turn own w own2 w2 :=
  ⟨Chg.then_ h.chg g.chg (fun k hk e => h.less k hk e), fun k hk e => h.less k hk (g.less k (by have := h.chg.size; omega) e)⟩
theorem Turn.alloc (h : Turn own w own1 w1) (o : Obj) : Turn own w own1 (w1.alloc o) := ⟨h.chg.alloc o, h.less⟩
theorem Turn.drewN (h : Turn own w own1 w1) (n : Nat) : Turn own w own1 (w1.drewN n) := ⟨h.chg.drewN n, h.less⟩
theorem Turn.drew (h : Turn own w own1 w1) : Turn own w own1 w1.drew := ⟨h.chg.drew, h.less⟩
theorem Turn.below (h : Turn own w own1 w1) (hb : Below w1.heap.size w1 w2) : Turn own w own1 w2 := ⟨h.chg.trans (Chg.of_below hb), h.less⟩
theorem block_ne {a b : Nat} {ca cb : Array Value} {ta tb : TypeId} {fa fb : Nat × Nat} (ha : w.heap[a]? = some (.cells ca ta fa)) (hb : w.heap[b]? = some (.cells cb tb fb)) (h : ta ≠ tb) : a ≠ b := fun e => by
  subst e
  rw [ha] at hb
  simp only [Option.some.injEq, Obj.cells.injEq] at hb
  exact h hb.2.1
theorem map_ne {a b n : Nat} {ca : Array Value} {ta : TypeId} {fa : Nat × Nat} {K : TypeId} {R : Value → Option (DataW Unit × List MemPlace)} {D : DataW Unit} (ha : w.heap[a]? = some (.cells ca ta fa)) (hb : w.ownsMap Tryz.prog K R b n D) : a ≠ b := fun e => by
  subst e
  obtain ⟨es, clock, hm, _⟩ := hb
  rw [ha] at hm
  cases hm
theorem ownsMap_chg {S : Nat → Prop} {b n : Nat} {K : TypeId} {R : Value → Option (DataW Unit × List MemPlace)} {D : DataW Unit} (h : w.ownsMap Tryz.prog K R b n D) (hc : Chg S w w') (hn : ¬ S b) : w'.ownsMap Tryz.prog K R b n D := by
  have hl := h.lt
  obtain ⟨es, clock, hm, r⟩ := h
  exact ⟨es, clock, (hc.block b hl hn).trans hm, r⟩
section
variable {oo lo : Option Addr} {oc lc mb : Nat}
theorem CdIn.keep {S : Nat → Prop} (h : CdIn w own bc c k oo oc lo lc mb) (hc : Chg S w w') (hS : ∀ g, own g → ¬ S g) : CdIn w' own bc c k oo oc lo lc mb :=
  ⟨chgblk hc h.blk (hS _ h.ob), ownsRow_chg h.ops hc (fun g hg => hS g (h.oo_ g hg)), ownsRow_chg h.labs hc (fun g hg => hS g (h.ol g hg)), ownsMap_chg h.mp hc (hS _ h.om), h.ob, h.oo_, h.ol, h.om, fun g hg => Nat.lt_of_lt_of_le (h.lt g hg) hc.size, h.few, h.lk, h.jl⟩
end
theorem CdAt.keep {S : Nat → Prop} (h : CdAt w own bc c k) (hc : Chg S w w') (hS : ∀ g, own g → ¬ S g) : CdAt w' own bc c k := by
  obtain ⟨oo, oc, lo, lc, mb, h⟩ := h
  exact ⟨oo, oc, lo, lc, mb, h.keep hc hS⟩
theorem CdAt.alloc (h : CdAt w own bc c k) (o : Obj) : CdAt (w.alloc o) own bc c k := h.keep ((Chg.refl (fun _ => False) w).alloc o) (fun _ _ e => e)
theorem CdAt.drew (h : CdAt w own bc c k) : CdAt w.drew own bc c k := h.keep ((Chg.refl (fun _ => False) w).drew) (fun _ _ e => e)
theorem CdAt.below (h : CdAt w own bc c k) (hb : Below w.heap.size w w') : CdAt w' own bc c k := h.keep (Chg.of_below (S := fun _ => False) hb) (fun _ _ e => e)
theorem CdAt.lt (h : CdAt w own bc c k) : ∀ g, own g → g < w.heap.size := by
  obtain ⟨oo, oc, lo, lc, mb, h⟩ := h
  exact h.lt
theorem CdAt.more (h : CdAt w own bc c k) {k' : Nat} (hk : k ≤ k') : CdAt w own bc c k' := by
  obtain ⟨oo, oc, lo, lc, mb, h⟩ := h
  exact ⟨oo, oc, lo, lc, mb, h.blk, h.ops, h.labs, h.mp.mono hk, h.ob, h.oo_, h.ol, h.om, h.lt, h.few, Nat.le_trans h.lk hk, h.jl⟩
structure Keep (w : World) (own : Nat → Prop) (b : Nat) (x : Obj) : Prop where
  blk : w.heap[b]? = some x
  not_ : ¬ own b
theorem Keep.turn {b : Nat} {x : Obj} (h : Keep w own b x) (ht : Turn own w own1 w1) : Keep w1 own1 b x :=
  ⟨chgblk ht.chg h.blk h.not_, fun e => h.not_ (ht.less b (lt_of_block h.blk) e)⟩
theorem Keep.alloc {b : Nat} {x : Obj} (h : Keep w own b x) (o : Obj) : Keep (w.alloc o) own b x := ⟨block_alloc h.blk, h.not_⟩
theorem Keep.drew {b : Nat} {x : Obj} (h : Keep w own b x) : Keep w.drew own b x := ⟨h.blk, h.not_⟩
theorem Keep.below {b : Nat} {x : Obj} (h : Keep w own b x) (hb : Below w.heap.size w w') : Keep w' own b x := ⟨Go.Proofs.YtgodmogkhgilmaaGreatDoor.blk hb h.blk, h.not_⟩
theorem Keep.new (h : CdAt w own bc c k) (o : Obj) : Keep (w.alloc o) own w.heap.size o := ⟨block_new w o, fun e => by have := h.lt _ e; omega⟩
def EmC (own : Nat → Prop) (w : World) (bc : Nat) (c c' : Cd) (k' : Nat) (v : Value) (e : Ending) (w' : World) : Prop :=
  e = .returned v ∧ ∃ own', CdAt w' own' bc c' k' ∧ Turn own w own' w' ∧ c.labs.length ≤ c'.labs.length
theorem emOpInfo : (Tryz.prog.info? 101).map (fun i => (i.zero, i.size, i.bytes)) = some (some (.agg #[.int .u8 0, .int .u8 0, .int .u8 0, .int .u8 0, .int .u8 0, .int .i64 0]), 6, 16) := by kernel_rfl
theorem emIntInfo : (Tryz.prog.info? 3).map (fun i => (i.zero, i.size, i.bytes)) = some (some (.int .i64 0), 1, 8) := by kernel_rfl
theorem one_emop (o : OpD) : ∀ u ∈ encOp o, u.oneCell' = true := by
  intro u hu
  simp [encOp] at hu
  rcases hu with rfl | rfl | rfl | rfl | rfl | rfl <;> rfl
theorem row_ne {base size n b g : Nat} {e tb : TypeId} {v : Value} {xs : List Value} {cb : Array Value} {fb : Nat × Nat} (h : w.ownsRow base e size v n xs) (hg : v.ownBlock = some g) (hb : w.heap[b]? = some (.cells cb tb fb)) (ht : e ≠ tb) : g ≠ b := by
  rcases h.2 with ⟨hv, _⟩ | ⟨g', cap', cur, hv, hb', hgg, _⟩
  · rw [hv] at hg; simp [Value.ownBlock] at hg
  · rw [hv] at hg
    simp only [Value.ownBlock, Option.some.injEq] at hg
    subst hg
    exact block_ne hgg hb ht
theorem row_nemap {base size n b g m : Nat} {e K : TypeId} {v : Value} {xs : List Value} {R : Value → Option (DataW Unit × List MemPlace)} {D : DataW Unit} (h : w.ownsRow base e size v n xs) (hg : v.ownBlock = some g) (hb : w.ownsMap Tryz.prog K R b m D) : g ≠ b := by
  rcases h.2 with ⟨hv, _⟩ | ⟨g', cap', cur, hv, hb', hgg, _⟩
  · rw [hv] at hg; simp [Value.ownBlock] at hg
  · rw [hv] at hg
    simp only [Value.ownBlock, Option.some.injEq] at hg
    subst hg
    exact map_ne hgg hb
theorem rows_ne {base size n m sz g : Nat} {e e' : TypeId} {v u : Value} {xs ys : List Value} (h : w.ownsRow base e size v n xs) (hg : v.ownBlock = some g) (h' : w.ownsRow base e' sz u m ys) (ht : e ≠ e') : u.ownBlock ≠ some g := fun hu => by
  rcases h'.2 with ⟨hv, _⟩ | ⟨g', cap', cur, hv, hb', hgg, _⟩
  · rw [hv] at hu; simp [Value.ownBlock] at hu
  · rw [hv] at hu
    simp only [Value.ownBlock, Option.some.injEq] at hu
    subst hu
    exact row_ne h hg hgg ht rfl
section
variable {oo lo ao : Option Addr} {oc lc mb cp : Nat}
theorem CdIn.ne (h : CdIn w own bc c k oo oc lo lc mb) : (∀ g, (Value.slice oo c.ops.length oc).ownBlock = some g → g ≠ bc ∧ g ≠ mb ∧ (Value.slice lo c.labs.length lc).ownBlock ≠ some g) ∧ (∀ g, (Value.slice lo c.labs.length lc).ownBlock = some g → g ≠ bc ∧ g ≠ mb ∧ (Value.slice oo c.ops.length oc).ownBlock ≠ some g) ∧ mb ≠ bc :=
  ⟨fun g hg => ⟨row_ne h.ops hg h.blk (by decide), row_nemap h.ops hg h.mp, rows_ne h.ops hg h.labs (by decide)⟩, fun g hg => ⟨row_ne h.labs hg h.blk (by decide), row_nemap h.labs hg h.mp, rows_ne h.labs hg h.ops (by decide)⟩, fun e => map_ne h.blk h.mp e.symm⟩
theorem CdIn.more_ops (h : CdIn w own bc c k oo oc lo lc mb) (o : OpD) (hf : c.ops.length < 262144) (hc : Chg (fun g => (Value.slice oo c.ops.length oc).ownBlock = some g) w w1)
    (hown : w1.ownsRow 0 101 6 (.slice ao (c.ops.length + 1) cp) (c.ops.length + 1) (c.ops.flatMap encOp ++ encOp o)) (hfrom : ∀ g, (Value.slice ao (c.ops.length + 1) cp).ownBlock = some g → (Value.slice oo c.ops.length oc).ownBlock = some g ∨ w.heap.size ≤ g) :
    ∃ own', CdAt (w1.setCell ⟨bc, 0, none⟩ (.slice ao (c.ops.length + 1) cp)) own' bc (c.put o) k ∧ Turn own w own' (w1.setCell ⟨bc, 0, none⟩ (.slice ao (c.ops.length + 1) cp)) := by
  obtain ⟨n1, n2, n3⟩ := h.ne
  have hput : c.put o = { c with ops := c.ops ++ [o] } := by unfold Cd.put; rw [if_neg (by omega)]
  have hb1 := chgblk hc h.blk (fun e => (n1 _ e).1 rfl)
  have hset := block_setCell (o := 0) (.slice ao (c.ops.length + 1) cp) hb1
  have hc2 : Chg (fun g => g = bc) w1 (w1.setCell ⟨bc, 0, none⟩ (.slice ao (c.ops.length + 1) cp)) := (Chg.refl (fun g => g = bc) w1).setCell (p := ⟨bc, 0, none⟩) (.inl rfl) _
  have hl1 := ownsRow_chg h.labs hc (fun g hg => (n2 g hg).2.2)
  have hm1 := ownsMap_chg h.mp hc (fun e => (n1 _ e).2.1 rfl)
  have hro : ∀ g, (Value.slice ao (c.ops.length + 1) cp).ownBlock = some g → g ≠ bc := fun g hg => row_ne hown hg hb1 (by decide)
  refine ⟨fun g => own g ∨ (Value.slice ao (c.ops.length + 1) cp).ownBlock = some g, ⟨ao, cp, lo, lc, mb, ?_⟩, ?_, ?_⟩
  · rw [hput]
    refine ⟨?_, ?_, ownsRow_chg hl1 hc2 (fun g hg => (n2 g hg).1), ownsMap_chg hm1 hc2 n3, .inl h.ob, fun g hg => .inr (by simpa using hg), fun g hg => .inl (h.ol g hg), .inl h.om, ?_, ?_, h.lk, h.jl⟩
    · simpa using hset
    · have h9 := ownsRow_chg hown hc2 hro
      rw [← flat_snoc] at h9
      simpa using h9
    · rintro g (hg | hg)
      · exact Nat.lt_of_lt_of_le (h.lt g hg) (Nat.le_trans hc.size hc2.size)
      · exact Nat.lt_of_lt_of_le (hown.lt g hg).2 hc2.size
    · simp; omega
  · exact Chg.then_ (Chg.then_ (Chg.refl own w) hc (fun g _ e => h.oo_ g e)) hc2 (fun g _ e => by rw [e]; exact h.ob)
  · rintro g hl (hg | hg)
    · exact hg
    · rcases hfrom g hg with e | e
      · exact h.oo_ g e
      · omega
theorem CdIn.more_labs (h : CdIn w own bc c k oo oc lo lc mb) (hc : Chg (fun g => (Value.slice lo c.labs.length lc).ownBlock = some g) w w1)
    (hown : w1.ownsRow 0 3 1 (.slice ao (c.labs.length + 1) cp) (c.labs.length + 1) (c.labs.map (Value.int .i64) ++ [.int .i64 (-1)])) (hfrom : ∀ g, (Value.slice ao (c.labs.length + 1) cp).ownBlock = some g → (Value.slice lo c.labs.length lc).ownBlock = some g ∨ w.heap.size ≤ g) :
    ∃ own', CdAt (w1.setCell ⟨bc, 1, none⟩ (.slice ao (c.labs.length + 1) cp)) own' bc c.label (k + 1) ∧ Turn own w own' (w1.setCell ⟨bc, 1, none⟩ (.slice ao (c.labs.length + 1) cp)) := by
  obtain ⟨n1, n2, n3⟩ := h.ne
  have hb1 := chgblk hc h.blk (fun e => (n2 _ e).1 rfl)
  have hset := block_setCell (o := 1) (.slice ao (c.labs.length + 1) cp) hb1
  have hc2 : Chg (fun g => g = bc) w1 (w1.setCell ⟨bc, 1, none⟩ (.slice ao (c.labs.length + 1) cp)) := (Chg.refl (fun g => g = bc) w1).setCell (p := ⟨bc, 1, none⟩) (.inl rfl) _
  have hl1 := ownsRow_chg h.ops hc (fun g hg => (n1 g hg).2.2)
  have hm1 := ownsMap_chg h.mp hc (fun e => (n2 _ e).2.1 rfl)
  have hro : ∀ g, (Value.slice ao (c.labs.length + 1) cp).ownBlock = some g → g ≠ bc := fun g hg => row_ne hown hg hb1 (by decide)
  refine ⟨fun g => own g ∨ (Value.slice ao (c.labs.length + 1) cp).ownBlock = some g, ⟨oo, oc, ao, cp, mb, ?_⟩, ?_, ?_⟩
  · refine ⟨?_, ownsRow_chg hl1 hc2 (fun g hg => (n1 g hg).1), ?_, (ownsMap_chg hm1 hc2 n3).mono (Nat.le_succ _), .inl h.ob, fun g hg => .inl (h.oo_ g hg), fun g hg => .inr (by simpa [Cd.label] using hg), .inl h.om, ?_, h.few, ?_, ?_⟩
    · simpa [Cd.label] using hset
    · have h9 := ownsRow_chg hown hc2 hro
      simpa [Cd.label] using h9
    · rintro g (hg | hg)
      · exact Nat.lt_of_lt_of_le (h.lt g hg) (Nat.le_trans hc.size hc2.size)
      · exact Nat.lt_of_lt_of_le (hown.lt g hg).2 hc2.size
    · have := h.lk; simp [Cd.label]; omega
    · intro p hp
      have := h.jl p hp
      simp [Cd.label]; omega
  · exact Chg.then_ (Chg.then_ (Chg.refl own w) hc (fun g _ e => h.ol g e)) hc2 (fun g _ e => by rw [e]; exact h.ob)
  · rintro g hl (hg | hg)
    · exact hg
    · rcases hfrom g hg with e | e
      · exact h.ol g e
      · omega
end
theorem put_over (h : CdAt w own bc c k) (o : OpD) (hf : 262144 ≤ c.ops.length) :
    Calls Tryz.prog 190 #[.pointer (some ⟨bc, 0, none⟩), .agg #[.int .u8 o.kind, .int .u8 o.cal, .int .u8 o.a, .int .u8 o.b, .int .u8 o.c, .int .i64 o.n]] w (EmC own w bc c (c.put o) k (.tuple #[])) := by
  obtain ⟨oo, oc, lo, lc, mb, h⟩ := h
  have c0 : w.cell? ⟨bc, 0, none⟩ = some (.slice oo c.ops.length oc) := cell_of_block h.blk rfl
  have c3 : w.cell? ⟨bc, 3, none⟩ = some (.bool c.over) := cell_of_block h.blk rfl
  have f3 : w.frozen? ⟨bc, 3, none⟩ = false := free_of_block h.blk
  have hfew := h.few
  have hg : (c.ops.length : Int) ≥ 262144 := by omega
  have hbl := lt_of_block h.blk
  have H := hidI h
  have HF := hidI hf
  clear h hf hfew
  go_enter Tryz.func190, Tryz.ntmps190
  go_wp2_with fail
  go_end0
  have hput : c.put o = { c with over := true } := by unfold Cd.put; rw [if_pos HF.out]
  have hc1 : Chg (fun g => g = bc) w ((w.setCell ⟨bc, 3, none⟩ (.bool true)).alloc (.cells #[.int .u8 o.kind, .int .u8 o.cal, .int .u8 o.a, .int .u8 o.b, .int .u8 o.c, .int .i64 o.n] 101)) := ((Chg.refl (fun g => g = bc) w).setCell (p := ⟨bc, 3, none⟩) (.inl rfl) _).alloc _
  obtain ⟨n1, n2, n3⟩ := H.out.ne
  have hset := block_alloc (o := .cells #[.int .u8 o.kind, .int .u8 o.cal, .int .u8 o.a, .int .u8 o.b, .int .u8 o.c, .int .i64 o.n] 101) (block_setCell (o := 3) (.bool true) H.out.blk)
  refine ⟨rfl, own, ⟨oo, oc, lo, lc, mb, ?_⟩, ⟨Chg.then_ (Chg.refl own w) hc1 (fun g _ (e : g = bc) => by rw [e]; exact H.out.ob), fun _ _ e => e⟩, by rw [put_labs]; exact Nat.le_refl _⟩
  rw [hput]
  exact ⟨by simpa using hset, ownsRow_chg H.out.ops hc1 (fun g hg => (n1 g hg).1), ownsRow_chg H.out.labs hc1 (fun g hg => (n2 g hg).1), ownsMap_chg H.out.mp hc1 n3, H.out.ob, H.out.oo_, H.out.ol, H.out.om, fun g hg => Nat.lt_of_lt_of_le (H.out.lt g hg) hc1.size, H.out.few, H.out.lk, H.out.jl⟩
theorem put_more (h : CdAt w own bc c k) (o : OpD) (hf : c.ops.length < 262144) :
    Calls Tryz.prog 190 #[.pointer (some ⟨bc, 0, none⟩), .agg #[.int .u8 o.kind, .int .u8 o.cal, .int .u8 o.a, .int .u8 o.b, .int .u8 o.c, .int .i64 o.n]] w (EmC own w bc c (c.put o) k (.tuple #[])) := by
  obtain ⟨oo, oc, lo, lc, mb, h⟩ := h
  have c0 : w.cell? ⟨bc, 0, none⟩ = some (.slice oo c.ops.length oc) := cell_of_block h.blk rfl
  have hg : ¬ ((c.ops.length : Int) ≥ 262144) := by omega
  have hbl := lt_of_block h.blk
  have H := hidI h
  have HF := hidI hf
  obtain ⟨i0, hi, hz0, hz1, hz2⟩ := info_parts emOpInfo
  have HI := hidI hi
  have HZ0 := hidI hz0
  have HZ1 := hidI hz1
  have HZ2 := hidI hz2
  clear h hi hz0 hz1 hz2
  go_enter Tryz.func190, Tryz.ntmps190
  go_wp2_with fail
  obtain ⟨wa, hwa⟩ : ∃ x, x = w.alloc (.cells #[.int .u8 o.kind, .int .u8 o.cal, .int .u8 o.a, .int .u8 o.b, .int .u8 o.c, .int .i64 o.n] 101) := ⟨_, rfl⟩
  have hba : Below w.heap.size w wa := by rw [hwa]; exact (Below.refl _ _).alloc (Nat.le_refl _) _
  have HBA := hidI hba
  have a0 : wa.cell? ⟨bc, 0, none⟩ = some (.slice oo c.ops.length oc) := (hba.cell hbl).trans c0
  have a1 : ∀ o : Obj, (wa.alloc o).cell? ⟨bc, 0, none⟩ = some (.slice oo c.ops.length oc) := fun o => by rw [World.cell?_alloc_lt _ _ _ (by have := hba.size; show bc < _; omega)]; exact a0
  have hnew : wa.heap[w.heap.size]? = some (.cells #[.int .u8 o.kind, .int .u8 o.cal, .int .u8 o.a, .int .u8 o.b, .int .u8 o.c, .int .i64 o.n] 101 (0, 0)) := by rw [hwa]; exact block_new _ _
  have d0 : wa.cell? ⟨w.heap.size, 0, none⟩ = some (.int .u8 o.kind) := cell_of_block hnew rfl
  have d1 : wa.cell? ⟨w.heap.size, 1, none⟩ = some (.int .u8 o.cal) := cell_of_block hnew rfl
  have d2 : wa.cell? ⟨w.heap.size, 2, none⟩ = some (.int .u8 o.a) := cell_of_block hnew rfl
  have d3 : wa.cell? ⟨w.heap.size, 3, none⟩ = some (.int .u8 o.b) := cell_of_block hnew rfl
  have d4 : wa.cell? ⟨w.heap.size, 4, none⟩ = some (.int .u8 o.c) := cell_of_block hnew rfl
  have d5 : wa.cell? ⟨w.heap.size, 5, none⟩ = some (.int .i64 o.n) := cell_of_block hnew rfl
  have HA := hidI (H.out.keep (Chg.of_below (S := fun _ => False) hba) (fun _ _ e => e))
  rw [← hwa]
  obtain ⟨bx, hbx⟩ : ∃ x, x = w.heap.size := ⟨_, rfl⟩
  rw [← hbx] at d0 d1 d2 d3 d4 d5 ⊢
  clear hwa hba c0 hnew hbx hbl
  go_region_law (first
    | (refine step_append_d (by rfl) (.tmp 17) (.tmp 19) 79 (by rfl) 0 101 i0 _ 6 16 Tryz.underlying79 HI.out HZ0.out HZ1.out HZ2.out rfl (by decide) (.slice oo c.ops.length oc) c.ops.length (c.ops.flatMap encOp) (by simp [Act.eval]) (by exact ownsRow_chg HA.out.ops (((Chg.refl (fun _ => False) wa).alloc _).drew) (fun _ _ => id)) ⟨wa.heap.size, 0, none⟩ 1 1 (by decide) (encOp o) (by simp [Act.eval]) rfl (by exact news_at (block_new wa _)) (one_emop _) (by have := HF.out; unfold maxLen; omega) (by have := HF.out; omega) (Nat.zero_le _) ?_; intro ao cp w5 h1 h2 h3; have HO5 := hidI h1; have HF5 := hidI h2; have HG5 := hidI h3; have hc5 := (((Chg.refl (fun g => (Value.slice oo c.ops.length oc).ownBlock = some g) wa).alloc _).drew).grown h3 (fun g hg => .inl hg); have HC5 := hidI hc5; have hb5 := chgblk hc5 HA.out.blk (fun e => (HA.out.ne.1 _ e).1 rfl); have s0 : w5.cell? ⟨bc, 0, none⟩ = some (.slice oo c.ops.length oc) := cell_of_block hb5 rfl; have s1 : w5.frozen? ⟨bc, 0, none⟩ = false := free_of_block hb5; clear h1 h2 h3 hc5 hb5))
  all_goals (
    go_wp2_with fail
    go_end0
    have hsz : wa.heap.size < (wa.alloc (.cells (encOp o).toArray 101)).heap.size := by rw [World.size_alloc]; omega
    obtain ⟨own', r1, r2⟩ := HA.out.more_ops o HF.out HC5.out HO5.out (fun g hg => (HF5.out g hg).imp id (fun e => by
      have e2 : (wa.alloc (.cells (encOp o).toArray 101)).heap.size ≤ g := e
      omega))
    exact ⟨rfl, own', r1, ((Turn.refl own w).below HBA.out).trans r2, by rw [put_labs]; exact Nat.le_refl _⟩)
theorem put_any (h : CdAt w own bc c k) (o : OpD) :
    Calls Tryz.prog 190 #[.pointer (some ⟨bc, 0, none⟩), .agg #[.int .u8 o.kind, .int .u8 o.cal, .int .u8 o.a, .int .u8 o.b, .int .u8 o.c, .int .i64 o.n]] w (EmC own w bc c (c.put o) k (.tuple #[])) := by
  rcases Nat.lt_or_ge c.ops.length 262144 with hf | hf
  · exact put_more h o hf
  · exact put_over h o hf
theorem label_any (h : CdAt w own bc c k) (hk : k ≤ 1099511627776) :
    Calls Tryz.prog 180 #[.pointer (some ⟨bc, 0, none⟩)] w (EmC own w bc c c.label (k + 1) (.int .i64 (c.labs.length : Int))) := by
  obtain ⟨oo, oc, lo, lc, mb, h⟩ := h
  have c1 : w.cell? ⟨bc, 1, none⟩ = some (.slice lo c.labs.length lc) := cell_of_block h.blk rfl
  have hlk := h.lk
  have HLK := hidI (show c.labs.length ≤ 1099511627776 from by omega)
  have hsub : IntKind.i64.wrap (((c.labs.length + 1 : Nat) : Int) - 1) = (c.labs.length : Int) := by rw [show ((c.labs.length + 1 : Nat) : Int) - 1 = (c.labs.length : Int) from by omega]; exact IntWalk.i64_in _ (by omega)
  have hsub2 : IntKind.i64.wrap ((c.labs.length : Int) + 1 - 1) = (c.labs.length : Int) := by rw [show (c.labs.length : Int) + 1 - 1 = (c.labs.length : Int) from by omega]; exact IntWalk.i64_in _ (by omega)
  have hsub3 : (c.labs.length : Int) + 1 - 1 = (c.labs.length : Int) := by omega
  have hsub4 : IntKind.i64.wrap (c.labs.length : Int) = (c.labs.length : Int) := IntWalk.i64_in _ (by omega)
  obtain ⟨i0, hi, hz0, hz1, hz2⟩ := info_parts emIntInfo
  have H := hidI h
  clear h hlk
  go_enter Tryz.func180, Tryz.ntmps180
  go_wp2_with (at_builtin; refine wpList_append_d _ rfl _ _ 69 rfl 0 3 i0 _ 1 8 Tryz.underlying69 hi hz0 hz1 hz2 rfl (by decide) _ _ _ rfl (ownsRow_chg H.out.labs ((Chg.refl (fun _ => False) w).alloc _) (fun _ _ => id)) ⟨w.heap.size, 0, none⟩ 1 1 [.int .i64 (-1)] rfl rfl ?c1 ?c2 ?c3 ?c4 ?c5 ?_)
  case c1 => exact news_at (block_new _ _)
  case c2 => intro u hu; simp at hu; subst hu; rfl
  case c3 => have := HLK.out; unfold maxLen; omega
  case c4 => have := HLK.out; omega
  case c5 => exact Nat.zero_le _
  intro ao cp w5 h1 h2 h3
  have hc5 := ((Chg.refl (fun g => (Value.slice lo c.labs.length lc).ownBlock = some g) w).alloc _).grown h3 (fun g hg => .inl hg)
  have hb5 := chgblk hc5 H.out.blk (fun e => (H.out.ne.2.1 _ e).1 rfl)
  have s0 : w5.cell? ⟨bc, 1, none⟩ = some (.slice lo c.labs.length lc) := cell_of_block hb5 rfl
  have s1 : w5.frozen? ⟨bc, 1, none⟩ = false := free_of_block hb5
  obtain ⟨own', r1, r2⟩ := H.out.more_labs hc5 h1 (fun g hg => (h2 g hg).imp id (fun e => by
    first | (rw [World.size_alloc] at e; omega) | omega))
  have s2 : (w5.setCell ⟨bc, 1, none⟩ (.slice ao (c.labs.length + 1) cp)).cell? ⟨bc, 1, none⟩ = some (.slice ao (c.labs.length + 1) cp) := cell_of_block (block_setCell _ hb5) rfl
  have HR1 := hidI r1
  have HR2 := hidI r2
  clear h1 h2 h3 hc5 hb5 r1 r2 c1 hi hz0 hz1 hz2
  go_wp2_with fail
  go_ret
  exact ⟨rfl, own', HR1.out, HR2.out, by simp [Cd.label]⟩
theorem em_row_set {base g n cap o sz : Nat} {e : TypeId} {cs : List Value} (h : w.ownsRow base e sz (.slice (some ⟨g, 0, none⟩) n cap) n cs) (u : Value) : (w.setCell ⟨g, o, none⟩ u).ownsRow base e sz (.slice (some ⟨g, 0, none⟩) n cap) n (cs.set o u) := by
  rcases h.2 with ⟨hv', _⟩ | ⟨g', cap', cur, hv', hb, hg, hc, hm, hs, ht⟩
  · simp at hv'
  · simp only [Value.slice.injEq, Option.some.injEq, Addr.mk.injEq, and_true, true_and] at hv'
    obtain ⟨rfl, rfl⟩ := hv'
    refine ⟨by rw [List.length_set]; exact h.1, .inr ⟨g, cap, _, rfl, hb, block_setCell u hg, hc, hm, by simpa using hs, ?_⟩⟩
    rw [Array.toList_setIfInBounds, List.take_set, ht]
theorem here_any (h : CdAt w own bc c k) {l : Nat} (hl : l < c.labs.length) :
    Calls Tryz.prog 181 #[.pointer (some ⟨bc, 0, none⟩), .int .i64 (l : Int)] w (EmC own w bc c (c.here l) k (.tuple #[])) := by
  obtain ⟨oo, oc, lo, lc, mb, h⟩ := h
  have c0 : w.cell? ⟨bc, 0, none⟩ = some (.slice oo c.ops.length oc) := cell_of_block h.blk rfl
  have c1 : w.cell? ⟨bc, 1, none⟩ = some (.slice lo c.labs.length lc) := cell_of_block h.blk rfl
  obtain ⟨g, cur, hlo, -, hgb, hcap, hcells⟩ := ownsRow_some h.labs (by omega)
  subst hlo
  have hv : (c.labs.map (Value.int .i64))[l]? = some (.int .i64 (c.labs.getD l 0)) := by simp [hl]
  have d0 : w.cell? ⟨g, l, none⟩ = some (.int .i64 (c.labs.getD l 0)) := cell_of_block hgb (hcells _ _ hv)
  have f0 : w.frozen? ⟨g, l, none⟩ = false := free_of_block hgb
  have q1 : (l : Int) < (c.labs.length : Int) := by omega
  have H := hidI h
  generalize c.labs.getD l 0 = old at d0
  clear h hgb hcells hv
  go_enter Tryz.func181, Tryz.ntmps181
  go_wp2_with fail
  go_still_tail 11, (by kernel_rfl)
  go_wp2_with fail
  go_end0
  obtain ⟨n1, n2, n3⟩ := H.out.ne
  have hc : Chg (fun x => x = g) w (w.setCell ⟨g, l, none⟩ (.int .i64 (c.ops.length : Int))).drew := ((Chg.refl (fun x => x = g) w).setCell (p := ⟨g, l, none⟩) (.inl rfl) _).drew
  have hg := n2 g rfl
  refine ⟨rfl, own, ⟨oo, oc, some ⟨g, 0, none⟩, lc, mb, ?_⟩, ⟨Chg.then_ (Chg.refl own w) hc (fun x _ e => by rw [e]; exact H.out.ol g rfl), fun _ _ e => e⟩, by simp [Cd.here]⟩
  have hls : (c.here l).labs.length = c.labs.length := by simp [Cd.here]
  refine ⟨?_, ownsRow_chg H.out.ops hc (fun x hx e => hg.2.2 (by rw [← e]; exact hx)), ?_, ownsMap_chg H.out.mp hc (fun e => hg.2.1 e.symm), H.out.ob, H.out.oo_, ?_, H.out.om, fun x hx => Nat.lt_of_lt_of_le (H.out.lt x hx) hc.size, H.out.few, by rw [hls]; exact H.out.lk, ?_⟩
  · rw [hls]
    exact chgblk hc H.out.blk (fun e => hg.1 e.symm)
  · rw [hls]
    have h9 := em_row_set (o := l) H.out.labs (.int .i64 (c.ops.length : Int))
    rw [← List.map_set] at h9
    exact h9
  · rw [hls]
    exact H.out.ol
  · intro p hp
    rw [hls]
    exact H.out.jl p hp
theorem emLaw : Keyed Tryz.prog 3 := int_keyed Tryz.underlying3
theorem CdIn.marked {oo lo : Option Addr} {oc lc mb l : Nat} (h : CdIn w own bc c k oo oc lo lc mb) (hl : l < c.labs.length) (hm : w1.ownsMap Tryz.prog 3 (plainElem Tryz.prog 326) mb (k + 1) ((JD c.jmp).put (.int .i64 (c.ops.length : Int)) (.lit (.int .i64 (l : Int))))) (hg : w.grownBy w1 (some mb)) :
    CdAt w1 own bc (c.mark l) (k + 1) ∧ Turn own w own w1 := by
  obtain ⟨n1, n2, n3⟩ := h.ne
  have hc : Chg (fun g => g = mb) w w1 := (Chg.refl (fun g => g = mb) w).grown hg (fun g hg => .inl (by simpa using hg.symm))
  refine ⟨⟨oo, oc, lo, lc, mb, ⟨chgblk hc h.blk n3.symm, ownsRow_chg h.ops hc (fun g hg => (n1 g hg).2.1), ownsRow_chg h.labs hc (fun g hg => (n2 g hg).2.1), ?_, h.ob, h.oo_, h.ol, h.om, fun g hg => Nat.lt_of_lt_of_le (h.lt g hg) hc.size, h.few, Nat.le_succ_of_le h.lk, ?_⟩⟩, ⟨Chg.then_ (Chg.refl own w) hc (fun g _ e => by rw [e]; exact h.om), fun _ _ e => e⟩⟩
  · rw [show (c.mark l).jmp = c.jmp ++ [(c.ops.length, l)] from rfl, JD_snoc]
    exact hm
  · intro p hp
    rcases List.mem_append.1 hp with hp | hp
    · exact h.jl p hp
    · simp at hp; rw [hp]; exact hl
theorem wf_small {x : Nat} (h : x ≤ 1099511627776) : (Lit.int .i64 (x : Int)).wf = true := WalkArith.wf_i64 (by omega)
theorem jump_any (h : CdAt w own bc c k) {l : Nat} (hl : l < c.labs.length) (hk : k ≤ 1099511627776) :
    Calls Tryz.prog 188 #[.pointer (some ⟨bc, 0, none⟩), .int .i64 (l : Int)] w (EmC own w bc c (c.jump l) (k + 1) (.tuple #[])) := by
  obtain ⟨oo, oc, lo, lc, mb, h⟩ := h
  have c0 : w.cell? ⟨bc, 0, none⟩ = some (.slice oo c.ops.length oc) := cell_of_block h.blk rfl
  have c2 : w.cell? ⟨bc, 2, none⟩ = some (.map (some mb)) := cell_of_block h.blk rfl
  have hlk := h.lk
  have hfew := h.few
  have HKEY : Hid (keyOf Tryz.prog 3 (.int .i64 (c.ops.length : Int)) = some (.int .i64 (c.ops.length : Int))) := hidI (keyOf_int_mk Tryz.underlying3 (wf_small (by omega)))
  have HWL := hidI (wf_small (x := l) (by omega))
  have HK := hidI hk
  have HL := hidI hl
  have H := hidI h
  clear h hlk hfew hk hl
  go_enter Tryz.func188, Tryz.ntmps188
  go_wp2_with fail
  go_still_tail 10, (by kernel_rfl)
  go_wp2_with (at_mapUpdate; refine wpList_mapUpdate_own _ rfl _ _ _ 125 rfl 3 326 emLaw Tryz.underlying125 _ mb k _ rfl H.out.mp.drew (by have := HK.out; unfold maxLen; omega) _ _ _ rfl rfl HKEY.out _ [] (plainElem_int Tryz.underlying326 HWL.out) ?_)
  intro w5 hown hgrow
  obtain ⟨r1, r2⟩ := H.out.marked HL.out hown (show w.grownBy w5 (some mb) from ⟨hgrow.os, hgrow.tape, hgrow.output, hgrow.size, hgrow.block⟩)
  have HR1 := hidI r1
  have HR2 := hidI r2
  clear hown hgrow r1 r2 c0 c2
  go_wp2_with fail
  refine (put_any HR1.out ⟨6, 0, 0, 0, 0, 0⟩).mono ?_
  rintro e w6 ⟨rfl, own', r3, r4, r5⟩
  go_wp2_with fail
  go_end0
  exact ⟨rfl, own', r3, HR2.out.trans r4, r5⟩
theorem zero_any (h : CdAt w own bc c k) (r : Int) {l : Nat} (hl : l < c.labs.length) (hk : k ≤ 1099511627776) :
    Calls Tryz.prog 208 #[.pointer (some ⟨bc, 0, none⟩), .int .u8 r, .int .i64 (l : Int)] w (EmC own w bc c (c.zero r l) (k + 1) (.tuple #[])) := by
  obtain ⟨oo, oc, lo, lc, mb, h⟩ := h
  have c0 : w.cell? ⟨bc, 0, none⟩ = some (.slice oo c.ops.length oc) := cell_of_block h.blk rfl
  have c2 : w.cell? ⟨bc, 2, none⟩ = some (.map (some mb)) := cell_of_block h.blk rfl
  have hlk := h.lk
  have hfew := h.few
  have HKEY : Hid (keyOf Tryz.prog 3 (.int .i64 (c.ops.length : Int)) = some (.int .i64 (c.ops.length : Int))) := hidI (keyOf_int_mk Tryz.underlying3 (wf_small (by omega)))
  have HWL := hidI (wf_small (x := l) (by omega))
  have HK := hidI hk
  have HL := hidI hl
  have H := hidI h
  clear h hlk hfew hk hl
  go_enter Tryz.func208, Tryz.ntmps208
  go_wp2_with fail
  go_still_tail 10, (by kernel_rfl)
  go_wp2_with (at_mapUpdate; refine wpList_mapUpdate_own _ rfl _ _ _ 125 rfl 3 326 emLaw Tryz.underlying125 _ mb k _ rfl H.out.mp.drew (by have := HK.out; unfold maxLen; omega) _ _ _ rfl rfl HKEY.out _ [] (plainElem_int Tryz.underlying326 HWL.out) ?_)
  intro w5 hown hgrow
  obtain ⟨r1, r2⟩ := H.out.marked HL.out hown (show w.grownBy w5 (some mb) from ⟨hgrow.os, hgrow.tape, hgrow.output, hgrow.size, hgrow.block⟩)
  have HR1 := hidI r1
  have HR2 := hidI r2
  clear hown hgrow r1 r2 c0 c2
  go_wp2_with fail
  refine (put_any HR1.out ⟨7, 0, r, 0, 0, 0⟩).mono ?_
  rintro e w6 ⟨rfl, own', r3, r4, r5⟩
  go_wp2_with fail
  go_end0
  exact ⟨rfl, own', r3, HR2.out.trans r4, r5⟩
theorem emnew_any (w : World) : Calls Tryz.prog 117 #[] w fun e w' => ∃ bc own, e = .returned (.pointer (some ⟨bc, 0, none⟩)) ∧ CdAt w' own bc Cd.new 0 ∧ (∀ g, own g → w.heap.size ≤ g) ∧ Below w.heap.size w w' := by
  have hmm := @run_makeMap Tryz.prog
  go_enter Tryz.func117, Tryz.ntmps117
  go_wp2_with fail
  go_ret
  refine ⟨w.heap.size + 1, fun g => g = w.heap.size ∨ g = w.heap.size + 1, rfl, ⟨none, 0, none, 0, w.heap.size, ?_⟩, fun g hg => by omega, ((Below.refl _ _).alloc (Nat.le_refl _) _).alloc (by simp) _⟩
  refine ⟨block_new2 _ _ _, World.ownsRow_nil _ _ _ _, World.ownsRow_nil _ _ _ _, (World.ownsMap_made _ _ _ _).alloc _, .inr rfl, fun g hg => by simp [Value.ownBlock] at hg, fun g hg => by simp [Value.ownBlock] at hg, .inl rfl, fun g hg => by simp; omega, by simp [Cd.new], by simp [Cd.new], fun p hp => by simp [Cd.new] at hp⟩
end Go.Proofs.YtgodmogkhgilmaaGreatDoor

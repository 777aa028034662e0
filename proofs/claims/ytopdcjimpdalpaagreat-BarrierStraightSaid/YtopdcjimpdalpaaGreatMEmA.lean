/- Put together by merge.py out of XTlSpec.lean.tpl, XEmA.lean.tpl, XEmB.lean.tpl, XEmC.lean.tpl, XEmD.lean.tpl, XEmE.lean.tpl. -/
import Derived.Test.YtopdcjimpdalpaaGreatHistSpec
import Derived.Test.YtopdcjimpdalpaaGreatTsoSpec
import Derived.Test.YtopdcjimpdalpaaGreatStep
import Derived.StillTailTactics
import Derived.Deep.RegionHeld3
import Derived.Maps.RangeWalk
namespace Go.Proofs.YtopdcjimpdalpaaGreat
open Go.RowKit
set_option linter.unusedVariables false
set_option linter.unusedSimpArgs false

section
/-- a thread: phase, what the clock said, stripes read, what it will write, locks it has, what they said, the clock's new number -/
structure Th where
  phase : Int
  clock : Int
  reads : Nat
  log : List (Int × Int)
  held : Nat
  old : Nat → Int
  now : Int

def Th.none : Th := ⟨0, 0, 0, [], 0, fun _ => 0, 0⟩

structure TW where
  mem : List Int
  clock : Int
  locks : Nat → Int
  ths : List Th
  evs : List Ev

structure Tx where
  th : Int
  kind : Int
  at_ : Int
  v : Int

def isLocked (v : Int) : Bool := v % 2 == 1
def since (v : Int) : Int := if isLocked v then 0 else v / 2
def stripeN (a : Int) : Nat := (a % 16).toNat

/-- the locks that a thread has say something else -/
def freed (held : Nat) (say locks : Nat → Int) : Nat → Int := fun s => if s < 16 ∧ held.testBit s = true then say s else locks s

def TW.abort (w : TW) (n : Nat) (t : Th) : TW :=
  { w with locks := freed t.held t.old w.locks, evs := w.evs ++ [⟨n, 8, 0, 0⟩], ths := w.ths.set n Th.none }

def stale (locks : Nat → Int) (t : Th) (s : Nat) : Bool :=
  let v := if t.held.testBit s then t.old s else locks s
  isLocked v || decide (t.clock < since v)

/-- the place of a word in the log; its length: it is not there -/
def place (l : List (Int × Int)) (a : Int) : Nat := l.findIdx (fun c => c.1 == a)

def TW.begin (w : TW) (n : Nat) : TW :=
  { w with ths := w.ths.set n { Th.none with phase := 1, clock := w.clock }, evs := w.evs ++ [⟨n, 1, w.clock, 0⟩] }

def TW.read (w : TW) (n : Nat) (t : Th) (a : Int) : TW :=
  match t.log[place t.log a]? with
  | some c => { w with evs := w.evs ++ [⟨n, 2, a, c.2⟩] }
  | none => if stale w.locks t (stripeN a) then w.abort n t
    else { w with ths := w.ths.set n { t with reads := t.reads ||| 1 <<< stripeN a }, evs := w.evs ++ [⟨n, 2, a, w.mem.getD a.toNat 0⟩] }

def TW.write (w : TW) (n : Nat) (t : Th) (a v : Int) : TW :=
  if place t.log a < t.log.length then { w with ths := w.ths.set n { t with log := t.log.set (place t.log a) (a, v) }, evs := w.evs ++ [⟨n, 3, a, v⟩] }
  else if t.log.length < 64 then { w with ths := w.ths.set n { t with log := t.log ++ [(a, v)] }, evs := w.evs ++ [⟨n, 3, a, v⟩] }
  else w

def needs (l : List (Int × Int)) : Nat := l.foldl (fun m c => m ||| 1 <<< stripeN c.1) 0

/-- the next stripe whose lock is wanted -/
def wanted (t : Th) : Option Nat := (List.range 16).find? (fun s => (needs t.log).testBit s && !t.held.testBit s)

def TW.lock (w : TW) (n : Nat) (t : Th) : TW :=
  match wanted t with
  | some s => if isLocked (w.locks s) then w.abort n t
    else { w with locks := upd w.locks s (2 * n + 1), ths := w.ths.set n { t with held := t.held ||| 1 <<< s, old := upd t.old s (w.locks s) } }
  | none =>
    if (List.range 16).any (fun s => t.reads.testBit s && stale w.locks t s) then { w with clock := w.clock + 1 }.abort n t
    else { w with clock := w.clock + 1, ths := w.ths.set n { t with now := w.clock + 1, phase := 3 }, evs := w.evs ++ [⟨n, 7, w.clock + 1, 1⟩] }

def TW.back (w : TW) (n : Nat) (t : Th) : TW :=
  match t.log with
  | c :: l => { w with mem := w.mem.set c.1.toNat c.2, ths := w.ths.set n { t with log := l } }
  | [] => { w with locks := freed t.held (fun _ => 2 * t.now) w.locks, ths := w.ths.set n Th.none }

def TW.step (w : TW) (n : Nat) (t : Th) : TW :=
  if t.phase = 1 then
    if t.log = [] then { w with ths := w.ths.set n Th.none, evs := w.evs ++ [⟨n, 7, t.clock, 0⟩] }
    else w.lock n { t with phase := 2 }
  else if t.phase = 2 then w.lock n t
  else if t.phase = 3 then w.back n t
  else w

def TW.there (w : TW) (a : Int) : Bool := decide (1 ≤ a ∧ a < w.mem.length)

def TW.doT (w : TW) (n : Nat) (t : Th) (o : Tx) : TW :=
  if o.kind = 1 ∧ t.phase = 0 then w.begin n
  else if o.kind = 2 ∧ t.phase = 1 ∧ w.there o.at_ = true then w.read n t o.at_
  else if o.kind = 3 ∧ t.phase = 1 ∧ w.there o.at_ = true then w.write n t o.at_ o.v
  else if o.kind = 4 then w.step n t
  else if o.kind = 5 ∧ (t.phase = 1 ∨ t.phase = 2) then w.abort n t
  else w

def TW.do_ (w : TW) (o : Tx) : TW :=
  if o.th < 0 then w else
  match w.ths[o.th.toNat]? with
  | none => w
  | some t => w.doT o.th.toNat t o

def TW.init (words threads : Nat) : TW := ⟨List.replicate (words + 1) 0, 0, fun _ => 0, List.replicate threads Th.none, []⟩
def runT (words threads : Nat) (l : List Tx) : TW := l.foldl TW.do_ (TW.init words threads)
end

section
open Go.RowKit Go.Maps

/-! ### plain -/
/-- code: instructions, places of labels, jumps to labels, whether there are too many -/
structure Cd where
  ops : List OpD
  labs : List Int
  jmp : List (Nat × Nat)
  over : Bool
def Cd.new : Cd := ⟨[], [], [], false⟩
def Cd.put (c : Cd) (o : OpD) : Cd := if 262144 ≤ c.ops.length then { c with over := true } else { c with ops := c.ops ++ [o] }
def Cd.label (c : Cd) : Cd := { c with labs := c.labs ++ [-1] }
def Cd.here (c : Cd) (l : Nat) : Cd := { c with labs := c.labs.set l c.ops.length }
def Cd.mark (c : Cd) (l : Nat) : Cd := { c with jmp := c.jmp ++ [(c.ops.length, l)] }
def Cd.jump (c : Cd) (l : Nat) : Cd := (c.mark l).put ⟨6, 0, 0, 0, 0, 0⟩
def Cd.zero (c : Cd) (r : Int) (l : Nat) : Cd := (c.mark l).put ⟨7, 0, r, 0, 0, 0⟩
theorem put_labs (c : Cd) (o : OpD) : (c.put o).labs = c.labs := by unfold Cd.put; split <;> rfl
theorem put_jmp (c : Cd) (o : OpD) : (c.put o).jmp = c.jmp := by unfold Cd.put; split <;> rfl

/-- jumps as the map holds them -/
def JD (l : List (Nat × Nat)) : DataW Unit := l.foldl (fun D p => D.put (.int .i64 (p.1 : Int)) (.lit (.int .i64 (p.2 : Int)))) (.map [])
theorem JD_snoc (l : List (Nat × Nat)) (p : Nat × Nat) : JD (l ++ [p]) = (JD l).put (.int .i64 (p.1 : Int)) (.lit (.int .i64 (p.2 : Int))) := by unfold JD; rw [List.foldl_append]; rfl

/-! ### how it lies -/
structure CdIn (w : World) (own : Nat → Prop) (bc : Nat) (c : Cd) (k : Nat) (oo : Option Addr) (oc : Nat) (lo : Option Addr) (lc : Nat) (mb : Nat) : Prop where
  blk : w.heap[bc]? = some (.cells #[.slice oo c.ops.length oc, .slice lo c.labs.length lc, .map (some mb), .bool c.over] 141 (0, 0))
  ops : w.ownsRow 0 107 6 (.slice oo c.ops.length oc) c.ops.length (c.ops.flatMap encOp)
  labs : w.ownsRow 0 3 1 (.slice lo c.labs.length lc) c.labs.length (c.labs.map (Value.int .i64))
  mp : w.ownsMap Tryz.prog 3 (plainElem Tryz.prog 169) mb k (JD c.jmp)
  ob : own bc
  oo_ : ∀ g, (Value.slice oo c.ops.length oc).ownBlock = some g → own g
  ol : ∀ g, (Value.slice lo c.labs.length lc).ownBlock = some g → own g
  om : own mb
  lt : ∀ g, own g → g < w.heap.size
  few : c.ops.length ≤ 262144
  lk : c.labs.length ≤ k
  jl : ∀ p ∈ c.jmp, p.2 < c.labs.length
/-- code at a block; own: the blocks that are its own; k: no more labels, no more jumps -/
def CdAt (w : World) (own : Nat → Prop) (bc : Nat) (c : Cd) (k : Nat) : Prop := ∃ oo oc lo lc mb, CdIn w own bc c k oo oc lo lc mb

/-- what has turned: its own blocks alone; what is its own now was so, or is new -/
structure Turn (own : Nat → Prop) (w : World) (own' : Nat → Prop) (w' : World) : Prop where
  chg : Chg own w w'
  less : ∀ g, g < w.heap.size → own' g → own g

variable {w w' w1 w2 : World} {own own1 own2 : Nat → Prop} {bc k : Nat} {c : Cd}

theorem Turn.refl (own : Nat → Prop) (w : World) : Turn own w own w := ⟨Chg.refl _ _, fun _ _ h => h⟩
theorem Turn.trans (h : Turn own w own1 w1) (g : Turn own1 w1 own2 w2) : Turn own w own2 w2 :=
  ⟨Chg.then_ h.chg g.chg (fun k hk e => h.less k hk e), fun k hk e => h.less k hk (g.less k (by have := h.chg.size; omega) e)⟩
theorem Turn.alloc (h : Turn own w own1 w1) (o : Obj) : Turn own w own1 (w1.alloc o) := ⟨h.chg.alloc o, h.less⟩
theorem Turn.drewN (h : Turn own w own1 w1) (n : Nat) : Turn own w own1 (w1.drewN n) := ⟨h.chg.drewN n, h.less⟩
theorem Turn.drew (h : Turn own w own1 w1) : Turn own w own1 w1.drew := ⟨h.chg.drew, h.less⟩
theorem Turn.below (h : Turn own w own1 w1) (hb : Below w1.heap.size w1 w2) : Turn own w own1 w2 := ⟨h.chg.trans (Chg.of_below hb), h.less⟩

theorem block_ne {a b : Nat} {ca cb : Array Value} {ta tb : TypeId} {fa fb : Nat × Nat} (ha : w.heap[a]? = some (.cells ca ta fa)) (hb : w.heap[b]? = some (.cells cb tb fb)) (h : ta ≠ tb) : a ≠ b := fun e => by
  subst e
  rw [ha] at hb
  simp only [Option.some.injEq, Obj.cells.injEq] at hb
  exact h hb.2.1
theorem map_ne {a b n : Nat} {ca : Array Value} {ta : TypeId} {fa : Nat × Nat} {K : TypeId} {R : Value → Option (DataW Unit × List MemPlace)} {D : DataW Unit} (ha : w.heap[a]? = some (.cells ca ta fa)) (hb : w.ownsMap Tryz.prog K R b n D) : a ≠ b := fun e => by
  subst e
  obtain ⟨es, clock, hm, _⟩ := hb
  rw [ha] at hm
  cases hm
theorem ownsMap_chg {S : Nat → Prop} {b n : Nat} {K : TypeId} {R : Value → Option (DataW Unit × List MemPlace)} {D : DataW Unit} (h : w.ownsMap Tryz.prog K R b n D) (hc : Chg S w w') (hn : ¬ S b) : w'.ownsMap Tryz.prog K R b n D := by
  have hl := h.lt
  obtain ⟨es, clock, hm, r⟩ := h
  exact ⟨es, clock, (hc.block b hl hn).trans hm, r⟩

section
variable {oo lo : Option Addr} {oc lc mb : Nat}
theorem CdIn.keep {S : Nat → Prop} (h : CdIn w own bc c k oo oc lo lc mb) (hc : Chg S w w') (hS : ∀ g, own g → ¬ S g) : CdIn w' own bc c k oo oc lo lc mb :=
  ⟨chgblk hc h.blk (hS _ h.ob), ownsRow_chg h.ops hc (fun g hg => hS g (h.oo_ g hg)), ownsRow_chg h.labs hc (fun g hg => hS g (h.ol g hg)), ownsMap_chg h.mp hc (hS _ h.om), h.ob, h.oo_, h.ol, h.om, fun g hg => Nat.lt_of_lt_of_le (h.lt g hg) hc.size, h.few, h.lk, h.jl⟩
end
theorem CdAt.keep {S : Nat → Prop} (h : CdAt w own bc c k) (hc : Chg S w w') (hS : ∀ g, own g → ¬ S g) : CdAt w' own bc c k := by
  obtain ⟨oo, oc, lo, lc, mb, h⟩ := h
  exact ⟨oo, oc, lo, lc, mb, h.keep hc hS⟩
theorem CdAt.alloc (h : CdAt w own bc c k) (o : Obj) : CdAt (w.alloc o) own bc c k := h.keep ((Chg.refl (fun _ => False) w).alloc o) (fun _ _ e => e)
theorem CdAt.drew (h : CdAt w own bc c k) : CdAt w.drew own bc c k := h.keep ((Chg.refl (fun _ => False) w).drew) (fun _ _ e => e)
theorem CdAt.below (h : CdAt w own bc c k) (hb : Below w.heap.size w w') : CdAt w' own bc c k := h.keep (Chg.of_below (S := fun _ => False) hb) (fun _ _ e => e)
theorem CdAt.lt (h : CdAt w own bc c k) : ∀ g, own g → g < w.heap.size := by
  obtain ⟨oo, oc, lo, lc, mb, h⟩ := h
  exact h.lt
theorem CdAt.more (h : CdAt w own bc c k) {k' : Nat} (hk : k ≤ k') : CdAt w own bc c k' := by
  obtain ⟨oo, oc, lo, lc, mb, h⟩ := h
  exact ⟨oo, oc, lo, lc, mb, h.blk, h.ops, h.labs, h.mp.mono hk, h.ob, h.oo_, h.ol, h.om, h.lt, h.few, Nat.le_trans h.lk hk, h.jl⟩

/-- a block that is none of its own -/
structure Keep (w : World) (own : Nat → Prop) (b : Nat) (x : Obj) : Prop where
  blk : w.heap[b]? = some x
  not_ : ¬ own b
theorem Keep.turn {b : Nat} {x : Obj} (h : Keep w own b x) (ht : Turn own w own1 w1) : Keep w1 own1 b x :=
  ⟨chgblk ht.chg h.blk h.not_, fun e => h.not_ (ht.less b (lt_of_block h.blk) e)⟩
theorem Keep.alloc {b : Nat} {x : Obj} (h : Keep w own b x) (o : Obj) : Keep (w.alloc o) own b x := ⟨block_alloc h.blk, h.not_⟩
theorem Keep.drew {b : Nat} {x : Obj} (h : Keep w own b x) : Keep w.drew own b x := ⟨h.blk, h.not_⟩
theorem Keep.below {b : Nat} {x : Obj} (h : Keep w own b x) (hb : Below w.heap.size w w') : Keep w' own b x := ⟨Go.Proofs.YtopdcjimpdalpaaGreat.blk hb h.blk, h.not_⟩
theorem Keep.new (h : CdAt w own bc c k) (o : Obj) : Keep (w.alloc o) own w.heap.size o := ⟨block_new w o, fun e => by have := h.lt _ e; omega⟩

/-- what a call on code answers -/
def EmC (own : Nat → Prop) (w : World) (bc : Nat) (c c' : Cd) (k' : Nat) (v : Value) (e : Ending) (w' : World) : Prop :=
  e = .returned v ∧ ∃ own', CdAt w' own' bc c' k' ∧ Turn own w own' w' ∧ c.labs.length ≤ c'.labs.length

theorem emOpInfo : (Tryz.prog.info? 107).map (fun i => (i.zero, i.size, i.bytes)) = some (some (.agg #[.int .u8 0, .int .u8 0, .int .u8 0, .int .u8 0, .int .u8 0, .int .i64 0]), 6, 16) := by kernel_rfl
theorem emIntInfo : (Tryz.prog.info? 3).map (fun i => (i.zero, i.size, i.bytes)) = some (some (.int .i64 0), 1, 8) := by kernel_rfl
theorem one_emop (o : OpD) : ∀ u ∈ encOp o, u.oneCell' = true := by
  intro u hu
  simp [encOp] at hu
  rcases hu with rfl | rfl | rfl | rfl | rfl | rfl <;> rfl

theorem row_ne {base size n b g : Nat} {e tb : TypeId} {v : Value} {xs : List Value} {cb : Array Value} {fb : Nat × Nat} (h : w.ownsRow base e size v n xs) (hg : v.ownBlock = some g) (hb : w.heap[b]? = some (.cells cb tb fb)) (ht : e ≠ tb) : g ≠ b := by
  rcases h.2 with ⟨hv, _⟩ | ⟨g', cap', cur, hv, hb', hgg, _⟩
  · rw [hv] at hg; simp [Value.ownBlock] at hg
  · rw [hv] at hg
    simp only [Value.ownBlock, Option.some.injEq] at hg
    subst hg
    exact block_ne hgg hb ht
theorem row_nemap {base size n b g m : Nat} {e K : TypeId} {v : Value} {xs : List Value} {R : Value → Option (DataW Unit × List MemPlace)} {D : DataW Unit} (h : w.ownsRow base e size v n xs) (hg : v.ownBlock = some g) (hb : w.ownsMap Tryz.prog K R b m D) : g ≠ b := by
  rcases h.2 with ⟨hv, _⟩ | ⟨g', cap', cur, hv, hb', hgg, _⟩
  · rw [hv] at hg; simp [Value.ownBlock] at hg
  · rw [hv] at hg
    simp only [Value.ownBlock, Option.some.injEq] at hg
    subst hg
    exact map_ne hgg hb
theorem rows_ne {base size n m sz g : Nat} {e e' : TypeId} {v u : Value} {xs ys : List Value} (h : w.ownsRow base e size v n xs) (hg : v.ownBlock = some g) (h' : w.ownsRow base e' sz u m ys) (ht : e ≠ e') : u.ownBlock ≠ some g := fun hu => by
  rcases h'.2 with ⟨hv, _⟩ | ⟨g', cap', cur, hv, hb', hgg, _⟩
  · rw [hv] at hu; simp [Value.ownBlock] at hu
  · rw [hv] at hu
    simp only [Value.ownBlock, Option.some.injEq] at hu
    subst hu
    exact row_ne h hg hgg ht rfl

section
variable {oo lo ao : Option Addr} {oc lc mb cp : Nat}
theorem CdIn.ne (h : CdIn w own bc c k oo oc lo lc mb) : (∀ g, (Value.slice oo c.ops.length oc).ownBlock = some g → g ≠ bc ∧ g ≠ mb ∧ (Value.slice lo c.labs.length lc).ownBlock ≠ some g) ∧ (∀ g, (Value.slice lo c.labs.length lc).ownBlock = some g → g ≠ bc ∧ g ≠ mb ∧ (Value.slice oo c.ops.length oc).ownBlock ≠ some g) ∧ mb ≠ bc :=
  ⟨fun g hg => ⟨row_ne h.ops hg h.blk (by decide), row_nemap h.ops hg h.mp, rows_ne h.ops hg h.labs (by decide)⟩, fun g hg => ⟨row_ne h.labs hg h.blk (by decide), row_nemap h.labs hg h.mp, rows_ne h.labs hg h.ops (by decide)⟩, fun e => map_ne h.blk h.mp e.symm⟩

/-- one more instruction has been written -/
theorem CdIn.more_ops (h : CdIn w own bc c k oo oc lo lc mb) (o : OpD) (hf : c.ops.length < 262144) (hc : Chg (fun g => (Value.slice oo c.ops.length oc).ownBlock = some g) w w1)
    (hown : w1.ownsRow 0 107 6 (.slice ao (c.ops.length + 1) cp) (c.ops.length + 1) (c.ops.flatMap encOp ++ encOp o)) (hfrom : ∀ g, (Value.slice ao (c.ops.length + 1) cp).ownBlock = some g → (Value.slice oo c.ops.length oc).ownBlock = some g ∨ w.heap.size ≤ g) :
    ∃ own', CdAt (w1.setCell ⟨bc, 0, none⟩ (.slice ao (c.ops.length + 1) cp)) own' bc (c.put o) k ∧ Turn own w own' (w1.setCell ⟨bc, 0, none⟩ (.slice ao (c.ops.length + 1) cp)) := by
  obtain ⟨n1, n2, n3⟩ := h.ne
  have hput : c.put o = { c with ops := c.ops ++ [o] } := by unfold Cd.put; rw [if_neg (by omega)]
  have hb1 := chgblk hc h.blk (fun e => (n1 _ e).1 rfl)
  have hset := block_setCell (o := 0) (.slice ao (c.ops.length + 1) cp) hb1
  have hc2 : Chg (fun g => g = bc) w1 (w1.setCell ⟨bc, 0, none⟩ (.slice ao (c.ops.length + 1) cp)) := (Chg.refl (fun g => g = bc) w1).setCell (p := ⟨bc, 0, none⟩) (.inl rfl) _
  have hl1 := ownsRow_chg h.labs hc (fun g hg => (n2 g hg).2.2)
  have hm1 := ownsMap_chg h.mp hc (fun e => (n1 _ e).2.1 rfl)
  have hro : ∀ g, (Value.slice ao (c.ops.length + 1) cp).ownBlock = some g → g ≠ bc := fun g hg => row_ne hown hg hb1 (by decide)
  refine ⟨fun g => own g ∨ (Value.slice ao (c.ops.length + 1) cp).ownBlock = some g, ⟨ao, cp, lo, lc, mb, ?_⟩, ?_, ?_⟩
  · rw [hput]
    refine ⟨?_, ?_, ownsRow_chg hl1 hc2 (fun g hg => (n2 g hg).1), ownsMap_chg hm1 hc2 n3, .inl h.ob, fun g hg => .inr (by simpa using hg), fun g hg => .inl (h.ol g hg), .inl h.om, ?_, ?_, h.lk, h.jl⟩
    · simpa using hset
    · have h9 := ownsRow_chg hown hc2 hro
      rw [← flat_snoc] at h9
      simpa using h9
    · rintro g (hg | hg)
      · exact Nat.lt_of_lt_of_le (h.lt g hg) (Nat.le_trans hc.size hc2.size)
      · exact Nat.lt_of_lt_of_le (hown.lt g hg).2 hc2.size
    · simp; omega
  · exact Chg.then_ (Chg.then_ (Chg.refl own w) hc (fun g _ e => h.oo_ g e)) hc2 (fun g _ e => by rw [e]; exact h.ob)
  · rintro g hl (hg | hg)
    · exact hg
    · rcases hfrom g hg with e | e
      · exact h.oo_ g e
      · omega
/-- one more label -/
theorem CdIn.more_labs (h : CdIn w own bc c k oo oc lo lc mb) (hc : Chg (fun g => (Value.slice lo c.labs.length lc).ownBlock = some g) w w1)
    (hown : w1.ownsRow 0 3 1 (.slice ao (c.labs.length + 1) cp) (c.labs.length + 1) (c.labs.map (Value.int .i64) ++ [.int .i64 (-1)])) (hfrom : ∀ g, (Value.slice ao (c.labs.length + 1) cp).ownBlock = some g → (Value.slice lo c.labs.length lc).ownBlock = some g ∨ w.heap.size ≤ g) :
    ∃ own', CdAt (w1.setCell ⟨bc, 1, none⟩ (.slice ao (c.labs.length + 1) cp)) own' bc c.label (k + 1) ∧ Turn own w own' (w1.setCell ⟨bc, 1, none⟩ (.slice ao (c.labs.length + 1) cp)) := by
  obtain ⟨n1, n2, n3⟩ := h.ne
  have hb1 := chgblk hc h.blk (fun e => (n2 _ e).1 rfl)
  have hset := block_setCell (o := 1) (.slice ao (c.labs.length + 1) cp) hb1
  have hc2 : Chg (fun g => g = bc) w1 (w1.setCell ⟨bc, 1, none⟩ (.slice ao (c.labs.length + 1) cp)) := (Chg.refl (fun g => g = bc) w1).setCell (p := ⟨bc, 1, none⟩) (.inl rfl) _
  have hl1 := ownsRow_chg h.ops hc (fun g hg => (n1 g hg).2.2)
  have hm1 := ownsMap_chg h.mp hc (fun e => (n2 _ e).2.1 rfl)
  have hro : ∀ g, (Value.slice ao (c.labs.length + 1) cp).ownBlock = some g → g ≠ bc := fun g hg => row_ne hown hg hb1 (by decide)
  refine ⟨fun g => own g ∨ (Value.slice ao (c.labs.length + 1) cp).ownBlock = some g, ⟨oo, oc, ao, cp, mb, ?_⟩, ?_, ?_⟩
  · refine ⟨?_, ownsRow_chg hl1 hc2 (fun g hg => (n1 g hg).1), ?_, (ownsMap_chg hm1 hc2 n3).mono (Nat.le_succ _), .inl h.ob, fun g hg => .inl (h.oo_ g hg), fun g hg => .inr (by simpa [Cd.label] using hg), .inl h.om, ?_, h.few, ?_, ?_⟩
    · simpa [Cd.label] using hset
    · have h9 := ownsRow_chg hown hc2 hro
      simpa [Cd.label] using h9
    · rintro g (hg | hg)
      · exact Nat.lt_of_lt_of_le (h.lt g hg) (Nat.le_trans hc.size hc2.size)
      · exact Nat.lt_of_lt_of_le (hown.lt g hg).2 hc2.size
    · have := h.lk; simp [Cd.label]; omega
    · intro p hp
      have := h.jl p hp
      simp [Cd.label]; omega
  · exact Chg.then_ (Chg.then_ (Chg.refl own w) hc (fun g _ e => h.ol g e)) hc2 (fun g _ e => by rw [e]; exact h.ob)
  · rintro g hl (hg | hg)
    · exact hg
    · rcases hfrom g hg with e | e
      · exact h.ol g e
      · omega
end

set_option maxRecDepth 100000 in
set_option maxHeartbeats 2000000 in
theorem put_over (h : CdAt w own bc c k) (o : OpD) (hf : 262144 ≤ c.ops.length) :
    Calls Tryz.prog 95 #[.pointer (some ⟨bc, 0, none⟩), .agg #[.int .u8 o.kind, .int .u8 o.cal, .int .u8 o.a, .int .u8 o.b, .int .u8 o.c, .int .i64 o.n]] w (EmC own w bc c (c.put o) k (.tuple #[])) := by
  obtain ⟨oo, oc, lo, lc, mb, h⟩ := h
  have c0 : w.cell? ⟨bc, 0, none⟩ = some (.slice oo c.ops.length oc) := cell_of_block h.blk rfl
  have c3 : w.cell? ⟨bc, 3, none⟩ = some (.bool c.over) := cell_of_block h.blk rfl
  have f3 : w.frozen? ⟨bc, 3, none⟩ = false := free_of_block h.blk
  have hfew := h.few
  have hg : (c.ops.length : Int) ≥ 262144 := by omega
  have hbl := lt_of_block h.blk
  have H := hidI h
  have HF := hidI hf
  clear h hf hfew
  go_enter Tryz.func95, Tryz.ntmps95
  go_wp2_with fail
  go_end0
  have hput : c.put o = { c with over := true } := by unfold Cd.put; rw [if_pos HF.out]
  have hc1 : Chg (fun g => g = bc) w ((w.setCell ⟨bc, 3, none⟩ (.bool true)).alloc (.cells #[.int .u8 o.kind, .int .u8 o.cal, .int .u8 o.a, .int .u8 o.b, .int .u8 o.c, .int .i64 o.n] 107)) := ((Chg.refl (fun g => g = bc) w).setCell (p := ⟨bc, 3, none⟩) (.inl rfl) _).alloc _
  obtain ⟨n1, n2, n3⟩ := H.out.ne
  have hset := block_alloc (o := .cells #[.int .u8 o.kind, .int .u8 o.cal, .int .u8 o.a, .int .u8 o.b, .int .u8 o.c, .int .i64 o.n] 107) (block_setCell (o := 3) (.bool true) H.out.blk)
  refine ⟨rfl, own, ⟨oo, oc, lo, lc, mb, ?_⟩, ⟨Chg.then_ (Chg.refl own w) hc1 (fun g _ (e : g = bc) => by rw [e]; exact H.out.ob), fun _ _ e => e⟩, by rw [put_labs]; exact Nat.le_refl _⟩
  rw [hput]
  exact ⟨by simpa using hset, ownsRow_chg H.out.ops hc1 (fun g hg => (n1 g hg).1), ownsRow_chg H.out.labs hc1 (fun g hg => (n2 g hg).1), ownsMap_chg H.out.mp hc1 n3, H.out.ob, H.out.oo_, H.out.ol, H.out.om, fun g hg => Nat.lt_of_lt_of_le (H.out.lt g hg) hc1.size, H.out.few, H.out.lk, H.out.jl⟩

set_option maxRecDepth 100000 in
set_option maxHeartbeats 2000000 in
theorem put_more (h : CdAt w own bc c k) (o : OpD) (hf : c.ops.length < 262144) :
    Calls Tryz.prog 95 #[.pointer (some ⟨bc, 0, none⟩), .agg #[.int .u8 o.kind, .int .u8 o.cal, .int .u8 o.a, .int .u8 o.b, .int .u8 o.c, .int .i64 o.n]] w (EmC own w bc c (c.put o) k (.tuple #[])) := by
  obtain ⟨oo, oc, lo, lc, mb, h⟩ := h
  have c0 : w.cell? ⟨bc, 0, none⟩ = some (.slice oo c.ops.length oc) := cell_of_block h.blk rfl
  have hg : ¬ ((c.ops.length : Int) ≥ 262144) := by omega
  have hbl := lt_of_block h.blk
  have H := hidI h
  have HF := hidI hf
  obtain ⟨i0, hi, hz0, hz1, hz2⟩ := info_parts emOpInfo
  have HI := hidI hi
  have HZ0 := hidI hz0
  have HZ1 := hidI hz1
  have HZ2 := hidI hz2
  clear h hi hz0 hz1 hz2
  go_enter Tryz.func95, Tryz.ntmps95
  go_wp2_with fail
  obtain ⟨wa, hwa⟩ : ∃ x, x = w.alloc (.cells #[.int .u8 o.kind, .int .u8 o.cal, .int .u8 o.a, .int .u8 o.b, .int .u8 o.c, .int .i64 o.n] 107) := ⟨_, rfl⟩
  have hba : Below w.heap.size w wa := by rw [hwa]; exact (Below.refl _ _).alloc (Nat.le_refl _) _
  have HBA := hidI hba
  have a0 : wa.cell? ⟨bc, 0, none⟩ = some (.slice oo c.ops.length oc) := (hba.cell hbl).trans c0
  have a1 : ∀ o : Obj, (wa.alloc o).cell? ⟨bc, 0, none⟩ = some (.slice oo c.ops.length oc) := fun o => by rw [World.cell?_alloc_lt _ _ _ (by have := hba.size; show bc < _; omega)]; exact a0
  have hnew : wa.heap[w.heap.size]? = some (.cells #[.int .u8 o.kind, .int .u8 o.cal, .int .u8 o.a, .int .u8 o.b, .int .u8 o.c, .int .i64 o.n] 107 (0, 0)) := by rw [hwa]; exact block_new _ _
  have d0 : wa.cell? ⟨w.heap.size, 0, none⟩ = some (.int .u8 o.kind) := cell_of_block hnew rfl
  have d1 : wa.cell? ⟨w.heap.size, 1, none⟩ = some (.int .u8 o.cal) := cell_of_block hnew rfl
  have d2 : wa.cell? ⟨w.heap.size, 2, none⟩ = some (.int .u8 o.a) := cell_of_block hnew rfl
  have d3 : wa.cell? ⟨w.heap.size, 3, none⟩ = some (.int .u8 o.b) := cell_of_block hnew rfl
  have d4 : wa.cell? ⟨w.heap.size, 4, none⟩ = some (.int .u8 o.c) := cell_of_block hnew rfl
  have d5 : wa.cell? ⟨w.heap.size, 5, none⟩ = some (.int .i64 o.n) := cell_of_block hnew rfl
  have HA := hidI (H.out.keep (Chg.of_below (S := fun _ => False) hba) (fun _ _ e => e))
  rw [← hwa]
  obtain ⟨bx, hbx⟩ : ∃ x, x = w.heap.size := ⟨_, rfl⟩
  rw [← hbx] at d0 d1 d2 d3 d4 d5 ⊢
  clear hwa hba c0 hnew hbx hbl
  go_region_law (first
    | (refine step_append_d (by rfl) (.tmp 17) (.tmp 19) 57 (by rfl) 0 107 i0 _ 6 16 Tryz.underlying57 HI.out HZ0.out HZ1.out HZ2.out rfl (by decide) (.slice oo c.ops.length oc) c.ops.length (c.ops.flatMap encOp) (by simp [Act.eval]) (by exact ownsRow_chg HA.out.ops (((Chg.refl (fun _ => False) wa).alloc _).drew) (fun _ _ => id)) ⟨wa.heap.size, 0, none⟩ 1 1 (by decide) (encOp o) (by simp [Act.eval]) rfl (by exact news_at (block_new wa _)) (one_emop _) (by have := HF.out; unfold maxLen; omega) (by have := HF.out; omega) (Nat.zero_le _) ?_; intro ao cp w5 h1 h2 h3; have HO5 := hidI h1; have HF5 := hidI h2; have HG5 := hidI h3; have hc5 := (((Chg.refl (fun g => (Value.slice oo c.ops.length oc).ownBlock = some g) wa).alloc _).drew).grown h3 (fun g hg => .inl hg); have HC5 := hidI hc5; have hb5 := chgblk hc5 HA.out.blk (fun e => (HA.out.ne.1 _ e).1 rfl); have s0 : w5.cell? ⟨bc, 0, none⟩ = some (.slice oo c.ops.length oc) := cell_of_block hb5 rfl; have s1 : w5.frozen? ⟨bc, 0, none⟩ = false := free_of_block hb5; clear h1 h2 h3 hc5 hb5))
  all_goals (
    go_wp2_with fail
    go_end0
    have hsz : wa.heap.size < (wa.alloc (.cells (encOp o).toArray 107)).heap.size := by rw [World.size_alloc]; omega
    obtain ⟨own', r1, r2⟩ := HA.out.more_ops o HF.out HC5.out HO5.out (fun g hg => (HF5.out g hg).imp id (fun e => by
      have e2 : (wa.alloc (.cells (encOp o).toArray 107)).heap.size ≤ g := e
      omega))
    exact ⟨rfl, own', r1, ((Turn.refl own w).below HBA.out).trans r2, by rw [put_labs]; exact Nat.le_refl _⟩)

/-- one more instruction, or too many -/
theorem put_any (h : CdAt w own bc c k) (o : OpD) :
    Calls Tryz.prog 95 #[.pointer (some ⟨bc, 0, none⟩), .agg #[.int .u8 o.kind, .int .u8 o.cal, .int .u8 o.a, .int .u8 o.b, .int .u8 o.c, .int .i64 o.n]] w (EmC own w bc c (c.put o) k (.tuple #[])) := by
  rcases Nat.lt_or_ge c.ops.length 262144 with hf | hf
  · exact put_more h o hf
  · exact put_over h o hf

set_option maxRecDepth 100000 in
set_option maxHeartbeats 2000000 in
/-- a new label -/
theorem label_any (h : CdAt w own bc c k) (hk : k ≤ 1099511627776) :
    Calls Tryz.prog 85 #[.pointer (some ⟨bc, 0, none⟩)] w (EmC own w bc c c.label (k + 1) (.int .i64 (c.labs.length : Int))) := by
  obtain ⟨oo, oc, lo, lc, mb, h⟩ := h
  have c1 : w.cell? ⟨bc, 1, none⟩ = some (.slice lo c.labs.length lc) := cell_of_block h.blk rfl
  have hlk := h.lk
  have HLK := hidI (show c.labs.length ≤ 1099511627776 from by omega)
  have hsub : IntKind.i64.wrap (((c.labs.length + 1 : Nat) : Int) - 1) = (c.labs.length : Int) := by rw [show ((c.labs.length + 1 : Nat) : Int) - 1 = (c.labs.length : Int) from by omega]; exact IntWalk.i64_in _ (by omega)
  have hsub2 : IntKind.i64.wrap ((c.labs.length : Int) + 1 - 1) = (c.labs.length : Int) := by rw [show (c.labs.length : Int) + 1 - 1 = (c.labs.length : Int) from by omega]; exact IntWalk.i64_in _ (by omega)
  have hsub3 : (c.labs.length : Int) + 1 - 1 = (c.labs.length : Int) := by omega
  have hsub4 : IntKind.i64.wrap (c.labs.length : Int) = (c.labs.length : Int) := IntWalk.i64_in _ (by omega)
  obtain ⟨i0, hi, hz0, hz1, hz2⟩ := info_parts emIntInfo
  have H := hidI h
  clear h hlk
  go_enter Tryz.func85, Tryz.ntmps85
  go_wp2_with (at_builtin; refine wpList_append_d _ rfl _ _ 72 rfl 0 3 i0 _ 1 8 Tryz.underlying72 hi hz0 hz1 hz2 rfl (by decide) _ _ _ rfl (ownsRow_chg H.out.labs ((Chg.refl (fun _ => False) w).alloc _) (fun _ _ => id)) ⟨w.heap.size, 0, none⟩ 1 1 [.int .i64 (-1)] rfl rfl ?c1 ?c2 ?c3 ?c4 ?c5 ?_)
  case c1 => exact news_at (block_new _ _)
  case c2 => intro u hu; simp at hu; subst hu; rfl
  case c3 => have := HLK.out; unfold maxLen; omega
  case c4 => have := HLK.out; omega
  case c5 => exact Nat.zero_le _
  intro ao cp w5 h1 h2 h3
  have hc5 := ((Chg.refl (fun g => (Value.slice lo c.labs.length lc).ownBlock = some g) w).alloc _).grown h3 (fun g hg => .inl hg)
  have hb5 := chgblk hc5 H.out.blk (fun e => (H.out.ne.2.1 _ e).1 rfl)
  have s0 : w5.cell? ⟨bc, 1, none⟩ = some (.slice lo c.labs.length lc) := cell_of_block hb5 rfl
  have s1 : w5.frozen? ⟨bc, 1, none⟩ = false := free_of_block hb5
  obtain ⟨own', r1, r2⟩ := H.out.more_labs hc5 h1 (fun g hg => (h2 g hg).imp id (fun e => by
    first | (rw [World.size_alloc] at e; omega) | omega))
  have s2 : (w5.setCell ⟨bc, 1, none⟩ (.slice ao (c.labs.length + 1) cp)).cell? ⟨bc, 1, none⟩ = some (.slice ao (c.labs.length + 1) cp) := cell_of_block (block_setCell _ hb5) rfl
  have HR1 := hidI r1
  have HR2 := hidI r2
  clear h1 h2 h3 hc5 hb5 r1 r2 c1 hi hz0 hz1 hz2
  go_wp2_with fail
  go_ret
  exact ⟨rfl, own', HR1.out, HR2.out, by simp [Cd.label]⟩

theorem em_row_set {base g n cap o sz : Nat} {e : TypeId} {cs : List Value} (h : w.ownsRow base e sz (.slice (some ⟨g, 0, none⟩) n cap) n cs) (u : Value) : (w.setCell ⟨g, o, none⟩ u).ownsRow base e sz (.slice (some ⟨g, 0, none⟩) n cap) n (cs.set o u) := by
  rcases h.2 with ⟨hv', _⟩ | ⟨g', cap', cur, hv', hb, hg, hc, hm, hs, ht⟩
  · simp at hv'
  · simp only [Value.slice.injEq, Option.some.injEq, Addr.mk.injEq, and_true, true_and] at hv'
    obtain ⟨rfl, rfl⟩ := hv'
    refine ⟨by rw [List.length_set]; exact h.1, .inr ⟨g, cap, _, rfl, hb, block_setCell u hg, hc, hm, by simpa using hs, ?_⟩⟩
    rw [Array.toList_setIfInBounds, List.take_set, ht]

set_option maxRecDepth 100000 in
set_option maxHeartbeats 2000000 in
/-- a label's place is here -/
theorem here_any (h : CdAt w own bc c k) {l : Nat} (hl : l < c.labs.length) :
    Calls Tryz.prog 86 #[.pointer (some ⟨bc, 0, none⟩), .int .i64 (l : Int)] w (EmC own w bc c (c.here l) k (.tuple #[])) := by
  obtain ⟨oo, oc, lo, lc, mb, h⟩ := h
  have c0 : w.cell? ⟨bc, 0, none⟩ = some (.slice oo c.ops.length oc) := cell_of_block h.blk rfl
  have c1 : w.cell? ⟨bc, 1, none⟩ = some (.slice lo c.labs.length lc) := cell_of_block h.blk rfl
  obtain ⟨g, cur, hlo, -, hgb, hcap, hcells⟩ := ownsRow_some h.labs (by omega)
  subst hlo
  have hv : (c.labs.map (Value.int .i64))[l]? = some (.int .i64 (c.labs.getD l 0)) := by simp [hl]
  have d0 : w.cell? ⟨g, l, none⟩ = some (.int .i64 (c.labs.getD l 0)) := cell_of_block hgb (hcells _ _ hv)
  have f0 : w.frozen? ⟨g, l, none⟩ = false := free_of_block hgb
  have q1 : (l : Int) < (c.labs.length : Int) := by omega
  have H := hidI h
  generalize c.labs.getD l 0 = old at d0
  clear h hgb hcells hv
  go_enter Tryz.func86, Tryz.ntmps86
  go_wp2_with fail
  go_still_tail 11, (by kernel_rfl)
  go_wp2_with fail
  go_end0
  obtain ⟨n1, n2, n3⟩ := H.out.ne
  have hc : Chg (fun x => x = g) w (w.setCell ⟨g, l, none⟩ (.int .i64 (c.ops.length : Int))).drew := ((Chg.refl (fun x => x = g) w).setCell (p := ⟨g, l, none⟩) (.inl rfl) _).drew
  have hg := n2 g rfl
  refine ⟨rfl, own, ⟨oo, oc, some ⟨g, 0, none⟩, lc, mb, ?_⟩, ⟨Chg.then_ (Chg.refl own w) hc (fun x _ e => by rw [e]; exact H.out.ol g rfl), fun _ _ e => e⟩, by simp [Cd.here]⟩
  have hls : (c.here l).labs.length = c.labs.length := by simp [Cd.here]
  refine ⟨?_, ownsRow_chg H.out.ops hc (fun x hx e => hg.2.2 (by rw [← e]; exact hx)), ?_, ownsMap_chg H.out.mp hc (fun e => hg.2.1 e.symm), H.out.ob, H.out.oo_, ?_, H.out.om, fun x hx => Nat.lt_of_lt_of_le (H.out.lt x hx) hc.size, H.out.few, by rw [hls]; exact H.out.lk, ?_⟩
  · rw [hls]
    exact chgblk hc H.out.blk (fun e => hg.1 e.symm)
  · rw [hls]
    have h9 := em_row_set (o := l) H.out.labs (.int .i64 (c.ops.length : Int))
    rw [← List.map_set] at h9
    exact h9
  · rw [hls]
    exact H.out.ol
  · intro p hp
    rw [hls]
    exact H.out.jl p hp

theorem emLaw : Keyed Tryz.prog 3 := int_keyed Tryz.underlying3

/-- a jump has been laid into the map -/
theorem CdIn.marked {oo lo : Option Addr} {oc lc mb l : Nat} (h : CdIn w own bc c k oo oc lo lc mb) (hl : l < c.labs.length) (hm : w1.ownsMap Tryz.prog 3 (plainElem Tryz.prog 169) mb (k + 1) ((JD c.jmp).put (.int .i64 (c.ops.length : Int)) (.lit (.int .i64 (l : Int))))) (hg : w.grownBy w1 (some mb)) :
    CdAt w1 own bc (c.mark l) (k + 1) ∧ Turn own w own w1 := by
  obtain ⟨n1, n2, n3⟩ := h.ne
  have hc : Chg (fun g => g = mb) w w1 := (Chg.refl (fun g => g = mb) w).grown hg (fun g hg => .inl (by simpa using hg.symm))
  refine ⟨⟨oo, oc, lo, lc, mb, ⟨chgblk hc h.blk n3.symm, ownsRow_chg h.ops hc (fun g hg => (n1 g hg).2.1), ownsRow_chg h.labs hc (fun g hg => (n2 g hg).2.1), ?_, h.ob, h.oo_, h.ol, h.om, fun g hg => Nat.lt_of_lt_of_le (h.lt g hg) hc.size, h.few, Nat.le_succ_of_le h.lk, ?_⟩⟩, ⟨Chg.then_ (Chg.refl own w) hc (fun g _ e => by rw [e]; exact h.om), fun _ _ e => e⟩⟩
  · rw [show (c.mark l).jmp = c.jmp ++ [(c.ops.length, l)] from rfl, JD_snoc]
    exact hm
  · intro p hp
    rcases List.mem_append.1 hp with hp | hp
    · exact h.jl p hp
    · simp at hp; rw [hp]; exact hl

theorem wf_small {x : Nat} (h : x ≤ 1099511627776) : (Lit.int .i64 (x : Int)).wf = true := WalkArith.wf_i64 (by omega)

set_option maxRecDepth 100000 in
set_option maxHeartbeats 2000000 in
theorem jump_any (h : CdAt w own bc c k) {l : Nat} (hl : l < c.labs.length) (hk : k ≤ 1099511627776) :
    Calls Tryz.prog 93 #[.pointer (some ⟨bc, 0, none⟩), .int .i64 (l : Int)] w (EmC own w bc c (c.jump l) (k + 1) (.tuple #[])) := by
  obtain ⟨oo, oc, lo, lc, mb, h⟩ := h
  have c0 : w.cell? ⟨bc, 0, none⟩ = some (.slice oo c.ops.length oc) := cell_of_block h.blk rfl
  have c2 : w.cell? ⟨bc, 2, none⟩ = some (.map (some mb)) := cell_of_block h.blk rfl
  have hlk := h.lk
  have hfew := h.few
  have HKEY : Hid (keyOf Tryz.prog 3 (.int .i64 (c.ops.length : Int)) = some (.int .i64 (c.ops.length : Int))) := hidI (keyOf_int_mk Tryz.underlying3 (wf_small (by omega)))
  have HWL := hidI (wf_small (x := l) (by omega))
  have HK := hidI hk
  have HL := hidI hl
  have H := hidI h
  clear h hlk hfew hk hl
  go_enter Tryz.func93, Tryz.ntmps93
  go_wp2_with fail
  go_still_tail 10, (by kernel_rfl)
  go_wp2_with (at_mapUpdate; refine wpList_mapUpdate_own _ rfl _ _ _ 139 rfl 3 169 emLaw Tryz.underlying139 _ mb k _ rfl H.out.mp.drew (by have := HK.out; unfold maxLen; omega) _ _ _ rfl rfl HKEY.out _ [] (plainElem_int Tryz.underlying169 HWL.out) ?_)
  intro w5 hown hgrow
  obtain ⟨r1, r2⟩ := H.out.marked HL.out hown (show w.grownBy w5 (some mb) from ⟨hgrow.os, hgrow.tape, hgrow.output, hgrow.size, hgrow.block⟩)
  have HR1 := hidI r1
  have HR2 := hidI r2
  clear hown hgrow r1 r2 c0 c2
  go_wp2_with fail
  refine (put_any HR1.out ⟨6, 0, 0, 0, 0, 0⟩).mono ?_
  rintro e w6 ⟨rfl, own', r3, r4, r5⟩
  go_wp2_with fail
  go_end0
  exact ⟨rfl, own', r3, HR2.out.trans r4, r5⟩

set_option maxRecDepth 100000 in
set_option maxHeartbeats 2000000 in
theorem zero_any (h : CdAt w own bc c k) (r : Int) {l : Nat} (hl : l < c.labs.length) (hk : k ≤ 1099511627776) :
    Calls Tryz.prog 123 #[.pointer (some ⟨bc, 0, none⟩), .int .u8 r, .int .i64 (l : Int)] w (EmC own w bc c (c.zero r l) (k + 1) (.tuple #[])) := by
  obtain ⟨oo, oc, lo, lc, mb, h⟩ := h
  have c0 : w.cell? ⟨bc, 0, none⟩ = some (.slice oo c.ops.length oc) := cell_of_block h.blk rfl
  have c2 : w.cell? ⟨bc, 2, none⟩ = some (.map (some mb)) := cell_of_block h.blk rfl
  have hlk := h.lk
  have hfew := h.few
  have HKEY : Hid (keyOf Tryz.prog 3 (.int .i64 (c.ops.length : Int)) = some (.int .i64 (c.ops.length : Int))) := hidI (keyOf_int_mk Tryz.underlying3 (wf_small (by omega)))
  have HWL := hidI (wf_small (x := l) (by omega))
  have HK := hidI hk
  have HL := hidI hl
  have H := hidI h
  clear h hlk hfew hk hl
  go_enter Tryz.func123, Tryz.ntmps123
  go_wp2_with fail
  go_still_tail 10, (by kernel_rfl)
  go_wp2_with (at_mapUpdate; refine wpList_mapUpdate_own _ rfl _ _ _ 139 rfl 3 169 emLaw Tryz.underlying139 _ mb k _ rfl H.out.mp.drew (by have := HK.out; unfold maxLen; omega) _ _ _ rfl rfl HKEY.out _ [] (plainElem_int Tryz.underlying169 HWL.out) ?_)
  intro w5 hown hgrow
  obtain ⟨r1, r2⟩ := H.out.marked HL.out hown (show w.grownBy w5 (some mb) from ⟨hgrow.os, hgrow.tape, hgrow.output, hgrow.size, hgrow.block⟩)
  have HR1 := hidI r1
  have HR2 := hidI r2
  clear hown hgrow r1 r2 c0 c2
  go_wp2_with fail
  refine (put_any HR1.out ⟨7, 0, r, 0, 0, 0⟩).mono ?_
  rintro e w6 ⟨rfl, own', r3, r4, r5⟩
  go_wp2_with fail
  go_end0
  exact ⟨rfl, own', r3, HR2.out.trans r4, r5⟩

set_option maxRecDepth 100000 in
set_option maxHeartbeats 2000000 in
/-- a new code -/
theorem emnew_any (w : World) : Calls Tryz.prog 54 #[] w fun e w' => ∃ bc own, e = .returned (.pointer (some ⟨bc, 0, none⟩)) ∧ CdAt w' own bc Cd.new 0 ∧ (∀ g, own g → w.heap.size ≤ g) ∧ Below w.heap.size w w' := by
  have hmm := @run_makeMap Tryz.prog
  go_enter Tryz.func54, Tryz.ntmps54
  go_wp2_with fail
  go_ret
  refine ⟨w.heap.size + 1, fun g => g = w.heap.size ∨ g = w.heap.size + 1, rfl, ⟨none, 0, none, 0, w.heap.size, ?_⟩, fun g hg => by omega, ((Below.refl _ _).alloc (Nat.le_refl _) _).alloc (by simp) _⟩
  refine ⟨block_new2 _ _ _, World.ownsRow_nil _ _ _ _, World.ownsRow_nil _ _ _ _, (World.ownsMap_made _ _ _ _).alloc _, .inr rfl, fun g hg => by simp [Value.ownBlock] at hg, fun g hg => by simp [Value.ownBlock] at hg, .inl rfl, fun g hg => by simp; omega, by simp [Cd.new], by simp [Cd.new], fun p hp => by simp [Cd.new] at hp⟩
end

section
open Go.RowKit Go.Maps

variable {w w' w1 w2 : World} {own own1 own2 : Nat → Prop} {bc k : Nat} {c : Cd}

def Cd.set (c : Cd) (r n : Int) : Cd := c.put ⟨1, 0, r, 0, 0, n⟩
set_option maxHeartbeats 1000000 in
theorem emset_any (h : CdAt w own bc c k) (r n : Int) :
    Calls Tryz.prog 83 #[.pointer (some ⟨bc, 0, none⟩), .int .u8 r, .int .i64 n] w (EmC own w bc c (c.set r n) k (.tuple #[])) := by
  have H := hidI h
  clear h
  go_enter Tryz.func83, Tryz.ntmps83
  go_wp2_with fail
  refine (put_any H.out ⟨1, 0, r, 0, 0, n⟩).mono ?_
  rintro e w1 ⟨rfl, own1, r1, r2, r3⟩
  go_wp2_with fail
  go_end0
  exact ⟨rfl, own1, r1, r2, r3⟩
def Cd.move (c : Cd) (a b : Int) : Cd := c.put ⟨2, 0, a, b, 0, 0⟩
set_option maxHeartbeats 1000000 in
theorem emmove_any (h : CdAt w own bc c k) (a b : Int) :
    Calls Tryz.prog 125 #[.pointer (some ⟨bc, 0, none⟩), .int .u8 a, .int .u8 b] w (EmC own w bc c (c.move a b) k (.tuple #[])) := by
  have H := hidI h
  clear h
  go_enter Tryz.func125, Tryz.ntmps125
  go_wp2_with fail
  refine (put_any H.out ⟨2, 0, a, b, 0, 0⟩).mono ?_
  rintro e w1 ⟨rfl, own1, r1, r2, r3⟩
  go_wp2_with fail
  go_end0
  exact ⟨rfl, own1, r1, r2, r3⟩
def Cd.calc (c : Cd) (q a b : Int) : Cd := c.put ⟨3, q, a, b, 0, 0⟩
set_option maxHeartbeats 1000000 in
theorem emcalc_any (h : CdAt w own bc c k) (q a b : Int) :
    Calls Tryz.prog 120 #[.pointer (some ⟨bc, 0, none⟩), .int .u8 q, .int .u8 a, .int .u8 b] w (EmC own w bc c (c.calc q a b) k (.tuple #[])) := by
  have H := hidI h
  clear h
  go_enter Tryz.func120, Tryz.ntmps120
  go_wp2_with fail
  refine (put_any H.out ⟨3, q, a, b, 0, 0⟩).mono ?_
  rintro e w1 ⟨rfl, own1, r1, r2, r3⟩
  go_wp2_with fail
  go_end0
  exact ⟨rfl, own1, r1, r2, r3⟩
def Cd.load (c : Cd) (a b n : Int) : Cd := c.put ⟨4, 0, a, b, 0, n⟩
set_option maxHeartbeats 1000000 in
theorem emload_any (h : CdAt w own bc c k) (a b n : Int) :
    Calls Tryz.prog 91 #[.pointer (some ⟨bc, 0, none⟩), .int .u8 a, .int .u8 b, .int .i64 n] w (EmC own w bc c (c.load a b n) k (.tuple #[])) := by
  have H := hidI h
  clear h
  go_enter Tryz.func91, Tryz.ntmps91
  go_wp2_with fail
  refine (put_any H.out ⟨4, 0, a, b, 0, n⟩).mono ?_
  rintro e w1 ⟨rfl, own1, r1, r2, r3⟩
  go_wp2_with fail
  go_end0
  exact ⟨rfl, own1, r1, r2, r3⟩
def Cd.store (c : Cd) (a n b : Int) : Cd := c.put ⟨5, 0, a, b, 0, n⟩
set_option maxHeartbeats 1000000 in
theorem emstore_any (h : CdAt w own bc c k) (a n b : Int) :
    Calls Tryz.prog 88 #[.pointer (some ⟨bc, 0, none⟩), .int .u8 a, .int .i64 n, .int .u8 b] w (EmC own w bc c (c.store a n b) k (.tuple #[])) := by
  have H := hidI h
  clear h
  go_enter Tryz.func88, Tryz.ntmps88
  go_wp2_with fail
  refine (put_any H.out ⟨5, 0, a, b, 0, n⟩).mono ?_
  rintro e w1 ⟨rfl, own1, r1, r2, r3⟩
  go_wp2_with fail
  go_end0
  exact ⟨rfl, own1, r1, r2, r3⟩
def Cd.note (c : Cd) (k0 a b : Int) : Cd := c.put ⟨12, 0, a, b, 0, k0⟩
set_option maxHeartbeats 1000000 in
theorem emnote_any (h : CdAt w own bc c k) (k0 a b : Int) (hk : 0 ≤ k0 ∧ k0 < 256) :
    Calls Tryz.prog 129 #[.pointer (some ⟨bc, 0, none⟩), .int .u8 k0, .int .u8 a, .int .u8 b] w (EmC own w bc c (c.note k0 a b) k (.tuple #[])) := by
  have H := hidI h
  have e1 : IntKind.i64.wrap k0 = k0 := IntWalk.i64_in _ (by omega)
  clear h
  go_enter Tryz.func129, Tryz.ntmps129
  go_wp2_with fail
  refine (put_any H.out ⟨12, 0, a, b, 0, k0⟩).mono ?_
  rintro e w1 ⟨rfl, own1, r1, r2, r3⟩
  go_wp2_with fail
  go_end0
  exact ⟨rfl, own1, r1, r2, r3⟩
def Cd.trap (c : Cd) (k0 : Int) : Cd := c.put ⟨13, 0, 0, 0, 0, k0⟩
set_option maxHeartbeats 1000000 in
theorem emtrap_any (h : CdAt w own bc c k) (k0 : Int) (hk : 0 ≤ k0 ∧ k0 < 256) :
    Calls Tryz.prog 127 #[.pointer (some ⟨bc, 0, none⟩), .int .u8 k0] w (EmC own w bc c (c.trap k0) k (.tuple #[])) := by
  have H := hidI h
  have e1 : IntKind.i64.wrap k0 = k0 := IntWalk.i64_in _ (by omega)
  clear h
  go_enter Tryz.func127, Tryz.ntmps127
  go_wp2_with fail
  refine (put_any H.out ⟨13, 0, 0, 0, 0, k0⟩).mono ?_
  rintro e w1 ⟨rfl, own1, r1, r2, r3⟩
  go_wp2_with fail
  go_end0
  exact ⟨rfl, own1, r1, r2, r3⟩
def Cd.out (c : Cd) (r : Int) : Cd := c.put ⟨11, 0, r, 0, 0, 0⟩
set_option maxHeartbeats 1000000 in
theorem emout_any (h : CdAt w own bc c k) (r : Int) :
    Calls Tryz.prog 92 #[.pointer (some ⟨bc, 0, none⟩), .int .u8 r] w (EmC own w bc c (c.out r) k (.tuple #[])) := by
  have H := hidI h
  clear h
  go_enter Tryz.func92, Tryz.ntmps92
  go_wp2_with fail
  refine (put_any H.out ⟨11, 0, r, 0, 0, 0⟩).mono ?_
  rintro e w1 ⟨rfl, own1, r1, r2, r3⟩
  go_wp2_with fail
  go_end0
  exact ⟨rfl, own1, r1, r2, r3⟩
def Cd.halt (c : Cd) : Cd := c.put ⟨14, 0, 0, 0, 0, 0⟩
set_option maxHeartbeats 1000000 in
theorem emhalt_any (h : CdAt w own bc c k) :
    Calls Tryz.prog 57 #[.pointer (some ⟨bc, 0, none⟩)] w (EmC own w bc c (c.halt) k (.tuple #[])) := by
  have H := hidI h
  clear h
  go_enter Tryz.func57, Tryz.ntmps57
  go_wp2_with fail
  refine (put_any H.out ⟨14, 0, 0, 0, 0, 0⟩).mono ?_
  rintro e w1 ⟨rfl, own1, r1, r2, r3⟩
  go_wp2_with fail
  go_end0
  exact ⟨rfl, own1, r1, r2, r3⟩
def Cd.with_ (c : Cd) (q a n r : Int) : Cd := (c.set r n).calc q a r
set_option maxRecDepth 100000 in
set_option maxHeartbeats 1000000 in
theorem emwith_any (h : CdAt w own bc c k) (q a n r : Int) :
    Calls Tryz.prog 121 #[.pointer (some ⟨bc, 0, none⟩), .int .u8 q, .int .u8 a, .int .i64 n, .int .u8 r] w (EmC own w bc c (c.with_ q a n r) k (.tuple #[])) := by
  have H := hidI h
  clear h
  go_enter Tryz.func121, Tryz.ntmps121
  go_wp2_with fail
  refine (emset_any H.out r n).mono ?_
  rintro e w1 ⟨rfl, own1, r1, r2, r3⟩
  have HR1 := hidI r1
  have HR2 := hidI r2
  have HR3 := hidI r3
  clear r1 r2 r3
  go_wp2_with fail
  refine (emcalc_any HR1.out q a r).mono ?_
  rintro e w2 ⟨rfl, own2, r1, r2, r3⟩
  go_wp2_with fail
  go_end0
  exact ⟨rfl, own2, r1, HR2.out.trans r2, Nat.le_trans HR3.out r3⟩

/-! ### a thread's transactions -/
structure TxC where
  words : Int
  size : Int
  frame : Int
  log : Int
  prints : Int
  arena : Int
  en : Int
  base : Int
  th : Int
  sum : Int
def encRow (bc : Nat) (tv : Value) (t : TxC) : Array Value :=
  #[.pointer (some ⟨bc, 0, none⟩), .int .i64 t.words, tv, .int .i64 t.size, .int .i64 t.frame, .int .i64 t.log, .int .i64 t.prints, .int .i64 t.arena, .int .i64 t.en, .int .i64 t.base, .int .i64 t.th, .int .i64 t.sum]
/-- its numbers are small -/
structure TxOk (t : TxC) : Prop where
  words : 0 ≤ t.words ∧ t.words ≤ 262144
  log : 0 ≤ t.log ∧ t.log ≤ 262144
  prints : 0 ≤ t.prints ∧ t.prints ≤ 262144
  arena : 0 ≤ t.arena ∧ t.arena ≤ 262144
  base : 0 ≤ t.base ∧ t.base ≤ 262144
  th : 0 ≤ t.th ∧ t.th ≤ 4
  sum : 0 ≤ t.sum ∧ t.sum ≤ 262144
structure TxAt (w : World) (own : Nat → Prop) (br bc : Nat) (tv : Value) (t : TxC) (c : Cd) (k : Nat) : Prop where
  code : CdAt w own bc c k
  row : Keep w own br (.cells (encRow bc tv t) 137 (0, 0))

variable {br : Nat} {tv : Value} {t : TxC}
theorem TxAt.next (h : TxAt w own br bc tv t c k) {c' : Cd} {k' : Nat} (hc : CdAt w1 own1 bc c' k') (ht : Turn own w own1 w1) : TxAt w1 own1 br bc tv t c' k' := ⟨hc, h.row.turn ht⟩
theorem TxAt.drew (h : TxAt w own br bc tv t c k) : TxAt w.drew own br bc tv t c k := ⟨h.code.drew, h.row.drew⟩
theorem TxAt.alloc (h : TxAt w own br bc tv t c k) (o : Obj) : TxAt (w.alloc o) own br bc tv t c k := ⟨h.code.alloc o, h.row.alloc o⟩
theorem TxAt.below (h : TxAt w own br bc tv t c k) (hb : Below w.heap.size w w') : TxAt w' own br bc tv t c k := ⟨h.code.below hb, h.row.below hb⟩
theorem TxAt.more (h : TxAt w own br bc tv t c k) {k' : Nat} (hk : k ≤ k') : TxAt w own br bc tv t c k' := ⟨h.code.more hk, h.row⟩
theorem TxAt.x0 (h : TxAt w own br bc tv t c k) : w.cell? ⟨br, 0, none⟩ = some (.pointer (some ⟨bc, 0, none⟩)) := cell_of_block h.row.blk rfl
theorem TxAt.x1 (h : TxAt w own br bc tv t c k) : w.cell? ⟨br, 1, none⟩ = some (.int .i64 t.words) := cell_of_block h.row.blk rfl
theorem TxAt.x2 (h : TxAt w own br bc tv t c k) : w.cell? ⟨br, 2, none⟩ = some tv := cell_of_block h.row.blk rfl
theorem TxAt.x3 (h : TxAt w own br bc tv t c k) : w.cell? ⟨br, 3, none⟩ = some (.int .i64 t.size) := cell_of_block h.row.blk rfl
theorem TxAt.x5 (h : TxAt w own br bc tv t c k) : w.cell? ⟨br, 5, none⟩ = some (.int .i64 t.log) := cell_of_block h.row.blk rfl
theorem TxAt.x6 (h : TxAt w own br bc tv t c k) : w.cell? ⟨br, 6, none⟩ = some (.int .i64 t.prints) := cell_of_block h.row.blk rfl
theorem TxAt.x7 (h : TxAt w own br bc tv t c k) : w.cell? ⟨br, 7, none⟩ = some (.int .i64 t.arena) := cell_of_block h.row.blk rfl
theorem TxAt.x9 (h : TxAt w own br bc tv t c k) : w.cell? ⟨br, 9, none⟩ = some (.int .i64 t.base) := cell_of_block h.row.blk rfl
theorem TxAt.x10 (h : TxAt w own br bc tv t c k) : w.cell? ⟨br, 10, none⟩ = some (.int .i64 t.th) := cell_of_block h.row.blk rfl
theorem TxAt.x11 (h : TxAt w own br bc tv t c k) : w.cell? ⟨br, 11, none⟩ = some (.int .i64 t.sum) := cell_of_block h.row.blk rfl
/-- what a call on transactions answers -/
def EmT (own : Nat → Prop) (w : World) (br bc : Nat) (tv : Value) (t : TxC) (c c' : Cd) (k' : Nat) (e : Ending) (w' : World) : Prop :=
  e = .returned (.tuple #[]) ∧ ∃ own', TxAt w' own' br bc tv t c' k' ∧ Turn own w own' w' ∧ c.labs.length ≤ c'.labs.length
theorem EmC.tx {c' : Cd} {k' : Nat} {e : Ending} (h : TxAt w own br bc tv t c k) (he : EmC own w bc c c' k' (.tuple #[]) e w') : EmT own w br bc tv t c c' k' e w' := by
  obtain ⟨h1, own', h2, h3, h4⟩ := he
  exact ⟨h1, own', h.next h2 h3, h3, h4⟩

def Cd.get (t : TxC) (r a : Int) (c : Cd) : Cd := c.load r 7 (t.base + a)
def Cd.sto (t : TxC) (a r : Int) (c : Cd) : Cd := c.store 7 (t.base + a) r
set_option maxRecDepth 100000 in
set_option maxHeartbeats 1000000 in
theorem txget_any (h : TxAt w own br bc tv t c k) (ok : TxOk t) (r a : Int) (ha : 0 ≤ a ∧ a ≤ 262144) :
    Calls Tryz.prog 117 #[.pointer (some ⟨br, 0, none⟩), .int .u8 r, .int .i64 a] w (EmT own w br bc tv t c (c.get t r a) k) := by
  have x0 := h.x0
  have x9 := h.x9
  have e1 : IntKind.i64.wrap (t.base + a) = t.base + a := IntWalk.i64_in _ (by have := ok.base; omega)
  have H := hidI h
  clear h ok ha
  go_enter Tryz.func117, Tryz.ntmps117
  go_wp2_with fail
  go_still_tail 11, (by kernel_rfl)
  go_wp2_with fail
  refine (emload_any H.out.code.drew r 7 (t.base + a)).mono ?_
  rintro e w1 ⟨rfl, own1, r1, r2, r3⟩
  go_wp2_with fail
  go_end0
  have ht := ((Turn.refl own w).drew).trans r2
  exact ⟨rfl, own1, H.out.next r1 ht, ht, r3⟩
set_option maxRecDepth 100000 in
set_option maxHeartbeats 1000000 in
theorem txput_any (h : TxAt w own br bc tv t c k) (ok : TxOk t) (a r : Int) (ha : 0 ≤ a ∧ a ≤ 262144) :
    Calls Tryz.prog 84 #[.pointer (some ⟨br, 0, none⟩), .int .i64 a, .int .u8 r] w (EmT own w br bc tv t c (c.sto t a r) k) := by
  have x0 := h.x0
  have x9 := h.x9
  have e1 : IntKind.i64.wrap (t.base + a) = t.base + a := IntWalk.i64_in _ (by have := ok.base; omega)
  have H := hidI h
  clear h ok ha
  go_enter Tryz.func84, Tryz.ntmps84
  go_wp2_with fail
  go_still_tail 11, (by kernel_rfl)
  go_wp2_with fail
  refine (emstore_any H.out.code.drew 7 (t.base + a) r).mono ?_
  rintro e w1 ⟨rfl, own1, r1, r2, r3⟩
  go_wp2_with fail
  go_end0
  have ht := ((Turn.refl own w).drew).trans r2
  exact ⟨rfl, own1, H.out.next r1 ht, ht, r3⟩
set_option maxRecDepth 100000 in
set_option maxHeartbeats 1000000 in
theorem txowner_any (h : TxAt w own br bc tv t c k) (ok : TxOk t) :
    Calls Tryz.prog 164 #[.pointer (some ⟨br, 0, none⟩)] w fun e w' => e = .returned (.int .i64 (2 * t.th + 1)) ∧ w' = w := by
  have x10 := h.x10
  have e1 : IntKind.i64.wrap (2 * t.th) = 2 * t.th := IntWalk.i64_in _ (by have := ok.th; omega)
  have e2 : IntKind.i64.wrap (2 * t.th + 1) = 2 * t.th + 1 := IntWalk.i64_in _ (by have := ok.th; omega)
  clear h ok
  go_enter Tryz.func164, Tryz.ntmps164
  go_wp2_with fail
  go_ret
  exact ⟨rfl, rfl⟩
end

section
open Go.RowKit Go.Maps

variable {w w' w1 w2 : World} {own own1 own2 : Nat → Prop} {bc k br : Nat} {tv : Value} {t : TxC}

def Cd.search (t : TxC) (found : Nat) (c0 : Cd) : Cd :=
  let loop := c0.labs.length
  let c1 := c0.label
  let miss := c1.labs.length
  let c2 := c1.label
  let c3 := c2.get t 3 2
  let c4 := c3.here loop
  let c5 := c4.zero 3 miss
  let c6 := c5.with_ 2 3 1 4
  let c7 := c6.move 5 3
  let c8 := c7.calc 1 5 5
  let c9 := c8.with_ 1 5 t.log 4
  let c10 := c9.load 6 5 0
  let c11 := c10.calc 2 6 1
  let c12 := c11.zero 6 found
  let c13 := c12.jump loop
  let c14 := c13.here miss
  c14
set_option maxRecDepth 100000 in
set_option maxHeartbeats 4000000 in
theorem txsearch_any {c0 : Cd} {found : Nat} (h : TxAt w own br bc tv t c0 k) (ok : TxOk t) (hlfound : found < c0.labs.length) (hk : k ≤ 1099511000000) :
    Calls Tryz.prog 161 #[.pointer (some ⟨br, 0, none⟩), .int .i64 (found : Int)] w (EmT own w br bc tv t c0 (c0.search t found) (k + 5)) := by
  have HT0 := hidI h
  have OK := hidI ok
  have HK := hidI hk
  have HU0 := hidI (Turn.refl own w)
  have HL0 := hidI (Nat.le_refl c0.labs.length)
  have HVfound := hidI hlfound
  have x0 := HT0.out.x0
  have x5 := HT0.out.x5
  clear h ok hk hlfound
  go_enter Tryz.func161, Tryz.ntmps161
  go_wp2_with fail
  go_region_held3 (fun w' => w'.cell? ⟨br, 0, none⟩ = some (.pointer (some ⟨bc, 0, none⟩))) (first | assumption | simp only [World.cell?_drew, *]) (first
    | (go_at_call 85; refine (label_any HT1.out.code (by have := HK.out; omega)).mono ?_; rintro e w2 ⟨rfl, own2, r1, r2, r3⟩; have r4 : c1.labs.length < (c1.label).labs.length := (by simp [Cd.label]); generalize hec : c1.label = c2 at r1 r3 r4; obtain ⟨miss, hf⟩ : ∃ x, x = c1.labs.length := ⟨_, rfl⟩; rw [← hf] at r4 ⊢; have HT2 := hidI (HT1.out.next r1 r2); have HU2 := hidI (HU1.out.trans r2); have HL2 := hidI (Nat.le_trans HL1.out r3); replace HVfound := hidI (Nat.lt_of_lt_of_le HVfound.out r3); replace HVloop := hidI (Nat.lt_of_lt_of_le HVloop.out r3); have HVmiss := hidI r4; have HFmiss := hidI hf; have HC2 := hidI hec; clear r1 r2 r3 hec r4 hf x0 x5; have x0 := HT2.out.x0; have x5 := HT2.out.x5)
    | (go_at_call 85; refine (label_any HT0.out.drew.code (by have := HK.out; omega)).mono ?_; rintro e w1 ⟨rfl, own1, r1, r2, r3⟩; have r4 : c0.labs.length < (c0.label).labs.length := (by simp [Cd.label]); generalize hec : c0.label = c1 at r1 r3 r4; obtain ⟨loop, hf⟩ : ∃ x, x = c0.labs.length := ⟨_, rfl⟩; rw [← hf] at r4 ⊢; have HT1 := hidI (HT0.out.drew.next r1 r2); have HU1 := hidI (HU0.out.drew.trans r2); have HL1 := hidI (Nat.le_trans HL0.out r3); replace HVfound := hidI (Nat.lt_of_lt_of_le HVfound.out r3); have HVloop := hidI r4; have HFloop := hidI hf; have HC1 := hidI hec; clear r1 r2 r3 hec r4 hf x0 x5; have x0 := HT1.out.x0; have x5 := HT1.out.x5)
    )
  go_wp2_with fail
  refine (txget_any HT2.out OK.out 3 2 (by decide)).mono ?_
  rintro e w3 ⟨rfl, own3, r1, r2, r3⟩
  generalize hec : c2.get t 3 2 = c3 at r1 r3
  have HT3 := hidI (r1)
  have HU3 := hidI (HU2.out.trans r2)
  have HL3 := hidI (Nat.le_trans HL2.out r3)
  replace HVfound := hidI (Nat.lt_of_lt_of_le HVfound.out r3)
  replace HVloop := hidI (Nat.lt_of_lt_of_le HVloop.out r3)
  replace HVmiss := hidI (Nat.lt_of_lt_of_le HVmiss.out r3)
  have HC3 := hidI hec
  clear r1 r2 r3 hec x0 x5
  have x0 := HT3.out.x0
  have x5 := HT3.out.x5
  go_wp2_with fail
  refine (here_any HT3.out.code HVloop.out).mono ?_
  rintro e w4 ⟨rfl, own4, r1, r2, r3⟩
  generalize hec : c3.here loop = c4 at r1 r3
  have HT4 := hidI (HT3.out.next r1 r2)
  have HU4 := hidI (HU3.out.trans r2)
  have HL4 := hidI (Nat.le_trans HL3.out r3)
  replace HVfound := hidI (Nat.lt_of_lt_of_le HVfound.out r3)
  replace HVloop := hidI (Nat.lt_of_lt_of_le HVloop.out r3)
  replace HVmiss := hidI (Nat.lt_of_lt_of_le HVmiss.out r3)
  have HC4 := hidI hec
  clear r1 r2 r3 hec x0 x5
  have x0 := HT4.out.x0
  have x5 := HT4.out.x5
  go_wp2_with fail
  refine (zero_any HT4.out.code 3 HVmiss.out (by have := HK.out; omega)).mono ?_
  rintro e w5 ⟨rfl, own5, r1, r2, r3⟩
  generalize hec : c4.zero 3 miss = c5 at r1 r3
  have HT5 := hidI (HT4.out.next r1 r2)
  have HU5 := hidI (HU4.out.trans r2)
  have HL5 := hidI (Nat.le_trans HL4.out r3)
  replace HVfound := hidI (Nat.lt_of_lt_of_le HVfound.out r3)
  replace HVloop := hidI (Nat.lt_of_lt_of_le HVloop.out r3)
  replace HVmiss := hidI (Nat.lt_of_lt_of_le HVmiss.out r3)
  have HC5 := hidI hec
  clear r1 r2 r3 hec x0 x5
  have x0 := HT5.out.x0
  have x5 := HT5.out.x5
  go_wp2_with fail
  refine (emwith_any HT5.out.code 2 3 1 4).mono ?_
  rintro e w6 ⟨rfl, own6, r1, r2, r3⟩
  generalize hec : c5.with_ 2 3 1 4 = c6 at r1 r3
  have HT6 := hidI (HT5.out.next r1 r2)
  have HU6 := hidI (HU5.out.trans r2)
  have HL6 := hidI (Nat.le_trans HL5.out r3)
  replace HVfound := hidI (Nat.lt_of_lt_of_le HVfound.out r3)
  replace HVloop := hidI (Nat.lt_of_lt_of_le HVloop.out r3)
  replace HVmiss := hidI (Nat.lt_of_lt_of_le HVmiss.out r3)
  have HC6 := hidI hec
  clear r1 r2 r3 hec x0 x5
  have x0 := HT6.out.x0
  have x5 := HT6.out.x5
  go_wp2_with fail
  refine (emmove_any HT6.out.code 5 3).mono ?_
  rintro e w7 ⟨rfl, own7, r1, r2, r3⟩
  generalize hec : c6.move 5 3 = c7 at r1 r3
  have HT7 := hidI (HT6.out.next r1 r2)
  have HU7 := hidI (HU6.out.trans r2)
  have HL7 := hidI (Nat.le_trans HL6.out r3)
  replace HVfound := hidI (Nat.lt_of_lt_of_le HVfound.out r3)
  replace HVloop := hidI (Nat.lt_of_lt_of_le HVloop.out r3)
  replace HVmiss := hidI (Nat.lt_of_lt_of_le HVmiss.out r3)
  have HC7 := hidI hec
  clear r1 r2 r3 hec x0 x5
  have x0 := HT7.out.x0
  have x5 := HT7.out.x5
  go_wp2_with fail
  refine (emcalc_any HT7.out.code 1 5 5).mono ?_
  rintro e w8 ⟨rfl, own8, r1, r2, r3⟩
  generalize hec : c7.calc 1 5 5 = c8 at r1 r3
  have HT8 := hidI (HT7.out.next r1 r2)
  have HU8 := hidI (HU7.out.trans r2)
  have HL8 := hidI (Nat.le_trans HL7.out r3)
  replace HVfound := hidI (Nat.lt_of_lt_of_le HVfound.out r3)
  replace HVloop := hidI (Nat.lt_of_lt_of_le HVloop.out r3)
  replace HVmiss := hidI (Nat.lt_of_lt_of_le HVmiss.out r3)
  have HC8 := hidI hec
  clear r1 r2 r3 hec x0 x5
  have x0 := HT8.out.x0
  have x5 := HT8.out.x5
  go_wp2_with fail
  go_still_tail 9, (by kernel_rfl)
  go_wp2_with fail
  refine (emwith_any HT8.out.code.drew 1 5 t.log 4).mono ?_
  rintro e w9 ⟨rfl, own9, r1, r2, r3⟩
  generalize hec : c8.with_ 1 5 t.log 4 = c9 at r1 r3
  have HT9 := hidI (HT8.out.drew.next r1 r2)
  have HU9 := hidI (HU8.out.drew.trans r2)
  have HL9 := hidI (Nat.le_trans HL8.out r3)
  replace HVfound := hidI (Nat.lt_of_lt_of_le HVfound.out r3)
  replace HVloop := hidI (Nat.lt_of_lt_of_le HVloop.out r3)
  replace HVmiss := hidI (Nat.lt_of_lt_of_le HVmiss.out r3)
  have HC9 := hidI hec
  clear r1 r2 r3 hec x0 x5
  have x0 := HT9.out.x0
  have x5 := HT9.out.x5
  go_wp2_with fail
  refine (emload_any HT9.out.code 6 5 0).mono ?_
  rintro e w10 ⟨rfl, own10, r1, r2, r3⟩
  generalize hec : c9.load 6 5 0 = c10 at r1 r3
  have HT10 := hidI (HT9.out.next r1 r2)
  have HU10 := hidI (HU9.out.trans r2)
  have HL10 := hidI (Nat.le_trans HL9.out r3)
  replace HVfound := hidI (Nat.lt_of_lt_of_le HVfound.out r3)
  replace HVloop := hidI (Nat.lt_of_lt_of_le HVloop.out r3)
  replace HVmiss := hidI (Nat.lt_of_lt_of_le HVmiss.out r3)
  have HC10 := hidI hec
  clear r1 r2 r3 hec x0 x5
  have x0 := HT10.out.x0
  have x5 := HT10.out.x5
  go_wp2_with fail
  refine (emcalc_any HT10.out.code 2 6 1).mono ?_
  rintro e w11 ⟨rfl, own11, r1, r2, r3⟩
  generalize hec : c10.calc 2 6 1 = c11 at r1 r3
  have HT11 := hidI (HT10.out.next r1 r2)
  have HU11 := hidI (HU10.out.trans r2)
  have HL11 := hidI (Nat.le_trans HL10.out r3)
  replace HVfound := hidI (Nat.lt_of_lt_of_le HVfound.out r3)
  replace HVloop := hidI (Nat.lt_of_lt_of_le HVloop.out r3)
  replace HVmiss := hidI (Nat.lt_of_lt_of_le HVmiss.out r3)
  have HC11 := hidI hec
  clear r1 r2 r3 hec x0 x5
  have x0 := HT11.out.x0
  have x5 := HT11.out.x5
  go_wp2_with fail
  refine (zero_any HT11.out.code 6 HVfound.out (by have := HK.out; omega)).mono ?_
  rintro e w12 ⟨rfl, own12, r1, r2, r3⟩
  generalize hec : c11.zero 6 found = c12 at r1 r3
  have HT12 := hidI (HT11.out.next r1 r2)
  have HU12 := hidI (HU11.out.trans r2)
  have HL12 := hidI (Nat.le_trans HL11.out r3)
  replace HVfound := hidI (Nat.lt_of_lt_of_le HVfound.out r3)
  replace HVloop := hidI (Nat.lt_of_lt_of_le HVloop.out r3)
  replace HVmiss := hidI (Nat.lt_of_lt_of_le HVmiss.out r3)
  have HC12 := hidI hec
  clear r1 r2 r3 hec x0 x5
  have x0 := HT12.out.x0
  have x5 := HT12.out.x5
  go_wp2_with fail
  refine (jump_any HT12.out.code HVloop.out (by have := HK.out; omega)).mono ?_
  rintro e w13 ⟨rfl, own13, r1, r2, r3⟩
  generalize hec : c12.jump loop = c13 at r1 r3
  have HT13 := hidI (HT12.out.next r1 r2)
  have HU13 := hidI (HU12.out.trans r2)
  have HL13 := hidI (Nat.le_trans HL12.out r3)
  replace HVfound := hidI (Nat.lt_of_lt_of_le HVfound.out r3)
  replace HVloop := hidI (Nat.lt_of_lt_of_le HVloop.out r3)
  replace HVmiss := hidI (Nat.lt_of_lt_of_le HVmiss.out r3)
  have HC13 := hidI hec
  clear r1 r2 r3 hec x0 x5
  have x0 := HT13.out.x0
  have x5 := HT13.out.x5
  go_wp2_with fail
  refine (here_any HT13.out.code HVmiss.out).mono ?_
  rintro e w14 ⟨rfl, own14, r1, r2, r3⟩
  generalize hec : c13.here miss = c14 at r1 r3
  have HT14 := hidI (HT13.out.next r1 r2)
  have HU14 := hidI (HU13.out.trans r2)
  have HL14 := hidI (Nat.le_trans HL13.out r3)
  replace HVfound := hidI (Nat.lt_of_lt_of_le HVfound.out r3)
  replace HVloop := hidI (Nat.lt_of_lt_of_le HVloop.out r3)
  replace HVmiss := hidI (Nat.lt_of_lt_of_le HVmiss.out r3)
  have HC14 := hidI hec
  clear r1 r2 r3 hec x0 x5
  have x0 := HT14.out.x0
  have x5 := HT14.out.x5
  go_wp2_with fail
  go_end0
  have q1 := HC1.out
  have q2 := HC2.out
  have q3 := HC3.out
  have q4 := HC4.out
  have q5 := HC5.out
  have q6 := HC6.out
  have q7 := HC7.out
  have q8 := HC8.out
  have q9 := HC9.out
  have q10 := HC10.out
  have q11 := HC11.out
  have q12 := HC12.out
  have q13 := HC13.out
  have q14 := HC14.out
  have ploop := HFloop.out
  have pmiss := HFmiss.out
  subst q1 q2 q3 q4 q5 q6 q7 q8 q9 q10 q11 q12 q13 q14
  subst ploop pmiss
  exact ⟨rfl, own14, HT14.out, HU14.out, HL14.out⟩

def Cd.unless (t : TxC) (r : Int) (l : Nat) (c0 : Cd) : Cd :=
  let on := c0.labs.length
  let c1 := c0.label
  let c2 := c1.zero r on
  let c3 := c2.jump l
  let c4 := c3.here on
  c4
set_option maxRecDepth 100000 in
set_option maxHeartbeats 4000000 in
theorem txunless_any {c0 : Cd} {l : Nat} (h : TxAt w own br bc tv t c0 k) (ok : TxOk t) (r : Int) (hll : l < c0.labs.length) (hk : k ≤ 1099511000000) :
    Calls Tryz.prog 126 #[.pointer (some ⟨br, 0, none⟩), .int .u8 r, .int .i64 (l : Int)] w (EmT own w br bc tv t c0 (c0.unless t r l) (k + 3)) := by
  have HT0 := hidI h
  have OK := hidI ok
  have HK := hidI hk
  have HU0 := hidI (Turn.refl own w)
  have HL0 := hidI (Nat.le_refl c0.labs.length)
  have HVl := hidI hll
  have x0 := HT0.out.x0
  clear h ok hk hll
  go_enter Tryz.func126, Tryz.ntmps126
  go_wp2_with fail
  refine (label_any HT0.out.code (by have := HK.out; omega)).mono ?_
  rintro e w1 ⟨rfl, own1, r1, r2, r3⟩
  have r4 : c0.labs.length < (c0.label).labs.length := (by simp [Cd.label])
  generalize hec : c0.label = c1 at r1 r3 r4
  obtain ⟨on, hf⟩ : ∃ x, x = c0.labs.length := ⟨_, rfl⟩
  rw [← hf] at r4 ⊢
  have HT1 := hidI (HT0.out.next r1 r2)
  have HU1 := hidI (HU0.out.trans r2)
  have HL1 := hidI (Nat.le_trans HL0.out r3)
  replace HVl := hidI (Nat.lt_of_lt_of_le HVl.out r3)
  have HVon := hidI r4
  have HFon := hidI hf
  have HC1 := hidI hec
  clear r1 r2 r3 hec r4 hf x0
  have x0 := HT1.out.x0
  go_wp2_with fail
  refine (zero_any HT1.out.code r HVon.out (by have := HK.out; omega)).mono ?_
  rintro e w2 ⟨rfl, own2, r1, r2, r3⟩
  generalize hec : c1.zero r on = c2 at r1 r3
  have HT2 := hidI (HT1.out.next r1 r2)
  have HU2 := hidI (HU1.out.trans r2)
  have HL2 := hidI (Nat.le_trans HL1.out r3)
  replace HVl := hidI (Nat.lt_of_lt_of_le HVl.out r3)
  replace HVon := hidI (Nat.lt_of_lt_of_le HVon.out r3)
  have HC2 := hidI hec
  clear r1 r2 r3 hec x0
  have x0 := HT2.out.x0
  go_wp2_with fail
  refine (jump_any HT2.out.code HVl.out (by have := HK.out; omega)).mono ?_
  rintro e w3 ⟨rfl, own3, r1, r2, r3⟩
  generalize hec : c2.jump l = c3 at r1 r3
  have HT3 := hidI (HT2.out.next r1 r2)
  have HU3 := hidI (HU2.out.trans r2)
  have HL3 := hidI (Nat.le_trans HL2.out r3)
  replace HVl := hidI (Nat.lt_of_lt_of_le HVl.out r3)
  replace HVon := hidI (Nat.lt_of_lt_of_le HVon.out r3)
  have HC3 := hidI hec
  clear r1 r2 r3 hec x0
  have x0 := HT3.out.x0
  go_wp2_with fail
  refine (here_any HT3.out.code HVon.out).mono ?_
  rintro e w4 ⟨rfl, own4, r1, r2, r3⟩
  generalize hec : c3.here on = c4 at r1 r3
  have HT4 := hidI (HT3.out.next r1 r2)
  have HU4 := hidI (HU3.out.trans r2)
  have HL4 := hidI (Nat.le_trans HL3.out r3)
  replace HVl := hidI (Nat.lt_of_lt_of_le HVl.out r3)
  replace HVon := hidI (Nat.lt_of_lt_of_le HVon.out r3)
  have HC4 := hidI hec
  clear r1 r2 r3 hec x0
  have x0 := HT4.out.x0
  go_wp2_with fail
  go_end0
  have q1 := HC1.out
  have q2 := HC2.out
  have q3 := HC3.out
  have q4 := HC4.out
  have pon := HFon.out
  subst q1 q2 q3 q4
  subst pon
  exact ⟨rfl, own4, HT4.out, HU4.out, HL4.out⟩
end

section
open Go.RowKit Go.Maps

variable {w w' w1 w2 : World} {own own1 own2 : Nat → Prop} {bc k br : Nat} {tv : Value} {t : TxC}

def Cd.lock (t : TxC) (c0 : Cd) : Cd :=
  let c1 := c0.move 5 6
  let c2 := c1.with_ 1 5 (t.words + 2) 4
  c2
set_option maxRecDepth 100000 in
set_option maxHeartbeats 4000000 in
theorem txlock_any {c0 : Cd} (h : TxAt w own br bc tv t c0 k) (ok : TxOk t) (hk : k ≤ 1099511000000) :
    Calls Tryz.prog 134 #[.pointer (some ⟨br, 0, none⟩)] w (EmT own w br bc tv t c0 (c0.lock t) (k + 0)) := by
  have HT0 := hidI h
  have OK := hidI ok
  have HK := hidI hk
  have HU0 := hidI (Turn.refl own w)
  have HL0 := hidI (Nat.le_refl c0.labs.length)
  have x0 := HT0.out.x0
  have x1 := HT0.out.x1
  have e1 : IntKind.i64.wrap (t.words + 2) = t.words + 2 := IntWalk.i64_in _ (by have := ok.words; omega)
  clear h ok hk
  go_enter Tryz.func134, Tryz.ntmps134
  go_wp2_with fail
  refine (emmove_any HT0.out.code 5 6).mono ?_
  rintro e w1 ⟨rfl, own1, r1, r2, r3⟩
  generalize hec : c0.move 5 6 = c1 at r1 r3
  have HT1 := hidI (HT0.out.next r1 r2)
  have HU1 := hidI (HU0.out.trans r2)
  have HL1 := hidI (Nat.le_trans HL0.out r3)
  have HC1 := hidI hec
  clear r1 r2 r3 hec x0 x1
  have x0 := HT1.out.x0
  have x1 := HT1.out.x1
  go_wp2_with fail
  go_still_tail 10, (by kernel_rfl)
  go_wp2_with fail
  refine (emwith_any HT1.out.code.drew 1 5 (t.words + 2) 4).mono ?_
  rintro e w2 ⟨rfl, own2, r1, r2, r3⟩
  generalize hec : c1.with_ 1 5 (t.words + 2) 4 = c2 at r1 r3
  have HT2 := hidI (HT1.out.drew.next r1 r2)
  have HU2 := hidI (HU1.out.drew.trans r2)
  have HL2 := hidI (Nat.le_trans HL1.out r3)
  have HC2 := hidI hec
  clear r1 r2 r3 hec x0 x1
  have x0 := HT2.out.x0
  have x1 := HT2.out.x1
  go_wp2_with fail
  go_end0
  have q1 := HC1.out
  have q2 := HC2.out
  subst q1 q2
  exact ⟨rfl, own2, HT2.out, HU2.out, HL2.out⟩

def Cd.old (t : TxC) (c0 : Cd) : Cd :=
  let c1 := c0.move 5 6
  let c2 := c1.with_ 1 5 (t.base + 8) 4
  c2
set_option maxRecDepth 100000 in
set_option maxHeartbeats 4000000 in
theorem txold_any {c0 : Cd} (h : TxAt w own br bc tv t c0 k) (ok : TxOk t) (hk : k ≤ 1099511000000) :
    Calls Tryz.prog 136 #[.pointer (some ⟨br, 0, none⟩)] w (EmT own w br bc tv t c0 (c0.old t) (k + 0)) := by
  have HT0 := hidI h
  have OK := hidI ok
  have HK := hidI hk
  have HU0 := hidI (Turn.refl own w)
  have HL0 := hidI (Nat.le_refl c0.labs.length)
  have x0 := HT0.out.x0
  have x9 := HT0.out.x9
  have e1 : IntKind.i64.wrap (t.base + 8) = t.base + 8 := IntWalk.i64_in _ (by have := ok.base; omega)
  clear h ok hk
  go_enter Tryz.func136, Tryz.ntmps136
  go_wp2_with fail
  refine (emmove_any HT0.out.code 5 6).mono ?_
  rintro e w1 ⟨rfl, own1, r1, r2, r3⟩
  generalize hec : c0.move 5 6 = c1 at r1 r3
  have HT1 := hidI (HT0.out.next r1 r2)
  have HU1 := hidI (HU0.out.trans r2)
  have HL1 := hidI (Nat.le_trans HL0.out r3)
  have HC1 := hidI hec
  clear r1 r2 r3 hec x0 x9
  have x0 := HT1.out.x0
  have x9 := HT1.out.x9
  go_wp2_with fail
  go_still_tail 9, (by kernel_rfl)
  go_wp2_with fail
  refine (emwith_any HT1.out.code.drew 1 5 (t.base + 8) 4).mono ?_
  rintro e w2 ⟨rfl, own2, r1, r2, r3⟩
  generalize hec : c1.with_ 1 5 (t.base + 8) 4 = c2 at r1 r3
  have HT2 := hidI (HT1.out.drew.next r1 r2)
  have HU2 := hidI (HU1.out.drew.trans r2)
  have HL2 := hidI (Nat.le_trans HL1.out r3)
  have HC2 := hidI hec
  clear r1 r2 r3 hec x0 x9
  have x0 := HT2.out.x0
  have x9 := HT2.out.x9
  go_wp2_with fail
  go_end0
  have q1 := HC1.out
  have q2 := HC2.out
  subst q1 q2
  exact ⟨rfl, own2, HT2.out, HU2.out, HL2.out⟩

def Cd.start (t : TxC) (c0 : Cd) : Cd :=
  let c1 := c0.set 0 t.arena
  let c2 := c1.sto t 4 0
  c2
set_option maxRecDepth 100000 in
set_option maxHeartbeats 4000000 in
theorem txstart_any {c0 : Cd} (h : TxAt w own br bc tv t c0 k) (ok : TxOk t) (hk : k ≤ 1099511000000) :
    Calls Tryz.prog 55 #[.pointer (some ⟨br, 0, none⟩)] w (EmT own w br bc tv t c0 (c0.start t) (k + 0)) := by
  have HT0 := hidI h
  have OK := hidI ok
  have HK := hidI hk
  have HU0 := hidI (Turn.refl own w)
  have HL0 := hidI (Nat.le_refl c0.labs.length)
  have x0 := HT0.out.x0
  have x7 := HT0.out.x7
  clear h ok hk
  go_enter Tryz.func55, Tryz.ntmps55
  go_wp2_with fail
  go_still_tail 9, (by kernel_rfl)
  go_wp2_with fail
  refine (emset_any HT0.out.code.drew 0 t.arena).mono ?_
  rintro e w1 ⟨rfl, own1, r1, r2, r3⟩
  generalize hec : c0.set 0 t.arena = c1 at r1 r3
  have HT1 := hidI (HT0.out.drew.next r1 r2)
  have HU1 := hidI (HU0.out.drew.trans r2)
  have HL1 := hidI (Nat.le_trans HL0.out r3)
  have HC1 := hidI hec
  clear r1 r2 r3 hec x0 x7
  have x0 := HT1.out.x0
  have x7 := HT1.out.x7
  go_wp2_with fail
  refine (txput_any HT1.out OK.out 4 0 (by decide)).mono ?_
  rintro e w2 ⟨rfl, own2, r1, r2, r3⟩
  generalize hec : c1.sto t 4 0 = c2 at r1 r3
  have HT2 := hidI (r1)
  have HU2 := hidI (HU1.out.trans r2)
  have HL2 := hidI (Nat.le_trans HL1.out r3)
  have HC2 := hidI hec
  clear r1 r2 r3 hec x0 x7
  have x0 := HT2.out.x0
  have x7 := HT2.out.x7
  go_wp2_with fail
  go_end0
  have q1 := HC1.out
  have q2 := HC2.out
  subst q1 q2
  exact ⟨rfl, own2, HT2.out, HU2.out, HL2.out⟩

def Cd.abort (t : TxC) (c0 : Cd) : Cd :=
  let c1 := c0.note 8 7 7
  let c2 := c1.get t 1 5
  let c3 := c2.sto t 4 1
  c3
set_option maxRecDepth 100000 in
set_option maxHeartbeats 4000000 in
theorem txabort_any {c0 : Cd} (h : TxAt w own br bc tv t c0 k) (ok : TxOk t) (hk : k ≤ 1099511000000) :
    Calls Tryz.prog 94 #[.pointer (some ⟨br, 0, none⟩)] w (EmT own w br bc tv t c0 (c0.abort t) (k + 0)) := by
  have HT0 := hidI h
  have OK := hidI ok
  have HK := hidI hk
  have HU0 := hidI (Turn.refl own w)
  have HL0 := hidI (Nat.le_refl c0.labs.length)
  have x0 := HT0.out.x0
  clear h ok hk
  go_enter Tryz.func94, Tryz.ntmps94
  go_wp2_with fail
  refine (emnote_any HT0.out.code 8 7 7 (by decide)).mono ?_
  rintro e w1 ⟨rfl, own1, r1, r2, r3⟩
  generalize hec : c0.note 8 7 7 = c1 at r1 r3
  have HT1 := hidI (HT0.out.next r1 r2)
  have HU1 := hidI (HU0.out.trans r2)
  have HL1 := hidI (Nat.le_trans HL0.out r3)
  have HC1 := hidI hec
  clear r1 r2 r3 hec x0
  have x0 := HT1.out.x0
  go_wp2_with fail
  refine (txget_any HT1.out OK.out 1 5 (by decide)).mono ?_
  rintro e w2 ⟨rfl, own2, r1, r2, r3⟩
  generalize hec : c1.get t 1 5 = c2 at r1 r3
  have HT2 := hidI (r1)
  have HU2 := hidI (HU1.out.trans r2)
  have HL2 := hidI (Nat.le_trans HL1.out r3)
  have HC2 := hidI hec
  clear r1 r2 r3 hec x0
  have x0 := HT2.out.x0
  go_wp2_with fail
  refine (txput_any HT2.out OK.out 4 1 (by decide)).mono ?_
  rintro e w3 ⟨rfl, own3, r1, r2, r3⟩
  generalize hec : c2.sto t 4 1 = c3 at r1 r3
  have HT3 := hidI (r1)
  have HU3 := hidI (HU2.out.trans r2)
  have HL3 := hidI (Nat.le_trans HL2.out r3)
  have HC3 := hidI hec
  clear r1 r2 r3 hec x0
  have x0 := HT3.out.x0
  go_wp2_with fail
  go_end0
  have q1 := HC1.out
  have q2 := HC2.out
  have q3 := HC3.out
  subst q1 q2 q3
  exact ⟨rfl, own3, HT3.out, HU3.out, HL3.out⟩

def Cd.tell (t : TxC) (c0 : Cd) : Cd :=
  let loop := c0.labs.length
  let c1 := c0.label
  let fin := c1.labs.length
  let c2 := c1.label
  let c3 := c2.set 1 t.prints
  let c4 := c3.get t 2 3
  let c5 := c4.here loop
  let c6 := c5.zero 2 fin
  let c7 := c6.load 3 1 0
  let c8 := c7.out 3
  let c9 := c8.with_ 1 1 1 4
  let c10 := c9.with_ 2 2 1 4
  let c11 := c10.jump loop
  let c12 := c11.here fin
  c12
set_option maxRecDepth 100000 in
set_option maxHeartbeats 4000000 in
theorem txtell_any {c0 : Cd} (h : TxAt w own br bc tv t c0 k) (ok : TxOk t) (hk : k ≤ 1099510000000) :
    Calls Tryz.prog 137 #[.pointer (some ⟨br, 0, none⟩)] w (EmT own w br bc tv t c0 (c0.tell t) (k + 4)) := by
  have HT0 := hidI h
  have OK := hidI ok
  have HK := hidI hk
  have HU0 := hidI (Turn.refl own w)
  have HL0 := hidI (Nat.le_refl c0.labs.length)
  have x0 := HT0.out.x0
  have x6 := HT0.out.x6
  clear h ok hk
  go_enter Tryz.func137, Tryz.ntmps137
  go_wp2_with fail
  go_region_held3 (fun w' => w'.cell? ⟨br, 0, none⟩ = some (.pointer (some ⟨bc, 0, none⟩))) (first | assumption | simp only [World.cell?_drew, *]) (first
    | (go_at_call 85; refine (label_any HT1.out.code (by have := HK.out; omega)).mono ?_; rintro e w2 ⟨rfl, own2, r1, r2, r3⟩; have r4 : c1.labs.length < (c1.label).labs.length := (by simp [Cd.label]); generalize hec : c1.label = c2 at r1 r3 r4; obtain ⟨fin, hf⟩ : ∃ x, x = c1.labs.length := ⟨_, rfl⟩; rw [← hf] at r4 ⊢; have HT2 := hidI (HT1.out.next r1 r2); have HU2 := hidI (HU1.out.trans r2); have HL2 := hidI (Nat.le_trans HL1.out r3); replace HVloop := hidI (Nat.lt_of_lt_of_le HVloop.out r3); have HVfin := hidI r4; have HFfin := hidI hf; have HC2 := hidI hec; clear r1 r2 r3 hec r4 hf x0 x6; have x0 := HT2.out.x0; have x6 := HT2.out.x6)
    | (go_at_call 85; refine (label_any HT0.out.drew.code (by have := HK.out; omega)).mono ?_; rintro e w1 ⟨rfl, own1, r1, r2, r3⟩; have r4 : c0.labs.length < (c0.label).labs.length := (by simp [Cd.label]); generalize hec : c0.label = c1 at r1 r3 r4; obtain ⟨loop, hf⟩ : ∃ x, x = c0.labs.length := ⟨_, rfl⟩; rw [← hf] at r4 ⊢; have HT1 := hidI (HT0.out.drew.next r1 r2); have HU1 := hidI (HU0.out.drew.trans r2); have HL1 := hidI (Nat.le_trans HL0.out r3); have HVloop := hidI r4; have HFloop := hidI hf; have HC1 := hidI hec; clear r1 r2 r3 hec r4 hf x0 x6; have x0 := HT1.out.x0; have x6 := HT1.out.x6)
    )
  go_wp2_with fail
  go_still_tail 9, (by kernel_rfl)
  go_wp2_with fail
  refine (emset_any HT2.out.code.drew 1 t.prints).mono ?_
  rintro e w3 ⟨rfl, own3, r1, r2, r3⟩
  generalize hec : c2.set 1 t.prints = c3 at r1 r3
  have HT3 := hidI (HT2.out.drew.next r1 r2)
  have HU3 := hidI (HU2.out.drew.trans r2)
  have HL3 := hidI (Nat.le_trans HL2.out r3)
  replace HVloop := hidI (Nat.lt_of_lt_of_le HVloop.out r3)
  replace HVfin := hidI (Nat.lt_of_lt_of_le HVfin.out r3)
  have HC3 := hidI hec
  clear r1 r2 r3 hec x0 x6
  have x0 := HT3.out.x0
  have x6 := HT3.out.x6
  go_wp2_with fail
  refine (txget_any HT3.out OK.out 2 3 (by decide)).mono ?_
  rintro e w4 ⟨rfl, own4, r1, r2, r3⟩
  generalize hec : c3.get t 2 3 = c4 at r1 r3
  have HT4 := hidI (r1)
  have HU4 := hidI (HU3.out.trans r2)
  have HL4 := hidI (Nat.le_trans HL3.out r3)
  replace HVloop := hidI (Nat.lt_of_lt_of_le HVloop.out r3)
  replace HVfin := hidI (Nat.lt_of_lt_of_le HVfin.out r3)
  have HC4 := hidI hec
  clear r1 r2 r3 hec x0 x6
  have x0 := HT4.out.x0
  have x6 := HT4.out.x6
  go_wp2_with fail
  refine (here_any HT4.out.code HVloop.out).mono ?_
  rintro e w5 ⟨rfl, own5, r1, r2, r3⟩
  generalize hec : c4.here loop = c5 at r1 r3
  have HT5 := hidI (HT4.out.next r1 r2)
  have HU5 := hidI (HU4.out.trans r2)
  have HL5 := hidI (Nat.le_trans HL4.out r3)
  replace HVloop := hidI (Nat.lt_of_lt_of_le HVloop.out r3)
  replace HVfin := hidI (Nat.lt_of_lt_of_le HVfin.out r3)
  have HC5 := hidI hec
  clear r1 r2 r3 hec x0 x6
  have x0 := HT5.out.x0
  have x6 := HT5.out.x6
  go_wp2_with fail
  refine (zero_any HT5.out.code 2 HVfin.out (by have := HK.out; omega)).mono ?_
  rintro e w6 ⟨rfl, own6, r1, r2, r3⟩
  generalize hec : c5.zero 2 fin = c6 at r1 r3
  have HT6 := hidI (HT5.out.next r1 r2)
  have HU6 := hidI (HU5.out.trans r2)
  have HL6 := hidI (Nat.le_trans HL5.out r3)
  replace HVloop := hidI (Nat.lt_of_lt_of_le HVloop.out r3)
  replace HVfin := hidI (Nat.lt_of_lt_of_le HVfin.out r3)
  have HC6 := hidI hec
  clear r1 r2 r3 hec x0 x6
  have x0 := HT6.out.x0
  have x6 := HT6.out.x6
  go_wp2_with fail
  refine (emload_any HT6.out.code 3 1 0).mono ?_
  rintro e w7 ⟨rfl, own7, r1, r2, r3⟩
  generalize hec : c6.load 3 1 0 = c7 at r1 r3
  have HT7 := hidI (HT6.out.next r1 r2)
  have HU7 := hidI (HU6.out.trans r2)
  have HL7 := hidI (Nat.le_trans HL6.out r3)
  replace HVloop := hidI (Nat.lt_of_lt_of_le HVloop.out r3)
  replace HVfin := hidI (Nat.lt_of_lt_of_le HVfin.out r3)
  have HC7 := hidI hec
  clear r1 r2 r3 hec x0 x6
  have x0 := HT7.out.x0
  have x6 := HT7.out.x6
  go_wp2_with fail
  refine (emout_any HT7.out.code 3).mono ?_
  rintro e w8 ⟨rfl, own8, r1, r2, r3⟩
  generalize hec : c7.out 3 = c8 at r1 r3
  have HT8 := hidI (HT7.out.next r1 r2)
  have HU8 := hidI (HU7.out.trans r2)
  have HL8 := hidI (Nat.le_trans HL7.out r3)
  replace HVloop := hidI (Nat.lt_of_lt_of_le HVloop.out r3)
  replace HVfin := hidI (Nat.lt_of_lt_of_le HVfin.out r3)
  have HC8 := hidI hec
  clear r1 r2 r3 hec x0 x6
  have x0 := HT8.out.x0
  have x6 := HT8.out.x6
  go_wp2_with fail
  refine (emwith_any HT8.out.code 1 1 1 4).mono ?_
  rintro e w9 ⟨rfl, own9, r1, r2, r3⟩
  generalize hec : c8.with_ 1 1 1 4 = c9 at r1 r3
  have HT9 := hidI (HT8.out.next r1 r2)
  have HU9 := hidI (HU8.out.trans r2)
  have HL9 := hidI (Nat.le_trans HL8.out r3)
  replace HVloop := hidI (Nat.lt_of_lt_of_le HVloop.out r3)
  replace HVfin := hidI (Nat.lt_of_lt_of_le HVfin.out r3)
  have HC9 := hidI hec
  clear r1 r2 r3 hec x0 x6
  have x0 := HT9.out.x0
  have x6 := HT9.out.x6
  go_wp2_with fail
  refine (emwith_any HT9.out.code 2 2 1 4).mono ?_
  rintro e w10 ⟨rfl, own10, r1, r2, r3⟩
  generalize hec : c9.with_ 2 2 1 4 = c10 at r1 r3
  have HT10 := hidI (HT9.out.next r1 r2)
  have HU10 := hidI (HU9.out.trans r2)
  have HL10 := hidI (Nat.le_trans HL9.out r3)
  replace HVloop := hidI (Nat.lt_of_lt_of_le HVloop.out r3)
  replace HVfin := hidI (Nat.lt_of_lt_of_le HVfin.out r3)
  have HC10 := hidI hec
  clear r1 r2 r3 hec x0 x6
  have x0 := HT10.out.x0
  have x6 := HT10.out.x6
  go_wp2_with fail
  refine (jump_any HT10.out.code HVloop.out (by have := HK.out; omega)).mono ?_
  rintro e w11 ⟨rfl, own11, r1, r2, r3⟩
  generalize hec : c10.jump loop = c11 at r1 r3
  have HT11 := hidI (HT10.out.next r1 r2)
  have HU11 := hidI (HU10.out.trans r2)
  have HL11 := hidI (Nat.le_trans HL10.out r3)
  replace HVloop := hidI (Nat.lt_of_lt_of_le HVloop.out r3)
  replace HVfin := hidI (Nat.lt_of_lt_of_le HVfin.out r3)
  have HC11 := hidI hec
  clear r1 r2 r3 hec x0 x6
  have x0 := HT11.out.x0
  have x6 := HT11.out.x6
  go_wp2_with fail
  refine (here_any HT11.out.code HVfin.out).mono ?_
  rintro e w12 ⟨rfl, own12, r1, r2, r3⟩
  generalize hec : c11.here fin = c12 at r1 r3
  have HT12 := hidI (HT11.out.next r1 r2)
  have HU12 := hidI (HU11.out.trans r2)
  have HL12 := hidI (Nat.le_trans HL11.out r3)
  replace HVloop := hidI (Nat.lt_of_lt_of_le HVloop.out r3)
  replace HVfin := hidI (Nat.lt_of_lt_of_le HVfin.out r3)
  have HC12 := hidI hec
  clear r1 r2 r3 hec x0 x6
  have x0 := HT12.out.x0
  have x6 := HT12.out.x6
  go_wp2_with fail
  go_end0
  have q1 := HC1.out
  have q2 := HC2.out
  have q3 := HC3.out
  have q4 := HC4.out
  have q5 := HC5.out
  have q6 := HC6.out
  have q7 := HC7.out
  have q8 := HC8.out
  have q9 := HC9.out
  have q10 := HC10.out
  have q11 := HC11.out
  have q12 := HC12.out
  have ploop := HFloop.out
  have pfin := HFfin.out
  subst q1 q2 q3 q4 q5 q6 q7 q8 q9 q10 q11 q12
  subst ploop pfin
  exact ⟨rfl, own12, HT12.out, HU12.out, HL12.out⟩

def Cd.read (t : TxC) (abort : Nat) (c0 : Cd) : Cd :=
  let found := c0.labs.length
  let c1 := c0.label
  let dn := c1.labs.length
  let c2 := c1.label
  let c3 := c2.search t found
  let c4 := c3.move 5 1
  let c5 := c4.with_ 6 5 15 4
  let c6 := c5.move 0 5
  let c7 := c6.with_ 1 5 (t.words + 2) 4
  let c8 := c7.load 3 5 0
  let c9 := c8.move 6 3
  let c10 := c9.with_ 6 6 1 4
  let c11 := c10.unless t 6 abort
  let c12 := c11.move 6 3
  let c13 := c12.with_ 10 6 1 4
  let c14 := c13.get t 4 0
  let c15 := c14.calc 13 4 6
  let c16 := c15.unless t 4 abort
  let c17 := c16.load 2 1 0
  let c18 := c17.load 4 5 0
  let c19 := c18.calc 2 4 3
  let c20 := c19.unless t 4 abort
  let c21 := c20.set 4 1
  let c22 := c21.calc 9 4 0
  let c23 := c22.get t 6 1
  let c24 := c23.calc 7 6 4
  let c25 := c24.sto t 1 6
  let c26 := c25.jump dn
  let c27 := c26.here found
  let c28 := c27.load 2 5 1
  let c29 := c28.here dn
  let c30 := c29.note 2 1 2
  c30
set_option maxRecDepth 100000 in
set_option maxHeartbeats 4000000 in
theorem txread_any {c0 : Cd} {abort : Nat} (h : TxAt w own br bc tv t c0 k) (ok : TxOk t) (hlabort : abort < c0.labs.length) (hk : k ≤ 1099510000000) :
    Calls Tryz.prog 119 #[.pointer (some ⟨br, 0, none⟩), .int .i64 (abort : Int)] w (EmT own w br bc tv t c0 (c0.read t abort) (k + 17)) := by
  have HT0 := hidI h
  have OK := hidI ok
  have HK := hidI hk
  have HU0 := hidI (Turn.refl own w)
  have HL0 := hidI (Nat.le_refl c0.labs.length)
  have HVabort := hidI hlabort
  have x0 := HT0.out.x0
  have x1 := HT0.out.x1
  have e1 : IntKind.i64.wrap (t.words + 2) = t.words + 2 := IntWalk.i64_in _ (by have := ok.words; omega)
  clear h ok hk hlabort
  go_enter Tryz.func119, Tryz.ntmps119
  go_wp2_with fail
  go_region_held3 (fun w' => w'.cell? ⟨br, 0, none⟩ = some (.pointer (some ⟨bc, 0, none⟩))) (first | assumption | simp only [World.cell?_drew, *]) (first
    | (go_at_call 85; refine (label_any HT1.out.code (by have := HK.out; omega)).mono ?_; rintro e w2 ⟨rfl, own2, r1, r2, r3⟩; have r4 : c1.labs.length < (c1.label).labs.length := (by simp [Cd.label]); generalize hec : c1.label = c2 at r1 r3 r4; obtain ⟨dn, hf⟩ : ∃ x, x = c1.labs.length := ⟨_, rfl⟩; rw [← hf] at r4 ⊢; have HT2 := hidI (HT1.out.next r1 r2); have HU2 := hidI (HU1.out.trans r2); have HL2 := hidI (Nat.le_trans HL1.out r3); replace HVabort := hidI (Nat.lt_of_lt_of_le HVabort.out r3); replace HVfound := hidI (Nat.lt_of_lt_of_le HVfound.out r3); have HVdn := hidI r4; have HFdn := hidI hf; have HC2 := hidI hec; clear r1 r2 r3 hec r4 hf x0 x1; have x0 := HT2.out.x0; have x1 := HT2.out.x1)
    | (go_at_call 85; refine (label_any HT0.out.drew.code (by have := HK.out; omega)).mono ?_; rintro e w1 ⟨rfl, own1, r1, r2, r3⟩; have r4 : c0.labs.length < (c0.label).labs.length := (by simp [Cd.label]); generalize hec : c0.label = c1 at r1 r3 r4; obtain ⟨found, hf⟩ : ∃ x, x = c0.labs.length := ⟨_, rfl⟩; rw [← hf] at r4 ⊢; have HT1 := hidI (HT0.out.drew.next r1 r2); have HU1 := hidI (HU0.out.drew.trans r2); have HL1 := hidI (Nat.le_trans HL0.out r3); replace HVabort := hidI (Nat.lt_of_lt_of_le HVabort.out r3); have HVfound := hidI r4; have HFfound := hidI hf; have HC1 := hidI hec; clear r1 r2 r3 hec r4 hf x0 x1; have x0 := HT1.out.x0; have x1 := HT1.out.x1)
    )
  go_wp2_with fail
  refine (txsearch_any HT2.out OK.out  HVfound.out (by have := HK.out; omega)).mono ?_
  rintro e w3 ⟨rfl, own3, r1, r2, r3⟩
  generalize hec : c2.search t found = c3 at r1 r3
  have HT3 := hidI (r1)
  have HU3 := hidI (HU2.out.trans r2)
  have HL3 := hidI (Nat.le_trans HL2.out r3)
  replace HVabort := hidI (Nat.lt_of_lt_of_le HVabort.out r3)
  replace HVfound := hidI (Nat.lt_of_lt_of_le HVfound.out r3)
  replace HVdn := hidI (Nat.lt_of_lt_of_le HVdn.out r3)
  have HC3 := hidI hec
  clear r1 r2 r3 hec x0 x1
  have x0 := HT3.out.x0
  have x1 := HT3.out.x1
  go_wp2_with fail
  refine (emmove_any HT3.out.code 5 1).mono ?_
  rintro e w4 ⟨rfl, own4, r1, r2, r3⟩
  generalize hec : c3.move 5 1 = c4 at r1 r3
  have HT4 := hidI (HT3.out.next r1 r2)
  have HU4 := hidI (HU3.out.trans r2)
  have HL4 := hidI (Nat.le_trans HL3.out r3)
  replace HVabort := hidI (Nat.lt_of_lt_of_le HVabort.out r3)
  replace HVfound := hidI (Nat.lt_of_lt_of_le HVfound.out r3)
  replace HVdn := hidI (Nat.lt_of_lt_of_le HVdn.out r3)
  have HC4 := hidI hec
  clear r1 r2 r3 hec x0 x1
  have x0 := HT4.out.x0
  have x1 := HT4.out.x1
  go_wp2_with fail
  refine (emwith_any HT4.out.code 6 5 15 4).mono ?_
  rintro e w5 ⟨rfl, own5, r1, r2, r3⟩
  generalize hec : c4.with_ 6 5 15 4 = c5 at r1 r3
  have HT5 := hidI (HT4.out.next r1 r2)
  have HU5 := hidI (HU4.out.trans r2)
  have HL5 := hidI (Nat.le_trans HL4.out r3)
  replace HVabort := hidI (Nat.lt_of_lt_of_le HVabort.out r3)
  replace HVfound := hidI (Nat.lt_of_lt_of_le HVfound.out r3)
  replace HVdn := hidI (Nat.lt_of_lt_of_le HVdn.out r3)
  have HC5 := hidI hec
  clear r1 r2 r3 hec x0 x1
  have x0 := HT5.out.x0
  have x1 := HT5.out.x1
  go_wp2_with fail
  refine (emmove_any HT5.out.code 0 5).mono ?_
  rintro e w6 ⟨rfl, own6, r1, r2, r3⟩
  generalize hec : c5.move 0 5 = c6 at r1 r3
  have HT6 := hidI (HT5.out.next r1 r2)
  have HU6 := hidI (HU5.out.trans r2)
  have HL6 := hidI (Nat.le_trans HL5.out r3)
  replace HVabort := hidI (Nat.lt_of_lt_of_le HVabort.out r3)
  replace HVfound := hidI (Nat.lt_of_lt_of_le HVfound.out r3)
  replace HVdn := hidI (Nat.lt_of_lt_of_le HVdn.out r3)
  have HC6 := hidI hec
  clear r1 r2 r3 hec x0 x1
  have x0 := HT6.out.x0
  have x1 := HT6.out.x1
  go_wp2_with fail
  go_still_tail 10, (by kernel_rfl)
  go_wp2_with fail
  refine (emwith_any HT6.out.code.drew 1 5 (t.words + 2) 4).mono ?_
  rintro e w7 ⟨rfl, own7, r1, r2, r3⟩
  generalize hec : c6.with_ 1 5 (t.words + 2) 4 = c7 at r1 r3
  have HT7 := hidI (HT6.out.drew.next r1 r2)
  have HU7 := hidI (HU6.out.drew.trans r2)
  have HL7 := hidI (Nat.le_trans HL6.out r3)
  replace HVabort := hidI (Nat.lt_of_lt_of_le HVabort.out r3)
  replace HVfound := hidI (Nat.lt_of_lt_of_le HVfound.out r3)
  replace HVdn := hidI (Nat.lt_of_lt_of_le HVdn.out r3)
  have HC7 := hidI hec
  clear r1 r2 r3 hec x0 x1
  have x0 := HT7.out.x0
  have x1 := HT7.out.x1
  go_wp2_with fail
  refine (emload_any HT7.out.code 3 5 0).mono ?_
  rintro e w8 ⟨rfl, own8, r1, r2, r3⟩
  generalize hec : c7.load 3 5 0 = c8 at r1 r3
  have HT8 := hidI (HT7.out.next r1 r2)
  have HU8 := hidI (HU7.out.trans r2)
  have HL8 := hidI (Nat.le_trans HL7.out r3)
  replace HVabort := hidI (Nat.lt_of_lt_of_le HVabort.out r3)
  replace HVfound := hidI (Nat.lt_of_lt_of_le HVfound.out r3)
  replace HVdn := hidI (Nat.lt_of_lt_of_le HVdn.out r3)
  have HC8 := hidI hec
  clear r1 r2 r3 hec x0 x1
  have x0 := HT8.out.x0
  have x1 := HT8.out.x1
  go_wp2_with fail
  refine (emmove_any HT8.out.code 6 3).mono ?_
  rintro e w9 ⟨rfl, own9, r1, r2, r3⟩
  generalize hec : c8.move 6 3 = c9 at r1 r3
  have HT9 := hidI (HT8.out.next r1 r2)
  have HU9 := hidI (HU8.out.trans r2)
  have HL9 := hidI (Nat.le_trans HL8.out r3)
  replace HVabort := hidI (Nat.lt_of_lt_of_le HVabort.out r3)
  replace HVfound := hidI (Nat.lt_of_lt_of_le HVfound.out r3)
  replace HVdn := hidI (Nat.lt_of_lt_of_le HVdn.out r3)
  have HC9 := hidI hec
  clear r1 r2 r3 hec x0 x1
  have x0 := HT9.out.x0
  have x1 := HT9.out.x1
  go_wp2_with fail
  refine (emwith_any HT9.out.code 6 6 1 4).mono ?_
  rintro e w10 ⟨rfl, own10, r1, r2, r3⟩
  generalize hec : c9.with_ 6 6 1 4 = c10 at r1 r3
  have HT10 := hidI (HT9.out.next r1 r2)
  have HU10 := hidI (HU9.out.trans r2)
  have HL10 := hidI (Nat.le_trans HL9.out r3)
  replace HVabort := hidI (Nat.lt_of_lt_of_le HVabort.out r3)
  replace HVfound := hidI (Nat.lt_of_lt_of_le HVfound.out r3)
  replace HVdn := hidI (Nat.lt_of_lt_of_le HVdn.out r3)
  have HC10 := hidI hec
  clear r1 r2 r3 hec x0 x1
  have x0 := HT10.out.x0
  have x1 := HT10.out.x1
  go_wp2_with fail
  refine (txunless_any HT10.out OK.out 6 HVabort.out (by have := HK.out; omega)).mono ?_
  rintro e w11 ⟨rfl, own11, r1, r2, r3⟩
  generalize hec : c10.unless t 6 abort = c11 at r1 r3
  have HT11 := hidI (r1)
  have HU11 := hidI (HU10.out.trans r2)
  have HL11 := hidI (Nat.le_trans HL10.out r3)
  replace HVabort := hidI (Nat.lt_of_lt_of_le HVabort.out r3)
  replace HVfound := hidI (Nat.lt_of_lt_of_le HVfound.out r3)
  replace HVdn := hidI (Nat.lt_of_lt_of_le HVdn.out r3)
  have HC11 := hidI hec
  clear r1 r2 r3 hec x0 x1
  have x0 := HT11.out.x0
  have x1 := HT11.out.x1
  go_wp2_with fail
  refine (emmove_any HT11.out.code 6 3).mono ?_
  rintro e w12 ⟨rfl, own12, r1, r2, r3⟩
  generalize hec : c11.move 6 3 = c12 at r1 r3
  have HT12 := hidI (HT11.out.next r1 r2)
  have HU12 := hidI (HU11.out.trans r2)
  have HL12 := hidI (Nat.le_trans HL11.out r3)
  replace HVabort := hidI (Nat.lt_of_lt_of_le HVabort.out r3)
  replace HVfound := hidI (Nat.lt_of_lt_of_le HVfound.out r3)
  replace HVdn := hidI (Nat.lt_of_lt_of_le HVdn.out r3)
  have HC12 := hidI hec
  clear r1 r2 r3 hec x0 x1
  have x0 := HT12.out.x0
  have x1 := HT12.out.x1
  go_wp2_with fail
  refine (emwith_any HT12.out.code 10 6 1 4).mono ?_
  rintro e w13 ⟨rfl, own13, r1, r2, r3⟩
  generalize hec : c12.with_ 10 6 1 4 = c13 at r1 r3
  have HT13 := hidI (HT12.out.next r1 r2)
  have HU13 := hidI (HU12.out.trans r2)
  have HL13 := hidI (Nat.le_trans HL12.out r3)
  replace HVabort := hidI (Nat.lt_of_lt_of_le HVabort.out r3)
  replace HVfound := hidI (Nat.lt_of_lt_of_le HVfound.out r3)
  replace HVdn := hidI (Nat.lt_of_lt_of_le HVdn.out r3)
  have HC13 := hidI hec
  clear r1 r2 r3 hec x0 x1
  have x0 := HT13.out.x0
  have x1 := HT13.out.x1
  go_wp2_with fail
  refine (txget_any HT13.out OK.out 4 0 (by decide)).mono ?_
  rintro e w14 ⟨rfl, own14, r1, r2, r3⟩
  generalize hec : c13.get t 4 0 = c14 at r1 r3
  have HT14 := hidI (r1)
  have HU14 := hidI (HU13.out.trans r2)
  have HL14 := hidI (Nat.le_trans HL13.out r3)
  replace HVabort := hidI (Nat.lt_of_lt_of_le HVabort.out r3)
  replace HVfound := hidI (Nat.lt_of_lt_of_le HVfound.out r3)
  replace HVdn := hidI (Nat.lt_of_lt_of_le HVdn.out r3)
  have HC14 := hidI hec
  clear r1 r2 r3 hec x0 x1
  have x0 := HT14.out.x0
  have x1 := HT14.out.x1
  go_wp2_with fail
  refine (emcalc_any HT14.out.code 13 4 6).mono ?_
  rintro e w15 ⟨rfl, own15, r1, r2, r3⟩
  generalize hec : c14.calc 13 4 6 = c15 at r1 r3
  have HT15 := hidI (HT14.out.next r1 r2)
  have HU15 := hidI (HU14.out.trans r2)
  have HL15 := hidI (Nat.le_trans HL14.out r3)
  replace HVabort := hidI (Nat.lt_of_lt_of_le HVabort.out r3)
  replace HVfound := hidI (Nat.lt_of_lt_of_le HVfound.out r3)
  replace HVdn := hidI (Nat.lt_of_lt_of_le HVdn.out r3)
  have HC15 := hidI hec
  clear r1 r2 r3 hec x0 x1
  have x0 := HT15.out.x0
  have x1 := HT15.out.x1
  go_wp2_with fail
  refine (txunless_any HT15.out OK.out 4 HVabort.out (by have := HK.out; omega)).mono ?_
  rintro e w16 ⟨rfl, own16, r1, r2, r3⟩
  generalize hec : c15.unless t 4 abort = c16 at r1 r3
  have HT16 := hidI (r1)
  have HU16 := hidI (HU15.out.trans r2)
  have HL16 := hidI (Nat.le_trans HL15.out r3)
  replace HVabort := hidI (Nat.lt_of_lt_of_le HVabort.out r3)
  replace HVfound := hidI (Nat.lt_of_lt_of_le HVfound.out r3)
  replace HVdn := hidI (Nat.lt_of_lt_of_le HVdn.out r3)
  have HC16 := hidI hec
  clear r1 r2 r3 hec x0 x1
  have x0 := HT16.out.x0
  have x1 := HT16.out.x1
  go_wp2_with fail
  refine (emload_any HT16.out.code 2 1 0).mono ?_
  rintro e w17 ⟨rfl, own17, r1, r2, r3⟩
  generalize hec : c16.load 2 1 0 = c17 at r1 r3
  have HT17 := hidI (HT16.out.next r1 r2)
  have HU17 := hidI (HU16.out.trans r2)
  have HL17 := hidI (Nat.le_trans HL16.out r3)
  replace HVabort := hidI (Nat.lt_of_lt_of_le HVabort.out r3)
  replace HVfound := hidI (Nat.lt_of_lt_of_le HVfound.out r3)
  replace HVdn := hidI (Nat.lt_of_lt_of_le HVdn.out r3)
  have HC17 := hidI hec
  clear r1 r2 r3 hec x0 x1
  have x0 := HT17.out.x0
  have x1 := HT17.out.x1
  go_wp2_with fail
  refine (emload_any HT17.out.code 4 5 0).mono ?_
  rintro e w18 ⟨rfl, own18, r1, r2, r3⟩
  generalize hec : c17.load 4 5 0 = c18 at r1 r3
  have HT18 := hidI (HT17.out.next r1 r2)
  have HU18 := hidI (HU17.out.trans r2)
  have HL18 := hidI (Nat.le_trans HL17.out r3)
  replace HVabort := hidI (Nat.lt_of_lt_of_le HVabort.out r3)
  replace HVfound := hidI (Nat.lt_of_lt_of_le HVfound.out r3)
  replace HVdn := hidI (Nat.lt_of_lt_of_le HVdn.out r3)
  have HC18 := hidI hec
  clear r1 r2 r3 hec x0 x1
  have x0 := HT18.out.x0
  have x1 := HT18.out.x1
  go_wp2_with fail
  refine (emcalc_any HT18.out.code 2 4 3).mono ?_
  rintro e w19 ⟨rfl, own19, r1, r2, r3⟩
  generalize hec : c18.calc 2 4 3 = c19 at r1 r3
  have HT19 := hidI (HT18.out.next r1 r2)
  have HU19 := hidI (HU18.out.trans r2)
  have HL19 := hidI (Nat.le_trans HL18.out r3)
  replace HVabort := hidI (Nat.lt_of_lt_of_le HVabort.out r3)
  replace HVfound := hidI (Nat.lt_of_lt_of_le HVfound.out r3)
  replace HVdn := hidI (Nat.lt_of_lt_of_le HVdn.out r3)
  have HC19 := hidI hec
  clear r1 r2 r3 hec x0 x1
  have x0 := HT19.out.x0
  have x1 := HT19.out.x1
  go_wp2_with fail
  refine (txunless_any HT19.out OK.out 4 HVabort.out (by have := HK.out; omega)).mono ?_
  rintro e w20 ⟨rfl, own20, r1, r2, r3⟩
  generalize hec : c19.unless t 4 abort = c20 at r1 r3
  have HT20 := hidI (r1)
  have HU20 := hidI (HU19.out.trans r2)
  have HL20 := hidI (Nat.le_trans HL19.out r3)
  replace HVabort := hidI (Nat.lt_of_lt_of_le HVabort.out r3)
  replace HVfound := hidI (Nat.lt_of_lt_of_le HVfound.out r3)
  replace HVdn := hidI (Nat.lt_of_lt_of_le HVdn.out r3)
  have HC20 := hidI hec
  clear r1 r2 r3 hec x0 x1
  have x0 := HT20.out.x0
  have x1 := HT20.out.x1
  go_wp2_with fail
  refine (emset_any HT20.out.code 4 1).mono ?_
  rintro e w21 ⟨rfl, own21, r1, r2, r3⟩
  generalize hec : c20.set 4 1 = c21 at r1 r3
  have HT21 := hidI (HT20.out.next r1 r2)
  have HU21 := hidI (HU20.out.trans r2)
  have HL21 := hidI (Nat.le_trans HL20.out r3)
  replace HVabort := hidI (Nat.lt_of_lt_of_le HVabort.out r3)
  replace HVfound := hidI (Nat.lt_of_lt_of_le HVfound.out r3)
  replace HVdn := hidI (Nat.lt_of_lt_of_le HVdn.out r3)
  have HC21 := hidI hec
  clear r1 r2 r3 hec x0 x1
  have x0 := HT21.out.x0
  have x1 := HT21.out.x1
  go_wp2_with fail
  refine (emcalc_any HT21.out.code 9 4 0).mono ?_
  rintro e w22 ⟨rfl, own22, r1, r2, r3⟩
  generalize hec : c21.calc 9 4 0 = c22 at r1 r3
  have HT22 := hidI (HT21.out.next r1 r2)
  have HU22 := hidI (HU21.out.trans r2)
  have HL22 := hidI (Nat.le_trans HL21.out r3)
  replace HVabort := hidI (Nat.lt_of_lt_of_le HVabort.out r3)
  replace HVfound := hidI (Nat.lt_of_lt_of_le HVfound.out r3)
  replace HVdn := hidI (Nat.lt_of_lt_of_le HVdn.out r3)
  have HC22 := hidI hec
  clear r1 r2 r3 hec x0 x1
  have x0 := HT22.out.x0
  have x1 := HT22.out.x1
  go_wp2_with fail
  refine (txget_any HT22.out OK.out 6 1 (by decide)).mono ?_
  rintro e w23 ⟨rfl, own23, r1, r2, r3⟩
  generalize hec : c22.get t 6 1 = c23 at r1 r3
  have HT23 := hidI (r1)
  have HU23 := hidI (HU22.out.trans r2)
  have HL23 := hidI (Nat.le_trans HL22.out r3)
  replace HVabort := hidI (Nat.lt_of_lt_of_le HVabort.out r3)
  replace HVfound := hidI (Nat.lt_of_lt_of_le HVfound.out r3)
  replace HVdn := hidI (Nat.lt_of_lt_of_le HVdn.out r3)
  have HC23 := hidI hec
  clear r1 r2 r3 hec x0 x1
  have x0 := HT23.out.x0
  have x1 := HT23.out.x1
  go_wp2_with fail
  refine (emcalc_any HT23.out.code 7 6 4).mono ?_
  rintro e w24 ⟨rfl, own24, r1, r2, r3⟩
  generalize hec : c23.calc 7 6 4 = c24 at r1 r3
  have HT24 := hidI (HT23.out.next r1 r2)
  have HU24 := hidI (HU23.out.trans r2)
  have HL24 := hidI (Nat.le_trans HL23.out r3)
  replace HVabort := hidI (Nat.lt_of_lt_of_le HVabort.out r3)
  replace HVfound := hidI (Nat.lt_of_lt_of_le HVfound.out r3)
  replace HVdn := hidI (Nat.lt_of_lt_of_le HVdn.out r3)
  have HC24 := hidI hec
  clear r1 r2 r3 hec x0 x1
  have x0 := HT24.out.x0
  have x1 := HT24.out.x1
  go_wp2_with fail
  refine (txput_any HT24.out OK.out 1 6 (by decide)).mono ?_
  rintro e w25 ⟨rfl, own25, r1, r2, r3⟩
  generalize hec : c24.sto t 1 6 = c25 at r1 r3
  have HT25 := hidI (r1)
  have HU25 := hidI (HU24.out.trans r2)
  have HL25 := hidI (Nat.le_trans HL24.out r3)
  replace HVabort := hidI (Nat.lt_of_lt_of_le HVabort.out r3)
  replace HVfound := hidI (Nat.lt_of_lt_of_le HVfound.out r3)
  replace HVdn := hidI (Nat.lt_of_lt_of_le HVdn.out r3)
  have HC25 := hidI hec
  clear r1 r2 r3 hec x0 x1
  have x0 := HT25.out.x0
  have x1 := HT25.out.x1
  go_wp2_with fail
  refine (jump_any HT25.out.code HVdn.out (by have := HK.out; omega)).mono ?_
  rintro e w26 ⟨rfl, own26, r1, r2, r3⟩
  generalize hec : c25.jump dn = c26 at r1 r3
  have HT26 := hidI (HT25.out.next r1 r2)
  have HU26 := hidI (HU25.out.trans r2)
  have HL26 := hidI (Nat.le_trans HL25.out r3)
  replace HVabort := hidI (Nat.lt_of_lt_of_le HVabort.out r3)
  replace HVfound := hidI (Nat.lt_of_lt_of_le HVfound.out r3)
  replace HVdn := hidI (Nat.lt_of_lt_of_le HVdn.out r3)
  have HC26 := hidI hec
  clear r1 r2 r3 hec x0 x1
  have x0 := HT26.out.x0
  have x1 := HT26.out.x1
  go_wp2_with fail
  refine (here_any HT26.out.code HVfound.out).mono ?_
  rintro e w27 ⟨rfl, own27, r1, r2, r3⟩
  generalize hec : c26.here found = c27 at r1 r3
  have HT27 := hidI (HT26.out.next r1 r2)
  have HU27 := hidI (HU26.out.trans r2)
  have HL27 := hidI (Nat.le_trans HL26.out r3)
  replace HVabort := hidI (Nat.lt_of_lt_of_le HVabort.out r3)
  replace HVfound := hidI (Nat.lt_of_lt_of_le HVfound.out r3)
  replace HVdn := hidI (Nat.lt_of_lt_of_le HVdn.out r3)
  have HC27 := hidI hec
  clear r1 r2 r3 hec x0 x1
  have x0 := HT27.out.x0
  have x1 := HT27.out.x1
  go_wp2_with fail
  refine (emload_any HT27.out.code 2 5 1).mono ?_
  rintro e w28 ⟨rfl, own28, r1, r2, r3⟩
  generalize hec : c27.load 2 5 1 = c28 at r1 r3
  have HT28 := hidI (HT27.out.next r1 r2)
  have HU28 := hidI (HU27.out.trans r2)
  have HL28 := hidI (Nat.le_trans HL27.out r3)
  replace HVabort := hidI (Nat.lt_of_lt_of_le HVabort.out r3)
  replace HVfound := hidI (Nat.lt_of_lt_of_le HVfound.out r3)
  replace HVdn := hidI (Nat.lt_of_lt_of_le HVdn.out r3)
  have HC28 := hidI hec
  clear r1 r2 r3 hec x0 x1
  have x0 := HT28.out.x0
  have x1 := HT28.out.x1
  go_wp2_with fail
  refine (here_any HT28.out.code HVdn.out).mono ?_
  rintro e w29 ⟨rfl, own29, r1, r2, r3⟩
  generalize hec : c28.here dn = c29 at r1 r3
  have HT29 := hidI (HT28.out.next r1 r2)
  have HU29 := hidI (HU28.out.trans r2)
  have HL29 := hidI (Nat.le_trans HL28.out r3)
  replace HVabort := hidI (Nat.lt_of_lt_of_le HVabort.out r3)
  replace HVfound := hidI (Nat.lt_of_lt_of_le HVfound.out r3)
  replace HVdn := hidI (Nat.lt_of_lt_of_le HVdn.out r3)
  have HC29 := hidI hec
  clear r1 r2 r3 hec x0 x1
  have x0 := HT29.out.x0
  have x1 := HT29.out.x1
  go_wp2_with fail
  refine (emnote_any HT29.out.code 2 1 2 (by decide)).mono ?_
  rintro e w30 ⟨rfl, own30, r1, r2, r3⟩
  generalize hec : c29.note 2 1 2 = c30 at r1 r3
  have HT30 := hidI (HT29.out.next r1 r2)
  have HU30 := hidI (HU29.out.trans r2)
  have HL30 := hidI (Nat.le_trans HL29.out r3)
  replace HVabort := hidI (Nat.lt_of_lt_of_le HVabort.out r3)
  replace HVfound := hidI (Nat.lt_of_lt_of_le HVfound.out r3)
  replace HVdn := hidI (Nat.lt_of_lt_of_le HVdn.out r3)
  have HC30 := hidI hec
  clear r1 r2 r3 hec x0 x1
  have x0 := HT30.out.x0
  have x1 := HT30.out.x1
  go_wp2_with fail
  go_end0
  have q1 := HC1.out
  have q2 := HC2.out
  have q3 := HC3.out
  have q4 := HC4.out
  have q5 := HC5.out
  have q6 := HC6.out
  have q7 := HC7.out
  have q8 := HC8.out
  have q9 := HC9.out
  have q10 := HC10.out
  have q11 := HC11.out
  have q12 := HC12.out
  have q13 := HC13.out
  have q14 := HC14.out
  have q15 := HC15.out
  have q16 := HC16.out
  have q17 := HC17.out
  have q18 := HC18.out
  have q19 := HC19.out
  have q20 := HC20.out
  have q21 := HC21.out
  have q22 := HC22.out
  have q23 := HC23.out
  have q24 := HC24.out
  have q25 := HC25.out
  have q26 := HC26.out
  have q27 := HC27.out
  have q28 := HC28.out
  have q29 := HC29.out
  have q30 := HC30.out
  have pfound := HFfound.out
  have pdn := HFdn.out
  subst q1 q2 q3 q4 q5 q6 q7 q8 q9 q10 q11 q12 q13 q14 q15 q16 q17 q18 q19 q20 q21 q22 q23 q24 q25 q26 q27 q28 q29 q30
  subst pfound pdn
  exact ⟨rfl, own30, HT30.out, HU30.out, HL30.out⟩

def Cd.write (t : TxC) (c0 : Cd) : Cd :=
  let found := c0.labs.length
  let c1 := c0.label
  let dn := c1.labs.length
  let c2 := c1.label
  let room := c2.labs.length
  let c3 := c2.label
  let c4 := c3.search t found
  let c5 := c4.get t 3 2
  let c6 := c5.move 4 3
  let c7 := c6.with_ 13 4 64 6
  let c8 := c7.unless t 4 room
  let c9 := c8.trap 6
  let c10 := c9.here room
  let c11 := c10.move 5 3
  let c12 := c11.calc 1 5 5
  let c13 := c12.with_ 1 5 t.log 4
  let c14 := c13.store 5 0 1
  let c15 := c14.with_ 1 3 1 4
  let c16 := c15.sto t 2 3
  let c17 := c16.here found
  let c18 := c17.store 5 1 2
  let c19 := c18.here dn
  let c20 := c19.note 3 1 2
  c20
set_option maxRecDepth 100000 in
set_option maxHeartbeats 4000000 in
theorem txwrite_any {c0 : Cd} (h : TxAt w own br bc tv t c0 k) (ok : TxOk t) (hk : k ≤ 1099510000000) :
    Calls Tryz.prog 122 #[.pointer (some ⟨br, 0, none⟩)] w (EmT own w br bc tv t c0 (c0.write t) (k + 11)) := by
  have HT0 := hidI h
  have OK := hidI ok
  have HK := hidI hk
  have HU0 := hidI (Turn.refl own w)
  have HL0 := hidI (Nat.le_refl c0.labs.length)
  have x0 := HT0.out.x0
  have x5 := HT0.out.x5
  clear h ok hk
  go_enter Tryz.func122, Tryz.ntmps122
  go_wp2_with fail
  go_region_held3 (fun w' => w'.cell? ⟨br, 0, none⟩ = some (.pointer (some ⟨bc, 0, none⟩))) (first | assumption | simp only [World.cell?_drew, *]) (first
    | (go_at_call 85; refine (label_any HT2.out.code (by have := HK.out; omega)).mono ?_; rintro e w3 ⟨rfl, own3, r1, r2, r3⟩; have r4 : c2.labs.length < (c2.label).labs.length := (by simp [Cd.label]); generalize hec : c2.label = c3 at r1 r3 r4; obtain ⟨room, hf⟩ : ∃ x, x = c2.labs.length := ⟨_, rfl⟩; rw [← hf] at r4 ⊢; have HT3 := hidI (HT2.out.next r1 r2); have HU3 := hidI (HU2.out.trans r2); have HL3 := hidI (Nat.le_trans HL2.out r3); replace HVfound := hidI (Nat.lt_of_lt_of_le HVfound.out r3); replace HVdn := hidI (Nat.lt_of_lt_of_le HVdn.out r3); have HVroom := hidI r4; have HFroom := hidI hf; have HC3 := hidI hec; clear r1 r2 r3 hec r4 hf x0 x5; have x0 := HT3.out.x0; have x5 := HT3.out.x5)
    | (go_at_call 85; refine (label_any HT1.out.code (by have := HK.out; omega)).mono ?_; rintro e w2 ⟨rfl, own2, r1, r2, r3⟩; have r4 : c1.labs.length < (c1.label).labs.length := (by simp [Cd.label]); generalize hec : c1.label = c2 at r1 r3 r4; obtain ⟨dn, hf⟩ : ∃ x, x = c1.labs.length := ⟨_, rfl⟩; rw [← hf] at r4 ⊢; have HT2 := hidI (HT1.out.next r1 r2); have HU2 := hidI (HU1.out.trans r2); have HL2 := hidI (Nat.le_trans HL1.out r3); replace HVfound := hidI (Nat.lt_of_lt_of_le HVfound.out r3); have HVdn := hidI r4; have HFdn := hidI hf; have HC2 := hidI hec; clear r1 r2 r3 hec r4 hf x0 x5; have x0 := HT2.out.x0; have x5 := HT2.out.x5)
    | (go_at_call 85; refine (label_any HT0.out.drew.code (by have := HK.out; omega)).mono ?_; rintro e w1 ⟨rfl, own1, r1, r2, r3⟩; have r4 : c0.labs.length < (c0.label).labs.length := (by simp [Cd.label]); generalize hec : c0.label = c1 at r1 r3 r4; obtain ⟨found, hf⟩ : ∃ x, x = c0.labs.length := ⟨_, rfl⟩; rw [← hf] at r4 ⊢; have HT1 := hidI (HT0.out.drew.next r1 r2); have HU1 := hidI (HU0.out.drew.trans r2); have HL1 := hidI (Nat.le_trans HL0.out r3); have HVfound := hidI r4; have HFfound := hidI hf; have HC1 := hidI hec; clear r1 r2 r3 hec r4 hf x0 x5; have x0 := HT1.out.x0; have x5 := HT1.out.x5)
    )
  go_wp2_with fail
  refine (txsearch_any HT3.out OK.out  HVfound.out (by have := HK.out; omega)).mono ?_
  rintro e w4 ⟨rfl, own4, r1, r2, r3⟩
  generalize hec : c3.search t found = c4 at r1 r3
  have HT4 := hidI (r1)
  have HU4 := hidI (HU3.out.trans r2)
  have HL4 := hidI (Nat.le_trans HL3.out r3)
  replace HVfound := hidI (Nat.lt_of_lt_of_le HVfound.out r3)
  replace HVdn := hidI (Nat.lt_of_lt_of_le HVdn.out r3)
  replace HVroom := hidI (Nat.lt_of_lt_of_le HVroom.out r3)
  have HC4 := hidI hec
  clear r1 r2 r3 hec x0 x5
  have x0 := HT4.out.x0
  have x5 := HT4.out.x5
  go_wp2_with fail
  refine (txget_any HT4.out OK.out 3 2 (by decide)).mono ?_
  rintro e w5 ⟨rfl, own5, r1, r2, r3⟩
  generalize hec : c4.get t 3 2 = c5 at r1 r3
  have HT5 := hidI (r1)
  have HU5 := hidI (HU4.out.trans r2)
  have HL5 := hidI (Nat.le_trans HL4.out r3)
  replace HVfound := hidI (Nat.lt_of_lt_of_le HVfound.out r3)
  replace HVdn := hidI (Nat.lt_of_lt_of_le HVdn.out r3)
  replace HVroom := hidI (Nat.lt_of_lt_of_le HVroom.out r3)
  have HC5 := hidI hec
  clear r1 r2 r3 hec x0 x5
  have x0 := HT5.out.x0
  have x5 := HT5.out.x5
  go_wp2_with fail
  refine (emmove_any HT5.out.code 4 3).mono ?_
  rintro e w6 ⟨rfl, own6, r1, r2, r3⟩
  generalize hec : c5.move 4 3 = c6 at r1 r3
  have HT6 := hidI (HT5.out.next r1 r2)
  have HU6 := hidI (HU5.out.trans r2)
  have HL6 := hidI (Nat.le_trans HL5.out r3)
  replace HVfound := hidI (Nat.lt_of_lt_of_le HVfound.out r3)
  replace HVdn := hidI (Nat.lt_of_lt_of_le HVdn.out r3)
  replace HVroom := hidI (Nat.lt_of_lt_of_le HVroom.out r3)
  have HC6 := hidI hec
  clear r1 r2 r3 hec x0 x5
  have x0 := HT6.out.x0
  have x5 := HT6.out.x5
  go_wp2_with fail
  refine (emwith_any HT6.out.code 13 4 64 6).mono ?_
  rintro e w7 ⟨rfl, own7, r1, r2, r3⟩
  generalize hec : c6.with_ 13 4 64 6 = c7 at r1 r3
  have HT7 := hidI (HT6.out.next r1 r2)
  have HU7 := hidI (HU6.out.trans r2)
  have HL7 := hidI (Nat.le_trans HL6.out r3)
  replace HVfound := hidI (Nat.lt_of_lt_of_le HVfound.out r3)
  replace HVdn := hidI (Nat.lt_of_lt_of_le HVdn.out r3)
  replace HVroom := hidI (Nat.lt_of_lt_of_le HVroom.out r3)
  have HC7 := hidI hec
  clear r1 r2 r3 hec x0 x5
  have x0 := HT7.out.x0
  have x5 := HT7.out.x5
  go_wp2_with fail
  refine (txunless_any HT7.out OK.out 4 HVroom.out (by have := HK.out; omega)).mono ?_
  rintro e w8 ⟨rfl, own8, r1, r2, r3⟩
  generalize hec : c7.unless t 4 room = c8 at r1 r3
  have HT8 := hidI (r1)
  have HU8 := hidI (HU7.out.trans r2)
  have HL8 := hidI (Nat.le_trans HL7.out r3)
  replace HVfound := hidI (Nat.lt_of_lt_of_le HVfound.out r3)
  replace HVdn := hidI (Nat.lt_of_lt_of_le HVdn.out r3)
  replace HVroom := hidI (Nat.lt_of_lt_of_le HVroom.out r3)
  have HC8 := hidI hec
  clear r1 r2 r3 hec x0 x5
  have x0 := HT8.out.x0
  have x5 := HT8.out.x5
  go_wp2_with fail
  refine (emtrap_any HT8.out.code 6 (by decide)).mono ?_
  rintro e w9 ⟨rfl, own9, r1, r2, r3⟩
  generalize hec : c8.trap 6 = c9 at r1 r3
  have HT9 := hidI (HT8.out.next r1 r2)
  have HU9 := hidI (HU8.out.trans r2)
  have HL9 := hidI (Nat.le_trans HL8.out r3)
  replace HVfound := hidI (Nat.lt_of_lt_of_le HVfound.out r3)
  replace HVdn := hidI (Nat.lt_of_lt_of_le HVdn.out r3)
  replace HVroom := hidI (Nat.lt_of_lt_of_le HVroom.out r3)
  have HC9 := hidI hec
  clear r1 r2 r3 hec x0 x5
  have x0 := HT9.out.x0
  have x5 := HT9.out.x5
  go_wp2_with fail
  refine (here_any HT9.out.code HVroom.out).mono ?_
  rintro e w10 ⟨rfl, own10, r1, r2, r3⟩
  generalize hec : c9.here room = c10 at r1 r3
  have HT10 := hidI (HT9.out.next r1 r2)
  have HU10 := hidI (HU9.out.trans r2)
  have HL10 := hidI (Nat.le_trans HL9.out r3)
  replace HVfound := hidI (Nat.lt_of_lt_of_le HVfound.out r3)
  replace HVdn := hidI (Nat.lt_of_lt_of_le HVdn.out r3)
  replace HVroom := hidI (Nat.lt_of_lt_of_le HVroom.out r3)
  have HC10 := hidI hec
  clear r1 r2 r3 hec x0 x5
  have x0 := HT10.out.x0
  have x5 := HT10.out.x5
  go_wp2_with fail
  refine (emmove_any HT10.out.code 5 3).mono ?_
  rintro e w11 ⟨rfl, own11, r1, r2, r3⟩
  generalize hec : c10.move 5 3 = c11 at r1 r3
  have HT11 := hidI (HT10.out.next r1 r2)
  have HU11 := hidI (HU10.out.trans r2)
  have HL11 := hidI (Nat.le_trans HL10.out r3)
  replace HVfound := hidI (Nat.lt_of_lt_of_le HVfound.out r3)
  replace HVdn := hidI (Nat.lt_of_lt_of_le HVdn.out r3)
  replace HVroom := hidI (Nat.lt_of_lt_of_le HVroom.out r3)
  have HC11 := hidI hec
  clear r1 r2 r3 hec x0 x5
  have x0 := HT11.out.x0
  have x5 := HT11.out.x5
  go_wp2_with fail
  refine (emcalc_any HT11.out.code 1 5 5).mono ?_
  rintro e w12 ⟨rfl, own12, r1, r2, r3⟩
  generalize hec : c11.calc 1 5 5 = c12 at r1 r3
  have HT12 := hidI (HT11.out.next r1 r2)
  have HU12 := hidI (HU11.out.trans r2)
  have HL12 := hidI (Nat.le_trans HL11.out r3)
  replace HVfound := hidI (Nat.lt_of_lt_of_le HVfound.out r3)
  replace HVdn := hidI (Nat.lt_of_lt_of_le HVdn.out r3)
  replace HVroom := hidI (Nat.lt_of_lt_of_le HVroom.out r3)
  have HC12 := hidI hec
  clear r1 r2 r3 hec x0 x5
  have x0 := HT12.out.x0
  have x5 := HT12.out.x5
  go_wp2_with fail
  go_still_tail 9, (by kernel_rfl)
  go_wp2_with fail
  refine (emwith_any HT12.out.code.drew 1 5 t.log 4).mono ?_
  rintro e w13 ⟨rfl, own13, r1, r2, r3⟩
  generalize hec : c12.with_ 1 5 t.log 4 = c13 at r1 r3
  have HT13 := hidI (HT12.out.drew.next r1 r2)
  have HU13 := hidI (HU12.out.drew.trans r2)
  have HL13 := hidI (Nat.le_trans HL12.out r3)
  replace HVfound := hidI (Nat.lt_of_lt_of_le HVfound.out r3)
  replace HVdn := hidI (Nat.lt_of_lt_of_le HVdn.out r3)
  replace HVroom := hidI (Nat.lt_of_lt_of_le HVroom.out r3)
  have HC13 := hidI hec
  clear r1 r2 r3 hec x0 x5
  have x0 := HT13.out.x0
  have x5 := HT13.out.x5
  go_wp2_with fail
  refine (emstore_any HT13.out.code 5 0 1).mono ?_
  rintro e w14 ⟨rfl, own14, r1, r2, r3⟩
  generalize hec : c13.store 5 0 1 = c14 at r1 r3
  have HT14 := hidI (HT13.out.next r1 r2)
  have HU14 := hidI (HU13.out.trans r2)
  have HL14 := hidI (Nat.le_trans HL13.out r3)
  replace HVfound := hidI (Nat.lt_of_lt_of_le HVfound.out r3)
  replace HVdn := hidI (Nat.lt_of_lt_of_le HVdn.out r3)
  replace HVroom := hidI (Nat.lt_of_lt_of_le HVroom.out r3)
  have HC14 := hidI hec
  clear r1 r2 r3 hec x0 x5
  have x0 := HT14.out.x0
  have x5 := HT14.out.x5
  go_wp2_with fail
  refine (emwith_any HT14.out.code 1 3 1 4).mono ?_
  rintro e w15 ⟨rfl, own15, r1, r2, r3⟩
  generalize hec : c14.with_ 1 3 1 4 = c15 at r1 r3
  have HT15 := hidI (HT14.out.next r1 r2)
  have HU15 := hidI (HU14.out.trans r2)
  have HL15 := hidI (Nat.le_trans HL14.out r3)
  replace HVfound := hidI (Nat.lt_of_lt_of_le HVfound.out r3)
  replace HVdn := hidI (Nat.lt_of_lt_of_le HVdn.out r3)
  replace HVroom := hidI (Nat.lt_of_lt_of_le HVroom.out r3)
  have HC15 := hidI hec
  clear r1 r2 r3 hec x0 x5
  have x0 := HT15.out.x0
  have x5 := HT15.out.x5
  go_wp2_with fail
  refine (txput_any HT15.out OK.out 2 3 (by decide)).mono ?_
  rintro e w16 ⟨rfl, own16, r1, r2, r3⟩
  generalize hec : c15.sto t 2 3 = c16 at r1 r3
  have HT16 := hidI (r1)
  have HU16 := hidI (HU15.out.trans r2)
  have HL16 := hidI (Nat.le_trans HL15.out r3)
  replace HVfound := hidI (Nat.lt_of_lt_of_le HVfound.out r3)
  replace HVdn := hidI (Nat.lt_of_lt_of_le HVdn.out r3)
  replace HVroom := hidI (Nat.lt_of_lt_of_le HVroom.out r3)
  have HC16 := hidI hec
  clear r1 r2 r3 hec x0 x5
  have x0 := HT16.out.x0
  have x5 := HT16.out.x5
  go_wp2_with fail
  refine (here_any HT16.out.code HVfound.out).mono ?_
  rintro e w17 ⟨rfl, own17, r1, r2, r3⟩
  generalize hec : c16.here found = c17 at r1 r3
  have HT17 := hidI (HT16.out.next r1 r2)
  have HU17 := hidI (HU16.out.trans r2)
  have HL17 := hidI (Nat.le_trans HL16.out r3)
  replace HVfound := hidI (Nat.lt_of_lt_of_le HVfound.out r3)
  replace HVdn := hidI (Nat.lt_of_lt_of_le HVdn.out r3)
  replace HVroom := hidI (Nat.lt_of_lt_of_le HVroom.out r3)
  have HC17 := hidI hec
  clear r1 r2 r3 hec x0 x5
  have x0 := HT17.out.x0
  have x5 := HT17.out.x5
  go_wp2_with fail
  refine (emstore_any HT17.out.code 5 1 2).mono ?_
  rintro e w18 ⟨rfl, own18, r1, r2, r3⟩
  generalize hec : c17.store 5 1 2 = c18 at r1 r3
  have HT18 := hidI (HT17.out.next r1 r2)
  have HU18 := hidI (HU17.out.trans r2)
  have HL18 := hidI (Nat.le_trans HL17.out r3)
  replace HVfound := hidI (Nat.lt_of_lt_of_le HVfound.out r3)
  replace HVdn := hidI (Nat.lt_of_lt_of_le HVdn.out r3)
  replace HVroom := hidI (Nat.lt_of_lt_of_le HVroom.out r3)
  have HC18 := hidI hec
  clear r1 r2 r3 hec x0 x5
  have x0 := HT18.out.x0
  have x5 := HT18.out.x5
  go_wp2_with fail
  refine (here_any HT18.out.code HVdn.out).mono ?_
  rintro e w19 ⟨rfl, own19, r1, r2, r3⟩
  generalize hec : c18.here dn = c19 at r1 r3
  have HT19 := hidI (HT18.out.next r1 r2)
  have HU19 := hidI (HU18.out.trans r2)
  have HL19 := hidI (Nat.le_trans HL18.out r3)
  replace HVfound := hidI (Nat.lt_of_lt_of_le HVfound.out r3)
  replace HVdn := hidI (Nat.lt_of_lt_of_le HVdn.out r3)
  replace HVroom := hidI (Nat.lt_of_lt_of_le HVroom.out r3)
  have HC19 := hidI hec
  clear r1 r2 r3 hec x0 x5
  have x0 := HT19.out.x0
  have x5 := HT19.out.x5
  go_wp2_with fail
  refine (emnote_any HT19.out.code 3 1 2 (by decide)).mono ?_
  rintro e w20 ⟨rfl, own20, r1, r2, r3⟩
  generalize hec : c19.note 3 1 2 = c20 at r1 r3
  have HT20 := hidI (HT19.out.next r1 r2)
  have HU20 := hidI (HU19.out.trans r2)
  have HL20 := hidI (Nat.le_trans HL19.out r3)
  replace HVfound := hidI (Nat.lt_of_lt_of_le HVfound.out r3)
  replace HVdn := hidI (Nat.lt_of_lt_of_le HVdn.out r3)
  replace HVroom := hidI (Nat.lt_of_lt_of_le HVroom.out r3)
  have HC20 := hidI hec
  clear r1 r2 r3 hec x0 x5
  have x0 := HT20.out.x0
  have x5 := HT20.out.x5
  go_wp2_with fail
  go_end0
  have q1 := HC1.out
  have q2 := HC2.out
  have q3 := HC3.out
  have q4 := HC4.out
  have q5 := HC5.out
  have q6 := HC6.out
  have q7 := HC7.out
  have q8 := HC8.out
  have q9 := HC9.out
  have q10 := HC10.out
  have q11 := HC11.out
  have q12 := HC12.out
  have q13 := HC13.out
  have q14 := HC14.out
  have q15 := HC15.out
  have q16 := HC16.out
  have q17 := HC17.out
  have q18 := HC18.out
  have q19 := HC19.out
  have q20 := HC20.out
  have pfound := HFfound.out
  have pdn := HFdn.out
  have proom := HFroom.out
  subst q1 q2 q3 q4 q5 q6 q7 q8 q9 q10 q11 q12 q13 q14 q15 q16 q17 q18 q19 q20
  subst pfound pdn proom
  exact ⟨rfl, own20, HT20.out, HU20.out, HL20.out⟩
end

section
open Go.RowKit Go.Maps

variable {w w' w1 w2 : World} {own own1 own2 : Nat → Prop} {bc k br : Nat} {tv : Value} {t : TxC}

def Cd.locks1 (t : TxC) (c0 : Cd) : Cd :=
  let c1 := c0.load 3 5 0
  let c2 := c1.with_ 6 3 15 4
  let c3 := c2.set 4 1
  let c4 := c3.calc 9 4 3
  let c5 := c4.calc 7 2 4
  c5
set_option maxRecDepth 100000 in
set_option maxHeartbeats 4000000 in
theorem txlocks1_any {c0 : Cd} {ba : Nat} (h : TxAt w own br bc tv t c0 k) (ok : TxOk t) (hka : Keep w own ba (.cells #[.pointer (some ⟨br, 0, none⟩)] 166 (0, 0))) (hk : k ≤ 1099510000000) :
    Calls Tryz.prog 162 #[.pointer (some ⟨ba, 0, none⟩)] w (EmT own w br bc tv t c0 (c0.locks1 t) (k + 0)) := by
  have HT0 := hidI h
  have OK := hidI ok
  have HK := hidI hk
  have HU0 := hidI (Turn.refl own w)
  have HL0 := hidI (Nat.le_refl c0.labs.length)
  have HKa := hidI hka
  have x0 := HT0.out.x0
  have a0 := cell_of_block (o := 0) HKa.out.blk rfl
  clear h ok hk hka
  go_enter Tryz.func162, Tryz.ntmps162
  go_wp2_with fail
  refine (emload_any HT0.out.code 3 5 0).mono ?_
  rintro e w1 ⟨rfl, own1, r1, r2, r3⟩
  generalize hec : c0.load 3 5 0 = c1 at r1 r3
  have HT1 := hidI (HT0.out.next r1 r2)
  have HU1 := hidI (HU0.out.trans r2)
  have HL1 := hidI (Nat.le_trans HL0.out r3)
  replace HKa := hidI (HKa.out.turn r2)
  have HC1 := hidI hec
  clear r1 r2 r3 hec x0 a0
  have x0 := HT1.out.x0
  have a0 := cell_of_block (o := 0) HKa.out.blk rfl
  go_wp2_with fail
  refine (emwith_any HT1.out.code 6 3 15 4).mono ?_
  rintro e w2 ⟨rfl, own2, r1, r2, r3⟩
  generalize hec : c1.with_ 6 3 15 4 = c2 at r1 r3
  have HT2 := hidI (HT1.out.next r1 r2)
  have HU2 := hidI (HU1.out.trans r2)
  have HL2 := hidI (Nat.le_trans HL1.out r3)
  replace HKa := hidI (HKa.out.turn r2)
  have HC2 := hidI hec
  clear r1 r2 r3 hec x0 a0
  have x0 := HT2.out.x0
  have a0 := cell_of_block (o := 0) HKa.out.blk rfl
  go_wp2_with fail
  refine (emset_any HT2.out.code 4 1).mono ?_
  rintro e w3 ⟨rfl, own3, r1, r2, r3⟩
  generalize hec : c2.set 4 1 = c3 at r1 r3
  have HT3 := hidI (HT2.out.next r1 r2)
  have HU3 := hidI (HU2.out.trans r2)
  have HL3 := hidI (Nat.le_trans HL2.out r3)
  replace HKa := hidI (HKa.out.turn r2)
  have HC3 := hidI hec
  clear r1 r2 r3 hec x0 a0
  have x0 := HT3.out.x0
  have a0 := cell_of_block (o := 0) HKa.out.blk rfl
  go_wp2_with fail
  refine (emcalc_any HT3.out.code 9 4 3).mono ?_
  rintro e w4 ⟨rfl, own4, r1, r2, r3⟩
  generalize hec : c3.calc 9 4 3 = c4 at r1 r3
  have HT4 := hidI (HT3.out.next r1 r2)
  have HU4 := hidI (HU3.out.trans r2)
  have HL4 := hidI (Nat.le_trans HL3.out r3)
  replace HKa := hidI (HKa.out.turn r2)
  have HC4 := hidI hec
  clear r1 r2 r3 hec x0 a0
  have x0 := HT4.out.x0
  have a0 := cell_of_block (o := 0) HKa.out.blk rfl
  go_wp2_with fail
  refine (emcalc_any HT4.out.code 7 2 4).mono ?_
  rintro e w5 ⟨rfl, own5, r1, r2, r3⟩
  generalize hec : c4.calc 7 2 4 = c5 at r1 r3
  have HT5 := hidI (HT4.out.next r1 r2)
  have HU5 := hidI (HU4.out.trans r2)
  have HL5 := hidI (Nat.le_trans HL4.out r3)
  replace HKa := hidI (HKa.out.turn r2)
  have HC5 := hidI hec
  clear r1 r2 r3 hec x0 a0
  have x0 := HT5.out.x0
  have a0 := cell_of_block (o := 0) HKa.out.blk rfl
  go_wp2_with fail
  go_end0
  have q1 := HC1.out
  have q2 := HC2.out
  have q3 := HC3.out
  have q4 := HC4.out
  have q5 := HC5.out
  subst q1 q2 q3 q4 q5
  exact ⟨rfl, own5, HT5.out, HU5.out, HL5.out⟩

def Cd.commit1 (t : TxC) (c0 : Cd) : Cd :=
  let c1 := c0.load 2 5 0
  let c2 := c1.load 3 5 1
  let c3 := c2.store 2 0 3
  c3
set_option maxRecDepth 100000 in
set_option maxHeartbeats 4000000 in
theorem txcommit1_any {c0 : Cd} {ba : Nat} (h : TxAt w own br bc tv t c0 k) (ok : TxOk t) (hka : Keep w own ba (.cells #[.pointer (some ⟨br, 0, none⟩)] 166 (0, 0))) (hk : k ≤ 1099510000000) :
    Calls Tryz.prog 131 #[.pointer (some ⟨ba, 0, none⟩)] w (EmT own w br bc tv t c0 (c0.commit1 t) (k + 0)) := by
  have HT0 := hidI h
  have OK := hidI ok
  have HK := hidI hk
  have HU0 := hidI (Turn.refl own w)
  have HL0 := hidI (Nat.le_refl c0.labs.length)
  have HKa := hidI hka
  have x0 := HT0.out.x0
  have a0 := cell_of_block (o := 0) HKa.out.blk rfl
  clear h ok hk hka
  go_enter Tryz.func131, Tryz.ntmps131
  go_wp2_with fail
  refine (emload_any HT0.out.code 2 5 0).mono ?_
  rintro e w1 ⟨rfl, own1, r1, r2, r3⟩
  generalize hec : c0.load 2 5 0 = c1 at r1 r3
  have HT1 := hidI (HT0.out.next r1 r2)
  have HU1 := hidI (HU0.out.trans r2)
  have HL1 := hidI (Nat.le_trans HL0.out r3)
  replace HKa := hidI (HKa.out.turn r2)
  have HC1 := hidI hec
  clear r1 r2 r3 hec x0 a0
  have x0 := HT1.out.x0
  have a0 := cell_of_block (o := 0) HKa.out.blk rfl
  go_wp2_with fail
  refine (emload_any HT1.out.code 3 5 1).mono ?_
  rintro e w2 ⟨rfl, own2, r1, r2, r3⟩
  generalize hec : c1.load 3 5 1 = c2 at r1 r3
  have HT2 := hidI (HT1.out.next r1 r2)
  have HU2 := hidI (HU1.out.trans r2)
  have HL2 := hidI (Nat.le_trans HL1.out r3)
  replace HKa := hidI (HKa.out.turn r2)
  have HC2 := hidI hec
  clear r1 r2 r3 hec x0 a0
  have x0 := HT2.out.x0
  have a0 := cell_of_block (o := 0) HKa.out.blk rfl
  go_wp2_with fail
  refine (emstore_any HT2.out.code 2 0 3).mono ?_
  rintro e w3 ⟨rfl, own3, r1, r2, r3⟩
  generalize hec : c2.store 2 0 3 = c3 at r1 r3
  have HT3 := hidI (HT2.out.next r1 r2)
  have HU3 := hidI (HU2.out.trans r2)
  have HL3 := hidI (Nat.le_trans HL2.out r3)
  replace HKa := hidI (HKa.out.turn r2)
  have HC3 := hidI hec
  clear r1 r2 r3 hec x0 a0
  have x0 := HT3.out.x0
  have a0 := cell_of_block (o := 0) HKa.out.blk rfl
  go_wp2_with fail
  go_end0
  have q1 := HC1.out
  have q2 := HC2.out
  have q3 := HC3.out
  subst q1 q2 q3
  exact ⟨rfl, own3, HT3.out, HU3.out, HL3.out⟩

def Cd.commit2 (t : TxC) (c0 : Cd) : Cd :=
  let c1 := c0.lock t
  let c2 := c1.store 5 0 1
  c2
set_option maxRecDepth 100000 in
set_option maxHeartbeats 4000000 in
theorem txcommit2_any {c0 : Cd} {ba : Nat} (h : TxAt w own br bc tv t c0 k) (ok : TxOk t) (hka : Keep w own ba (.cells #[.pointer (some ⟨br, 0, none⟩)] 166 (0, 0))) (hk : k ≤ 1099510000000) :
    Calls Tryz.prog 133 #[.pointer (some ⟨ba, 0, none⟩)] w (EmT own w br bc tv t c0 (c0.commit2 t) (k + 0)) := by
  have HT0 := hidI h
  have OK := hidI ok
  have HK := hidI hk
  have HU0 := hidI (Turn.refl own w)
  have HL0 := hidI (Nat.le_refl c0.labs.length)
  have HKa := hidI hka
  have x0 := HT0.out.x0
  have a0 := cell_of_block (o := 0) HKa.out.blk rfl
  clear h ok hk hka
  go_enter Tryz.func133, Tryz.ntmps133
  go_wp2_with fail
  refine (txlock_any HT0.out OK.out  (by have := HK.out; omega)).mono ?_
  rintro e w1 ⟨rfl, own1, r1, r2, r3⟩
  generalize hec : c0.lock t = c1 at r1 r3
  have HT1 := hidI (r1)
  have HU1 := hidI (HU0.out.trans r2)
  have HL1 := hidI (Nat.le_trans HL0.out r3)
  replace HKa := hidI (HKa.out.turn r2)
  have HC1 := hidI hec
  clear r1 r2 r3 hec x0 a0
  have x0 := HT1.out.x0
  have a0 := cell_of_block (o := 0) HKa.out.blk rfl
  go_wp2_with fail
  refine (emstore_any HT1.out.code 5 0 1).mono ?_
  rintro e w2 ⟨rfl, own2, r1, r2, r3⟩
  generalize hec : c1.store 5 0 1 = c2 at r1 r3
  have HT2 := hidI (HT1.out.next r1 r2)
  have HU2 := hidI (HU1.out.trans r2)
  have HL2 := hidI (Nat.le_trans HL1.out r3)
  replace HKa := hidI (HKa.out.turn r2)
  have HC2 := hidI hec
  clear r1 r2 r3 hec x0 a0
  have x0 := HT2.out.x0
  have a0 := cell_of_block (o := 0) HKa.out.blk rfl
  go_wp2_with fail
  go_end0
  have q1 := HC1.out
  have q2 := HC2.out
  subst q1 q2
  exact ⟨rfl, own2, HT2.out, HU2.out, HL2.out⟩

def Cd.commit3 (t : TxC) (c0 : Cd) : Cd :=
  let c1 := c0.old t
  let c2 := c1.load 2 5 0
  let c3 := c2.lock t
  let c4 := c3.store 5 0 2
  c4
set_option maxRecDepth 100000 in
set_option maxHeartbeats 4000000 in
theorem txcommit3_any {c0 : Cd} {ba : Nat} (h : TxAt w own br bc tv t c0 k) (ok : TxOk t) (hka : Keep w own ba (.cells #[.pointer (some ⟨br, 0, none⟩)] 166 (0, 0))) (hk : k ≤ 1099510000000) :
    Calls Tryz.prog 135 #[.pointer (some ⟨ba, 0, none⟩)] w (EmT own w br bc tv t c0 (c0.commit3 t) (k + 0)) := by
  have HT0 := hidI h
  have OK := hidI ok
  have HK := hidI hk
  have HU0 := hidI (Turn.refl own w)
  have HL0 := hidI (Nat.le_refl c0.labs.length)
  have HKa := hidI hka
  have x0 := HT0.out.x0
  have a0 := cell_of_block (o := 0) HKa.out.blk rfl
  clear h ok hk hka
  go_enter Tryz.func135, Tryz.ntmps135
  go_wp2_with fail
  refine (txold_any HT0.out OK.out  (by have := HK.out; omega)).mono ?_
  rintro e w1 ⟨rfl, own1, r1, r2, r3⟩
  generalize hec : c0.old t = c1 at r1 r3
  have HT1 := hidI (r1)
  have HU1 := hidI (HU0.out.trans r2)
  have HL1 := hidI (Nat.le_trans HL0.out r3)
  replace HKa := hidI (HKa.out.turn r2)
  have HC1 := hidI hec
  clear r1 r2 r3 hec x0 a0
  have x0 := HT1.out.x0
  have a0 := cell_of_block (o := 0) HKa.out.blk rfl
  go_wp2_with fail
  refine (emload_any HT1.out.code 2 5 0).mono ?_
  rintro e w2 ⟨rfl, own2, r1, r2, r3⟩
  generalize hec : c1.load 2 5 0 = c2 at r1 r3
  have HT2 := hidI (HT1.out.next r1 r2)
  have HU2 := hidI (HU1.out.trans r2)
  have HL2 := hidI (Nat.le_trans HL1.out r3)
  replace HKa := hidI (HKa.out.turn r2)
  have HC2 := hidI hec
  clear r1 r2 r3 hec x0 a0
  have x0 := HT2.out.x0
  have a0 := cell_of_block (o := 0) HKa.out.blk rfl
  go_wp2_with fail
  refine (txlock_any HT2.out OK.out  (by have := HK.out; omega)).mono ?_
  rintro e w3 ⟨rfl, own3, r1, r2, r3⟩
  generalize hec : c2.lock t = c3 at r1 r3
  have HT3 := hidI (r1)
  have HU3 := hidI (HU2.out.trans r2)
  have HL3 := hidI (Nat.le_trans HL2.out r3)
  replace HKa := hidI (HKa.out.turn r2)
  have HC3 := hidI hec
  clear r1 r2 r3 hec x0 a0
  have x0 := HT3.out.x0
  have a0 := cell_of_block (o := 0) HKa.out.blk rfl
  go_wp2_with fail
  refine (emstore_any HT3.out.code 5 0 2).mono ?_
  rintro e w4 ⟨rfl, own4, r1, r2, r3⟩
  generalize hec : c3.store 5 0 2 = c4 at r1 r3
  have HT4 := hidI (HT3.out.next r1 r2)
  have HU4 := hidI (HU3.out.trans r2)
  have HL4 := hidI (Nat.le_trans HL3.out r3)
  replace HKa := hidI (HKa.out.turn r2)
  have HC4 := hidI hec
  clear r1 r2 r3 hec x0 a0
  have x0 := HT4.out.x0
  have a0 := cell_of_block (o := 0) HKa.out.blk rfl
  go_wp2_with fail
  go_end0
  have q1 := HC1.out
  have q2 := HC2.out
  have q3 := HC3.out
  have q4 := HC4.out
  subst q1 q2 q3 q4
  exact ⟨rfl, own4, HT4.out, HU4.out, HL4.out⟩
end

end Go.Proofs.YtopdcjimpdalpaaGreat

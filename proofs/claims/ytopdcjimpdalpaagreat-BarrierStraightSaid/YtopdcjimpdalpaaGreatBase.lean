/- Laws of use to all walks of this seat: what a call may have written; blocks and cells; append with its value in a slice's form. -/
import Derived.Test.YtopdcjimpdalpaaGreatRows
import Derived.WalkKit
import Derived.WalkSpells
import Derived.WalkLawsBesides
import Derived.Deep.QuietTactic
import Derived.BigQuiet
namespace Go.Proofs.YtopdcjimpdalpaaGreat
open Go.RowKit

theorem hidI {p : Prop} (h : p) : Hid p := h

/-- What is known behind a call that may have written the blocks of S alone, and has made new ones. -/
structure Chg (S : Nat → Prop) (w w' : World) : Prop where
  os : w'.os = w.os
  tape : w'.tape = w.tape
  output : w'.output = w.output
  size : w.heap.size ≤ w'.heap.size
  block : ∀ k, k < w.heap.size → ¬ S k → w'.heap[k]? = w.heap[k]?

theorem Chg.refl (S : Nat → Prop) (w : World) : Chg S w w := ⟨rfl, rfl, rfl, Nat.le_refl _, fun _ _ _ => rfl⟩

theorem Chg.setCell {S : Nat → Prop} {a w : World} (h : Chg S a w) {p : Addr} (hp : S p.block ∨ a.heap.size ≤ p.block) (u : Value) : Chg S a (w.setCell p u) :=
  ⟨h.os, h.tape, h.output, by simpa [World.setCell] using h.size, fun k hk hn => by
    rw [Below.heap_setCell _ _ _ _ (fun e => by rcases hp with hp | hp; exact hn (by rw [e]; exact hp); omega)]; exact h.block k hk hn⟩

theorem Chg.alloc {S : Nat → Prop} {a w : World} (h : Chg S a w) (o : Obj) : Chg S a (w.alloc o) :=
  ⟨h.os, h.tape, h.output, by have := h.size; simp; omega, fun k hk hn => by
    have := h.size
    rw [Below.heap_alloc _ _ _ (by omega)]; exact h.block k hk hn⟩

theorem Chg.drewN {S : Nat → Prop} {a w : World} (h : Chg S a w) (n : Nat) : Chg S a (w.drewN n) := ⟨h.os, h.tape, h.output, h.size, h.block⟩
theorem Chg.drew {S : Nat → Prop} {a w : World} (h : Chg S a w) : Chg S a w.drew := ⟨h.os, h.tape, h.output, h.size, h.block⟩

theorem Chg.trans {S : Nat → Prop} {a b c : World} (h : Chg S a b) (g : Chg S b c) : Chg S a c :=
  ⟨g.os.trans h.os, g.tape.trans h.tape, g.output.trans h.output, Nat.le_trans h.size g.size, fun k hk hn => by
    have := h.size
    rw [g.block k (by omega) hn]; exact h.block k hk hn⟩

/-- a call that writes other blocks, all of them in S or new -/
theorem Chg.then_ {S T : Nat → Prop} {a b c : World} (h : Chg S a b) (g : Chg T b c) (hs : ∀ k, k < a.heap.size → T k → S k) : Chg S a c :=
  ⟨g.os.trans h.os, g.tape.trans h.tape, g.output.trans h.output, Nat.le_trans h.size g.size, fun k hk hn => by
    have := h.size
    rw [g.block k (by omega) (fun ht => hn (hs k hk ht))]; exact h.block k hk hn⟩

theorem Chg.of_below {S : Nat → Prop} {a b : World} (h : Below a.heap.size a b) : Chg S a b := ⟨h.os, h.tape, h.output, h.size, fun k hk _ => h.block k hk⟩
theorem Chg.to_below {a b : World} {B : Nat} {S : Nat → Prop} (h : Chg S a b) (hB : B ≤ a.heap.size) (hs : ∀ k, S k → B ≤ k) : Below B a b :=
  ⟨h.os, h.tape, h.output, h.size, fun k hk => h.block k (by omega) (fun hk' => by have := hs k hk'; omega)⟩

theorem Chg.below {S : Nat → Prop} {a b c : World} {B : Nat} (h : Below B a b) (hB : B ≤ b.heap.size) (g : Chg S b c) (hs : ∀ k, S k → B ≤ k) : Below B a c :=
  h.trans (g.to_below hB hs)

theorem Chg.grown {S : Nat → Prop} {a w w' : World} {row : Option Nat} (h : Chg S a w) (hg : w.grownBy w' row) (hr : ∀ k, row = some k → S k ∨ a.heap.size ≤ k) : Chg S a w' :=
  ⟨hg.os.trans h.os, hg.tape.trans h.tape, hg.output.trans h.output, Nat.le_trans h.size hg.size, fun k hk hn => by
    have := h.size
    rw [hg.block k (by omega) (fun e => by rcases hr k e.symm with h | h; exact hn h; omega)]; exact h.block k hk hn⟩

theorem cell_of_block {w : World} {b o : Nat} {c : Array Value} {t : TypeId} {v : Value} (h : w.heap[b]? = some (.cells c t (0, 0))) (hv : c[o]? = some v) : w.cell? ⟨b, o, none⟩ = some v := by simp [World.cell?, h, hv]
theorem free_of_block {w : World} {b o : Nat} {c : Array Value} {t : TypeId} (h : w.heap[b]? = some (.cells c t (0, 0))) : w.frozen? ⟨b, o, none⟩ = false := by simp [World.frozen?, h]
theorem block_setCell {w : World} {b o : Nat} {c : Array Value} {t : TypeId} {f : Nat × Nat} (u : Value) (h : w.heap[b]? = some (.cells c t f)) : (w.setCell ⟨b, o, none⟩ u).heap[b]? = some (.cells (c.setIfInBounds o u) t f) := by
  have hlt := lt_of_block h
  have h' : w.heap[b] = .cells c t f := by simpa [Array.getElem?_eq_getElem hlt] using h
  show (w.heap.modify b _)[b]? = _
  rw [Array.getElem?_eq_getElem (by simpa using hlt), Array.getElem_modify_self, h']
  rfl
theorem block_alloc {w : World} {b : Nat} {o x : Obj} (h : w.heap[b]? = some x) : (w.alloc o).heap[b]? = some x := by
  rw [Below.heap_alloc _ _ _ (lt_of_block h)]; exact h
theorem block_other {w : World} {b : Nat} {a : Addr} {u : Value} {x : Obj} (h : w.heap[b]? = some x) (hn : b ≠ a.block) : (w.setCell a u).heap[b]? = some x := by
  rw [Below.heap_setCell _ _ _ _ hn]; exact h
/-- a block that was there, behind a call that writes nothing old -/
theorem blk {w w' : World} {b : Nat} {x : Obj} (hb : Below w.heap.size w w') (h : w.heap[b]? = some x) : w'.heap[b]? = some x := by
  rw [hb.block _ (lt_of_block h)]; exact h
theorem chgblk {S : Nat → Prop} {w w' : World} {b : Nat} {x : Obj} (hb : Chg S w w') (h : w.heap[b]? = some x) (hn : ¬ S b) : w'.heap[b]? = some x := by
  rw [hb.block _ (lt_of_block h) hn]; exact h
/-- calls that write nothing old, one behind the other -/
theorem bnext {a b c : World} (h : Below a.heap.size a b) (g : Below b.heap.size b c) : Below a.heap.size a c := h.trans (g.mono h.size)
theorem bnextA {a b c : World} {o : Obj} (h : Below a.heap.size a b) (g : Below (b.alloc o).heap.size (b.alloc o) c) : Below a.heap.size a c := bnext (h.alloc h.size o) g
theorem blkA {w w' : World} {o : Obj} {b : Nat} {x : Obj} (hb : Below (w.alloc o).heap.size (w.alloc o) w') (h : w.heap[b]? = some x) : w'.heap[b]? = some x := blk hb (block_alloc h)
theorem blkAA {w w' : World} {o o' : Obj} {b : Nat} {x : Obj} (hb : Below ((w.alloc o).alloc o').heap.size ((w.alloc o).alloc o') w') (h : w.heap[b]? = some x) : w'.heap[b]? = some x := blk hb (block_alloc (block_alloc h))
theorem bnextAA {a b c : World} {o o' : Obj} (h : Below a.heap.size a b) (g : Below ((b.alloc o).alloc o').heap.size ((b.alloc o).alloc o') c) : Below a.heap.size a c := bnextA (h.alloc h.size o) g
theorem block_new (w : World) (o : Obj) : (w.alloc o).heap[w.heap.size]? = some o := heap_alloc_new w o

theorem block_new2 (w : World) (o o' : Obj) : ((w.alloc o).alloc o').heap[w.heap.size + 1]? = some o' := by simpa using block_new (w.alloc o) o'

theorem ownsRow_chg {S : Nat → Prop} {w w' : World} {base : Nat} {e : TypeId} {size : Nat} {v : Value} {n : Nat} {xs : List Value} (h : w.ownsRow base e size v n xs) (g : Chg S w w') (hs : ∀ g, v.ownBlock = some g → ¬ S g) :
    w'.ownsRow base e size v n xs := by
  refine ⟨h.1, ?_⟩
  rcases h.2 with hn | ⟨g', cap, cur, rfl, hb, hgg, rest⟩
  · exact .inl hn
  · refine .inr ⟨g', cap, cur, rfl, hb, ?_, rest⟩
    rw [g.block g' (Array.getElem?_eq_some_iff.1 hgg).1 (hs g' rfl)]
    exact hgg

theorem ownsRow_shape {w : World} {base : Nat} {e : TypeId} {size : Nat} {v : Value} {n : Nat} {xs : List Value} (h : w.ownsRow base e size v n xs) : ∃ ao c, v = .slice ao n c := by
  rcases h.2 with ⟨rfl, rfl⟩ | ⟨g', cap, cur, rfl, _⟩
  · exact ⟨none, 0, rfl⟩
  · exact ⟨_, _, rfl⟩

theorem ownsRow_some {w : World} {base : Nat} {e : TypeId} {size : Nat} {ao : Option Addr} {n c : Nat} {xs : List Value} (h : w.ownsRow base e size (.slice ao n c) n xs) (hn : 0 < n) :
    ∃ g cur, ao = some ⟨g, 0, none⟩ ∧ base ≤ g ∧ w.heap[g]? = some (.cells cur e (0, 0)) ∧ n ≤ c ∧ ∀ (j : Nat) u, xs[j]? = some u → cur[j]? = some u := by
  rcases h.2 with ⟨hv, rfl⟩ | ⟨g', cap, cur, hv, hb, hg, hc, hm, hs, ht⟩
  · omega
  · simp only [Value.slice.injEq] at hv
    obtain ⟨rfl, -, rfl⟩ := hv
    refine ⟨g', cur, rfl, hb, hg, hc, fun j u hj => ?_⟩
    rw [← ht, List.getElem?_take] at hj
    split at hj
    · simpa using hj
    · cases hj

theorem ownsRow_mono {w : World} {base base' : Nat} {e : TypeId} {size : Nat} {v : Value} {n : Nat} {xs : List Value} (h : w.ownsRow base e size v n xs) (hb : base' ≤ base) : w.ownsRow base' e size v n xs := by
  refine ⟨h.1, ?_⟩
  rcases h.2 with hn | ⟨g', cap, cur, rfl, hg, r⟩
  · exact .inl hn
  · exact .inr ⟨g', cap, cur, rfl, by omega, r⟩

/-- append, its value told as a slice -/
theorem wpList_append_s {P : Program} (w : World) {ops : Array Oper} {rest : List Oper} {o : Oper} {a : Act} {Q : Exit → Act → World → Prop} (hgd : o.guard = none) (s x : Operand) (t : TypeId)
    (ho : o.op = .call { callee := .builtin .append, args := #[s, x], argTypes := #[t, t] })
    (base : Nat) (e : TypeId) (i : TypeInfo) (z : Value) (size bytes : Nat) (ht : P.underlying t = some (.slice e)) (hi : P.info? e = some i) (hz : i.zero = some z)
    (hsize : i.size = size) (hby : i.bytes = bytes) (hzs : z.cells.size = size) (hsz : 0 < size)
    (v : Value) (n : Nat) (xs : List Value) (hs : a.eval s = v) (hown : w.ownsRow base e size v n xs)
    (ad : Addr) (m c : Nat) (news : List Value) (hx : a.eval x = .slice (some ad) m c) (hl : news.length = m * size) (hnews : ∀ j u, news[j]? = some u → w.cell? (ad.add j) = some u) (h1 : ∀ u ∈ news, u.oneCell' = true)
    (h63 : n + m ≤ maxLen) (hbytes : (n + m) * bytes ≤ 140737488355328) (hbase : base ≤ w.heap.size)
    (h : ∀ ao cp w', w'.ownsRow base e size (.slice ao (n + m) cp) (n + m) (xs ++ news) → w.grownBy w' v.ownBlock → wpList P ops Q rest (a.put o.dst (.slice ao (n + m) cp)) w') : wpList P ops Q (o :: rest) a w := by
  refine wpList_append_own w hgd s x t ho base e i z size bytes ht hi hz hsize hby hzs hsz v n xs hs hown ad m c news hx hl hnews h1 h63 hbytes hbase ?_
  intro v' w' h1 h2 _
  obtain ⟨ao, cp, rfl⟩ := ownsRow_shape h1
  exact h ao cp w' h1 h2

/-- the cells of a new block of literal cells, as append asks for them -/
theorem news_at {w : World} {b : Nat} {t : TypeId} {cs : List Value} (h : w.heap[b]? = some (.cells cs.toArray t (0, 0))) : ∀ j u, cs[j]? = some u → w.cell? ((⟨b, 0, none⟩ : Addr).add j) = some u := by
  intro j u hj
  have : (⟨b, 0, none⟩ : Addr).add j = ⟨b, j, none⟩ := by unfold Addr.add; split <;> simp_all
  rw [this]
  exact cell_of_block h (by simpa using hj)

def nth (zs : List Int) (k : Nat) : Int := zs.getD k 0
theorem take_snoc_nth (zs : List Int) (k : Nat) (h : k < zs.length) : zs.take (k + 1) = zs.take k ++ [nth zs k] := by
  rw [List.take_succ_eq_append_getElem h]; simp [nth, h]

/-- a slice value that reads as integers -/
def Ints (w : World) (v : Value) (zs : List Int) : Prop :=
  ∃ ao cap, v = .slice ao zs.length cap ∧ zs.length ≤ cap ∧ ∀ i, i < zs.length → ∃ b off, ao = some ⟨b, off, none⟩ ∧ b < w.heap.size ∧ w.cell? ⟨b, off + i, none⟩ = some (.int .i64 (nth zs i))

theorem Ints.at {w : World} {ao : Option Addr} {zs : List Int} {cap k : Nat} (h : Ints w (.slice ao zs.length cap) zs) (hk : k < zs.length) :
    ∃ b off, ao = some ⟨b, off, none⟩ ∧ b < w.heap.size ∧ w.cell? ⟨b, off + k, none⟩ = some (.int .i64 (nth zs k)) := by
  obtain ⟨ao', cap', he, _, hcell⟩ := h
  simp only [Value.slice.injEq, true_and] at he
  obtain ⟨rfl, -⟩ := he
  exact hcell k hk

/-! ### A region that draws its order, whose operations only read old memory and whose callees may make new memory: one walk, in the order of the text -/

/-- w with more blocks behind, and draws -/
structure Ext where
  tail : Array Obj
  n : Nat
instance : Inhabited Ext := ⟨⟨#[], 0⟩⟩
def ext (w : World) (t : Ext) : World := { w with heap := w.heap ++ t.tail, drawn := t.n }

theorem ext_below (w : World) (t : Ext) : Below w.heap.size w (ext w t) :=
  ⟨rfl, rfl, rfl, by simp [ext], fun k hk => by simp only [ext]; rw [Array.getElem?_append_left hk]⟩

theorem below_ext {w w' : World} (h : Below w.heap.size w w') : ∃ t, w' = ext w t := by
  refine ⟨⟨w'.heap.extract w.heap.size w'.heap.size, w'.drawn⟩, ?_⟩
  cases w with | mk h1 t1 d1 o1 p1 =>
  cases w' with | mk h2 t2 d2 o2 p2 =>
  obtain ⟨e1, e2, e3, e4, e5⟩ := h
  simp only at e1 e2 e3 e4 e5
  subst e1; subst e2; subst e3
  have : h2 = h1 ++ h2.extract h1.size h2.size := by
    apply Array.ext_getElem?
    intro i
    rcases Nat.lt_or_ge i h1.size with hi | hi
    · rw [Array.getElem?_append_left hi, e5 i hi]
    · rw [Array.getElem?_append_right hi]
      simp only [Array.getElem?_extract]
      split
      · congr 1; omega
      · rw [Array.getElem?_eq_none (by omega)]
  simp only [ext]
  rw [← this]

theorem ext_cell {w : World} {a : Addr} {v : Value} (h : w.cell? a = some v) (t : Ext) : (ext w t).cell? a = some v := by
  rw [(ext_below w t).cell (World.block_lt_of_cell? w a h)]; exact h

theorem ext_block {w : World} {b : Nat} {x : Obj} (h : w.heap[b]? = some x) (t : Ext) : (ext w t).heap[b]? = some x := blk (ext_below w t) h

theorem wp_region_grow {P : Program} {id : Nat} {Q : Exit → Act → World → Prop} {a : Act} {w : World} {l : List Oper} (hm : P.follows .mixedOrders = true) (hB : Region.lexB .any l.toArray = true)
    (h : wpQuiet P l.toArray (fun w' => ∃ t, w' = ext w t) (fun a' => ∀ w', Below w.heap.size w w' → Q .normal a' w') l a) : (Code.region id l.toArray true).wp P Q a w :=
  wp_region_quiet (C := fun w' => ∃ t, w' = ext w t) hm hB ⟨⟨#[], w.drawn + 1⟩, by simp [ext]⟩ (by
    have e : (fun a' => ∀ w', (∃ t, w' = ext w t) → Q .normal a' w') = (fun a' => ∀ w', Below w.heap.size w w' → Q .normal a' w') := by
      funext a'
      exact propext ⟨fun h w' hw => h w' (below_ext hw), fun h w' ⟨t, e⟩ => by rw [e]; exact h _ (ext_below w t)⟩
    rw [e]
    simpa using h)

/-- a callee that makes new memory alone, met in such a region -/
theorem grow_of {P : Program} {f : FuncId} {args : Array Value} {w : World} {t : Ext} {v : Value}
    (h : Calls P f args (ext w t) fun e w' => e = .returned v ∧ Below (ext w t).heap.size (ext w t) w') : Calls P f args (ext w t) fun e w'' => e = .returned v ∧ ∃ t', w'' = ext w t' :=
  h.mono fun _ _ ⟨he, hb⟩ => ⟨he, below_ext (bnext (ext_below w t) hb)⟩
theorem grow_of_same {P : Program} {f : FuncId} {args : Array Value} {w : World} {t : Ext} {v : Value}
    (h : Calls P f args (ext w t) fun e w' => e = .returned v ∧ w' = ext w t) : Calls P f args (ext w t) fun e w'' => e = .returned v ∧ ∃ t', w'' = ext w t' :=
  h.mono fun _ _ ⟨he, hb⟩ => ⟨he, t, hb⟩

/-! ### a & 1, a & 15 -/
theorem bv_mod (x : Int) (j : Nat) (hj : j ≤ 64) : ((BitVec.ofInt 64 x &&& BitVec.ofNat 64 (2 ^ j - 1)).toNat : Int) = x % 2 ^ j := by
  have h1 : 2 ^ j - 1 < 2 ^ 64 := Nat.lt_of_lt_of_le (Nat.sub_lt (Nat.two_pow_pos j) (by decide)) (Nat.pow_le_pow_right (by decide) hj)
  rw [BitVec.toNat_and, BitVec.toNat_ofNat, Nat.mod_eq_of_lt h1, Nat.and_two_pow_sub_one_eq_mod, BitVec.toNat_ofInt, Int.natCast_emod]
  rw [Int.toNat_of_nonneg (Int.emod_nonneg _ (by decide))]
  rw [Int.natCast_pow]
  have hd : ((2 : Nat) : Int) ^ j ∣ ((2 ^ 64 : Nat) : Int) := by
    rw [Int.natCast_pow]
    exact ⟨((2 : Nat) : Int) ^ (64 - j), by rw [← Int.pow_add]; congr 1; omega⟩
  exact Int.emod_emod_of_dvd _ hd
theorem and_mask (x : Int) (j : Nat) (hj : j ≤ 32) : bits BinOp.and IntKind.i64 x ((2 ^ j - 1 : Nat) : Int) = x % 2 ^ j := by
  have h := bv_mod x j (by omega)
  have hp : (2 : Int) ^ j ≤ 2 ^ 32 := by
    have := Nat.pow_le_pow_right (n := 2) (by decide) hj
    exact_mod_cast this
  have h0 : 0 ≤ x % 2 ^ j := Int.emod_nonneg x (b := 2 ^ j) (Int.ne_of_gt (Int.pow_pos (by decide)))
  have h1 : x % 2 ^ j < 2 ^ j := Int.emod_lt_of_pos x (b := 2 ^ j) (Int.pow_pos (by decide))
  unfold bits
  show IntKind.i64.wrap ((BitVec.ofInt 64 x &&& BitVec.ofInt 64 ((2 ^ j - 1 : Nat) : Int)).toNat : Int) = _
  rw [BitVec.ofInt_natCast, h, IntKind.wrap_i64]
  have : (2 : Int) ^ 32 = 4294967296 := by decide
  omega
theorem and_1 (x : Int) : bits BinOp.and IntKind.i64 x 1 = x % 2 := and_mask x 1 (by decide)
theorem and_15 (x : Int) : bits BinOp.and IntKind.i64 x 15 = x % 16 := and_mask x 4 (by decide)
theorem and_7 (x : Int) : bits BinOp.and IntKind.i64 x 7 = x % 8 := and_mask x 3 (by decide)

end Go.Proofs.YtopdcjimpdalpaaGreat

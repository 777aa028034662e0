/- Part of the proof: TsoSpec, Step -/
import Derived.Test.YtgodmogkhgilmaaGreatDoorP02
import Derived.Test.YtgodmogkhgilmaaGreatDoorP03
import Derived.Test.YtgodmogkhgilmaaGreatDoorP04
import Derived.Deep.RegionLawGrows
import Derived.BigRegion
namespace Go.Proofs.YtgodmogkhgilmaaGreatDoor
open Go.RowKit
set_option linter.unusedVariables false
set_option linter.unusedSimpArgs false
structure MT where
  code : List OpD
  reg : Nat → Int
  at_ : Int
  wait : List (Int × Int)
  out : List Int
  fin : Int
structure MM where
  mem : List Int
  ths : List MT
  evs : List Ev
def MT.new (code : List OpD) : MT := ⟨code, fun _ => 0, 0, [], [], 0⟩
def w64 (x : Int) : Int := wrap64 x
theorem w64_wrap (x : Int) : IntKind.i64.wrap x = w64 x := IntWalk.i64_left x
def truthI (b : Bool) : Int := if b = true then 1 else 0
def calcS (c a b : Int) : Option Int :=
  if c = 1 then some (w64 (a + b))
  else if c = 2 then some (w64 (a - b))
  else if c = 3 then some (w64 (a * b))
  else if c = 4 then (if b = 0 then none else some (w64 (a.tdiv b)))
  else if c = 5 then (if b = 0 then none else some (a.tmod b))
  else if c = 6 then some (bits BinOp.and IntKind.i64 a b)
  else if c = 7 then some (bits BinOp.or IntKind.i64 a b)
  else if c = 8 then some (bits BinOp.xor IntKind.i64 a b)
  else if c = 9 then some (w64 (a * 2 ^ min (IntKind.u64.wrap (bits BinOp.and IntKind.i64 b 63)).toNat 64))
  else if c = 10 then some (w64 (IntKind.u64.wrap a / 2 ^ min (IntKind.u64.wrap (bits BinOp.and IntKind.i64 b 63)).toNat 64))
  else if c = 11 then some (truthI (a == b))
  else if c = 12 then some (truthI (a != b))
  else if c = 13 then some (truthI (decide (a < b)))
  else if c = 14 then some (truthI (decide (a ≤ b)))
  else none
def MT.r (t : MT) (i : Int) : Int := t.reg i.toNat
def MT.goes (t : MT) (i v : Int) : MT := { t with reg := upd t.reg i.toNat v, at_ := t.at_ + 1 }
def MT.next (t : MT) : MT := { t with at_ := t.at_ + 1 }
def MM.put (m : MM) (n : Nat) (t : MT) : MM := { m with ths := m.ths.set n t }
def MM.tell (m : MM) (n : Nat) (k a b : Int) : MM := { m with evs := m.evs ++ [⟨n, k, a, b⟩] }
def MM.stop (m : MM) (n : Nat) (t : MT) (k : Int) : MM := (m.put n { t with fin := k }).tell n (if k = 1 then 10 else 11) (if k = 1 then 0 else k) 0
def MT.word (t : MT) (o : OpD) : Option Int :=
  if o.kind = 4 ∨ o.kind = 15 then some (w64 (t.r o.b + o.n))
  else if o.kind = 5 ∨ o.kind = 8 ∨ o.kind = 9 then some (w64 (t.r o.a + o.n))
  else none
def MT.waits (t : MT) (o : OpD) : Bool :=
  if o.kind = 5 then decide (64 ≤ t.wait.length)
  else if o.kind = 8 ∨ o.kind = 9 ∨ o.kind = 10 then decide (0 < t.wait.length)
  else false
def MM.at (m : MM) (a : Int) : Int := m.mem.getD a.toNat 0
def MM.found (m : MM) (t : MT) (a : Int) : Int := (findS t.wait a).getD (m.at a)
def MM.has (m : MM) (a : Int) : Bool := decide (0 ≤ a ∧ a < m.mem.length)
def MM.act (m : MM) (n : Nat) (t : MT) (o : OpD) (a : Int) : MM :=
  if o.kind = 1 then m.put n (t.goes o.a o.n)
  else if o.kind = 2 then m.put n (t.goes o.a (t.r o.b))
  else if o.kind = 3 then (match calcS o.cal (t.r o.a) (t.r o.b) with
    | none => m.stop n t 2
    | some v => m.put n (t.goes o.a v))
  else if o.kind = 4 then m.put n (t.goes o.a (m.found t a))
  else if o.kind = 5 then m.put n { t.next with wait := t.wait ++ [(a, t.r o.b)] }
  else if o.kind = 6 then m.put n { t with at_ := o.n }
  else if o.kind = 7 then m.put n { t with at_ := if t.r o.a = 0 then o.n else t.at_ + 1 }
  else if o.kind = 8 then { m with mem := if m.at a = t.r o.b then m.mem.set a.toNat (t.r o.c) else m.mem }.put n (t.goes o.b (m.at a))
  else if o.kind = 9 then { m with mem := m.mem.set a.toNat (w64 (m.at a + t.r o.b)) }.put n (t.goes o.b (m.at a))
  else if o.kind = 10 then m.put n t.next
  else if o.kind = 11 then (m.put n { t.next with out := t.out ++ [t.r o.a] }).tell n 9 (t.r o.a) 0
  else if o.kind = 12 then (m.put n t.next).tell n o.n (t.r o.a) (t.r o.b)
  else if o.kind = 13 then m.stop n t o.n
  else if o.kind = 14 then m.stop n t 1
  else if o.kind = 15 then (m.put n (t.goes o.a (m.found t a))).tell n 1 (m.found t a) 0
  else m
def MM.go (m : MM) (n : Nat) (t : MT) : Bool × MM :=
  match (if t.at_ < 0 then none else t.code[t.at_.toNat]?) with
  | none => (true, m.stop n t 8)
  | some o =>
    match t.word o with
    | none => if t.waits o = true then (false, m) else (true, m.act n t o 0)
    | some a => if m.has a = true then (if t.waits o = true then (false, m) else (true, m.act n t o a)) else (true, m.stop n t 8)
def MM.thr (m : MM) (z : Int) : Option MT := if z < 0 then none else m.ths[z.toNat]?
def MM.step (m : MM) (z : Int) : Bool × MM :=
  match m.thr z with
  | none => (false, m)
  | some t => if t.fin ≠ 0 then (false, m) else m.go z.toNat t
def MM.flush (m : MM) (z : Int) : Bool × MM :=
  match m.thr z with
  | none => (false, m)
  | some t => match t.wait with
    | [] => (false, m)
    | c :: r => (true, { m with mem := m.mem.set c.1.toNat c.2 }.put z.toNat { t with wait := r })
theorem run_append_d {P : Program} (w : World) (t ty : TypeId) (base : Nat) (e : TypeId) (i : TypeInfo) (z : Value) (size bytes : Nat) (ht : P.underlying t = some (.slice e)) (hi : P.info? e = some i) (hz : i.zero = some z)
    (hsize : i.size = size) (hby : i.bytes = bytes) (hzs : z.cells.size = size) (hsz : 0 < size)
    (v : Value) (n : Nat) (xs : List Value) (hown : w.ownsRow base e size v n xs)
    (ad : Addr) (m c : Nat) (hm : 0 < m) (news : List Value) (hl : news.length = m * size) (hnews : ∀ j u, news[j]? = some u → w.cell? (ad.add j) = some u) (h1 : ∀ u ∈ news, u.oneCell' = true)
    (h63 : n + m ≤ maxLen) (hbytes : (n + m) * bytes ≤ 140737488355328) (hbase : base ≤ w.heap.size) :
    ∃ ao cp w', (Builtin.append_ #[t, t] ty #[v, .slice (some ad) m c]).run P w = .ok (.slice ao (n + m) cp) w' ∧ w'.ownsRow base e size (.slice ao (n + m) cp) (n + m) (xs ++ news) ∧
      (∀ g, (Value.slice ao (n + m) cp).ownBlock = some g → v.ownBlock = some g ∨ w.heap.size ≤ g) ∧ w.grownBy w' v.ownBlock := by
  rcases hown.2 with ⟨rfl, rfl⟩ | ⟨g, cap, cur, rfl, hbg, hg, hnc, hcm, hcs, htake⟩
  · obtain rfl : xs = [] := List.eq_nil_of_length_eq_zero (by simpa using hown.1)
    obtain ⟨v', w', hrun, r1, r2, _⟩ := run_append_own (P := P) w w.heap.size t ty e i z size bytes ht hi hz hsize hby hzs hsz (.slice none 0 0) 0 [] (World.ownsRow_nil w _ e size) ad m c news hl hnews h1 h63 hbytes (Nat.le_refl _)
    obtain ⟨ao, cp, rfl⟩ := ownsRow_shape r1
    have r1' := r1
    rcases r1.2 with ⟨hv, h0⟩ | ⟨g', cap', cur', hv, _⟩
    · omega
    · simp only [Value.slice.injEq] at hv
      obtain ⟨rfl, -, rfl⟩ := hv
      rw [Nat.zero_add] at *
      exact ⟨_, _, w', hrun, ownsRow_mono r1' hbase, fun g hg => .inr (r1'.lt g hg).1, grown_weak r2⟩
  · by_cases hroom : n + m ≤ cap
    · obtain ⟨w', hrun, r1, r2⟩ := run_append_fits (P := P) w base t ty e i size ht hi hsize g n cap xs hown ad m c news hl hnews h1 hroom
      exact ⟨_, _, w', hrun, r1, fun g' hg' => .inl hg', r2⟩
    · obtain ⟨v', w', hrun, r1, r2⟩ := run_append_arg_grows (P := P) w t ty e i z size bytes ht hi hz hsize hby hzs hsz ⟨g, 0, none⟩ n cap xs hown.1 (hown.cells (g := g) rfl) ad m c news hl hnews (by omega) h63 hbytes
      obtain ⟨ao, cp, rfl⟩ := ownsRow_shape r1
      rcases r1.2 with ⟨hv, h0⟩ | ⟨g', cap', cur', hv, _⟩
      · omega
      · simp only [Value.slice.injEq] at hv
        obtain ⟨rfl, -, rfl⟩ := hv
        exact ⟨_, _, w', hrun, ownsRow_mono r1 hbase, fun g hg => .inr (r1.lt g hg).1, grown_weak r2⟩
theorem step_append_d {P : Program} {ops : Array Oper} {o : Oper} {a : Act} {w : World} {K : Act → World → Prop} {Q : Exit → Act → World → Prop} {E : Prop}
    (hg : o.guard = none) (s x : Operand) (t : TypeId) (hop : o.op = Op.call { callee := Callee.builtin Builtin.append, args := #[s, x], argTypes := #[t, t] })
    (base : Nat) (e : TypeId) (i : TypeInfo) (z : Value) (size bytes : Nat) (ht : P.underlying t = some (.slice e)) (hi : P.info? e = some i) (hz : i.zero = some z)
    (hsize : i.size = size) (hby : i.bytes = bytes) (hzs : z.cells.size = size) (hsz : 0 < size)
    (v : Value) (n : Nat) (xs : List Value) (hs : a.eval s = v) (hown : w.ownsRow base e size v n xs)
    (ad : Addr) (m c : Nat) (hm : 0 < m) (news : List Value) (hx : a.eval x = .slice (some ad) m c) (hl : news.length = m * size) (hnews : ∀ j u, news[j]? = some u → w.cell? (ad.add j) = some u) (h1 : ∀ u ∈ news, u.oneCell' = true)
    (h63 : n + m ≤ maxLen) (hbytes : (n + m) * bytes ≤ 140737488355328) (hbase : base ≤ w.heap.size)
    (hK : ∀ ao cp w', w'.ownsRow base e size (.slice ao (n + m) cp) (n + m) (xs ++ news) → (∀ g, (Value.slice ao (n + m) cp).ownBlock = some g → v.ownBlock = some g ∨ w.heap.size ≤ g) → w.grownBy w' v.ownBlock → K (a.put o.dst (.slice ao (n + m) cp)) w') :
    if Region.wanted o (yielded ops a.tmps) = true then Oper.wp P o a w K Q else E := by
  have hw : Region.wanted o (yielded ops a.tmps) = true := by simp [Region.wanted, hg]
  rw [if_pos hw]
  obtain ⟨ao, cp, w', hrun, r1, r2, r3⟩ := run_append_d (P := P) w t o.type base e i z size bytes ht hi hz hsize hby hzs hsz v n xs hown ad m c hm news hl hnews h1 h63 hbytes hbase
  unfold Oper.wp
  simp [execOp, hop, resolve, invoke, builtin, hs, hx, hrun, Result.andThen]
  exact hK ao cp w' r1 r2 r3
end Go.Proofs.YtgodmogkhgilmaaGreatDoor

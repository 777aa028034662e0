/- make with a length and a capacity, copy of elements of any size, as laws for the walk. -/
import Derived.Test.YtopdcjimpdalpaaGreatFlat
import Derived.Laws.CopyOwn
namespace Go.Proofs.YtopdcjimpdalpaaGreat
open Go.RowKit

/-- zero cells, written as a list -/
theorem made_list (z : List Value) (sz : Nat) (hz : z.length = sz) (h0 : 0 < sz) (n : Nat) : (madeCells z.toArray (n * sz)).toList = (List.replicate n z).flatten := by
  have hl : ((List.replicate n z).flatten).length = n * sz := by simp [hz]
  apply List.ext_getElem?
  intro i
  rcases Nat.lt_or_ge i (n * sz) with hi | hi
  · have h1 : i % sz < sz := Nat.mod_lt _ h0
    have e1 : (madeCells z.toArray (n * sz)).toList[i]? = z[i % sz]? := by
      simp only [madeCells, Array.getElem?_toList, Array.getElem?_map, Array.getElem?_range, hi]
      simp [hz, h1]
    have e2 := flat_at (enc := fun _ : Unit => z) (sz := sz) (fun _ => hz) (List.replicate n ()) (k := i / sz) (x := ()) (by
      rw [List.getElem?_replicate, if_pos (Nat.div_lt_of_lt_mul (by rw [Nat.mul_comm]; exact hi))]) (i % sz) z[i % sz] (by simp [hz, h1])
    rw [show i / sz * sz + i % sz = i from Nat.div_add_mod' i sz] at e2
    rw [e1]
    have e3 : (List.replicate n ()).flatMap (fun _ => z) = (List.replicate n z).flatten := by simp [List.flatMap]
    rw [← e3, e2]
    simp [hz, h1]
  · rw [List.getElem?_eq_none (by simp [size_madeCells]; exact hi), List.getElem?_eq_none (by omega)]

/-- 'make([]T, l, c)' -/
theorem wpList_make_s {P : Program} (w : World) {ops : Array Oper} {rest : List Oper} {o : Oper} {a : Act} {Q : Exit → Act → World → Prop}
    (hg : o.guard = none) (l c : Operand) (t : TypeId) (hop : o.op = Op.makeSlice t l c)
    (e : TypeId) (i : TypeInfo) (z : Value) (sz : Nat) (zl : List Value) (h1 : P.underlying t = some (.slice e)) (h2 : P.info? e = some i) (h3 : i.zero = some z) (h4 : i.size = sz) (hzl : z.cells = zl.toArray) (hsz : zl.length = sz) (h0 : 0 < sz)
    (kl kc : IntKind) (L C : Int) (n m : Nat) (hl : a.eval l = .int kl L) (hc : a.eval c = .int kc C) (hL : L = (n : Int)) (hC : C = (m : Int)) (hnm : n ≤ m) (b2 : i.bytes * m ≤ 281474976710656) (b3 : m ≤ maxLen)
    (hK : ∀ w', w'.heap[w.heap.size]? = some (.cells ((List.replicate m zl).flatten).toArray e (0, 0)) → w'.heap.size = w.heap.size + 1 → Below w.heap.size w w' → wpList P ops Q rest (a.put o.dst (.slice (some ⟨w.heap.size, 0, none⟩) n m)) w') :
    wpList P ops Q (o :: rest) a w := by
  refine wpList_plain hg fun K hK' => ?_
  subst hL; subst hC
  unfold maxLen at b3
  have hrun := run_make (P := P) w t e i z h1 h2 h3 kl kc n m (by omega) (by omega) (by have h : ((i.bytes * m : Nat) : Int) ≤ 281474976710656 := Int.ofNat_le.2 b2; rwa [Int.natCast_mul] at h) (by omega)
  unfold Oper.wp
  simp [execOp, hop, hl, hc, hrun, Result.andThen]
  refine hK' _ _ (hK _ ?_ (World.size_alloc _ _) ((Below.refl _ _).alloc (Nat.le_refl _) _))
  have e1 := made_list zl sz hsz h0 m
  rw [block_new, hzl, h4, ← e1]

/-- 'copy(t, l)', as many elements as both have -/
theorem wpList_copy_s {P : Program} {w : World} {ops : Array Oper} {rest : List Oper} {o : Oper} {a : Act} {Q : Exit → Act → World → Prop} (hgd : o.guard = none) (d s : Operand) (dT sT : TypeId)
    (ho : o.op = .call { callee := .builtin .copy, args := #[d, s], argTypes := #[dT, sT] }) (elem : TypeId) (sz : Nat) (hu : P.underlying dT = some (.slice elem)) (hsz : (P.info? elem).map (·.size) = some sz)
    (g n dCap : Nat) (sv : Value) (cs : List Value) (hd : a.eval d = .slice (some ⟨g, 0, none⟩) n dCap) (hs : a.eval s = sv) (hrd : Rd w sz sv n cs)
    (cur : List Value) (t : TypeId) (hg : w.heap[g]? = some (.cells cur.toArray t (0, 0))) (hfit : cs.length ≤ cur.length) (h1 : ∀ v ∈ cs, v.oneCell' = true)
    (h : ∀ w', w'.heap[g]? = some (.cells (cs ++ cur.drop (n * sz)).toArray t (0, 0)) → w'.heap.size = w.heap.size → Chg (fun k => k = g) w w' → wpList P ops Q rest (a.put o.dst (goInt n)) w') :
    wpList P ops Q (o :: rest) a w := by
  refine wpList_plain hgd fun K hK => ?_
  obtain ⟨hl, ao, cap, rfl, hc, hat⟩ := hrd
  cases hq : P.info? elem with
  | none => simp [hq] at hsz
  | some i =>
    have hi : i.size = sz := by simpa [hq] using hsz
    have hst := run_storeCells_at P g 0 t cs 0 cur.toArray w hg (by simpa using hfit) h1
    simp only [Nat.add_zero, Nat.zero_add, hl] at hst
    have hf : (Builtin.firstCells sz n (.slice ao n cap)).run P w = .ok cs.toArray w := by
      by_cases hn : 0 < n
      · obtain ⟨b, off, rfl, hb, hcell⟩ := hat hn
        exact run_firstCells_some w sz n ⟨b, off, none⟩ n cap cs hl (fun j v hj => by
          have : (⟨b, off, none⟩ : Addr).add j = ⟨b, off + j, none⟩ := by unfold Addr.add; split <;> simp_all
          rw [this]; exact hcell j v hj)
      · obtain rfl : n = 0 := by omega
        obtain rfl : cs = [] := List.eq_nil_of_length_eq_zero (by simpa using hl)
        cases ao with
        | none => exact run_firstCells_none w sz 0 0 cap
        | some ad => exact run_firstCells_some w sz 0 ad 0 cap [] (by simp) (fun j v hj => by simp at hj)
    have hrun : (Builtin.copy_ #[dT, sT] o.type #[.slice (some ⟨g, 0, none⟩) n dCap, .slice ao n cap]).run P w = .ok (goInt n) (w.setRow g (cs ++ cur.drop (n * sz)).toArray) := by
      simp [Builtin.copy_, run_underlying hu, Builtin.lenOf, sizeOf, typeInfo, hq, hi, hf, hst]
    unfold Oper.wp
    simp [execOp, ho, resolve, invoke, builtin, hd, hs, hrun, Result.andThen]
    exact hK _ _ (h _ (setRow_heap w g _ _ t _ hg) (by simp [World.setRow]) ⟨rfl, rfl, rfl, by simp [World.setRow], fun k hk hn => setRow_other w g k _ (fun e => hn e)⟩)

theorem grown_weak {w w' : World} {row : Option Nat} (h : w.grownBy w' none) : w.grownBy w' row := ⟨h.os, h.tape, h.output, h.size, fun k hk _ => h.block k hk (by simp)⟩

/-- append: the value is a slice in its old block or in a new one -/
theorem wpList_append_d {P : Program} (w : World) {ops : Array Oper} {rest : List Oper} {o : Oper} {a : Act} {Q : Exit → Act → World → Prop} (hgd : o.guard = none) (s x : Operand) (t : TypeId)
    (ho : o.op = .call { callee := .builtin .append, args := #[s, x], argTypes := #[t, t] })
    (base : Nat) (e : TypeId) (i : TypeInfo) (z : Value) (size bytes : Nat) (ht : P.underlying t = some (.slice e)) (hi : P.info? e = some i) (hz : i.zero = some z)
    (hsize : i.size = size) (hby : i.bytes = bytes) (hzs : z.cells.size = size) (hsz : 0 < size)
    (v : Value) (n : Nat) (xs : List Value) (hs : a.eval s = v) (hown : w.ownsRow base e size v n xs)
    (ad : Addr) (m c : Nat) (news : List Value) (hx : a.eval x = .slice (some ad) m c) (hl : news.length = m * size) (hnews : ∀ j u, news[j]? = some u → w.cell? (ad.add j) = some u) (h1 : ∀ u ∈ news, u.oneCell' = true)
    (h63 : n + m ≤ maxLen) (hbytes : (n + m) * bytes ≤ 140737488355328) (hbase : base ≤ w.heap.size)
    (h : ∀ ao cp w', w'.ownsRow base e size (.slice ao (n + m) cp) (n + m) (xs ++ news) → (∀ g, (Value.slice ao (n + m) cp).ownBlock = some g → v.ownBlock = some g ∨ w.heap.size ≤ g) → w.grownBy w' v.ownBlock →
      wpList P ops Q rest (a.put o.dst (.slice ao (n + m) cp)) w') : wpList P ops Q (o :: rest) a w := by
  have grows : ∀ (v' : Value) (w' : World), w'.ownsRow w.heap.size e size v' (n + m) (xs ++ news) → w.grownBy w' none → wpList P ops Q rest (a.put o.dst v') w' := by
    intro v' w' h1 h2
    obtain ⟨ao, cp, rfl⟩ := ownsRow_shape h1
    exact h ao cp w' (ownsRow_mono h1 hbase) (fun g hg => .inr (h1.lt g hg).1) (grown_weak h2)
  rcases hown.2 with ⟨rfl, rfl⟩ | ⟨g, cap, cur, rfl, hbg, hg, hnc, hcm, hcs, htake⟩
  · have hx0 : xs = [] := List.eq_nil_of_length_eq_zero (by simpa using hown.1)
    by_cases hm : m = 0
    · refine wpList_append_own w hgd s x t ho base e i z size bytes ht hi hz hsize hby hzs hsz _ _ _ hs hown ad m c news hx hl hnews h1 h63 hbytes hbase ?_
      intro v' w' h1 h2 h3
      obtain ⟨ao, cp, rfl⟩ := ownsRow_shape h1
      refine h ao cp w' h1 (fun g hg => ?_) h2
      have := h3.2 ⟨rfl, hm⟩
      simp only [Value.slice.injEq] at this
      rw [this.1] at hg
      cases hg
    · refine wpList_append_grows w hgd s x t ho e i z size bytes ht hi hz hsize hby hzs hsz none 0 0 xs hs (fun _ => ⟨rfl, rfl⟩) (by rw [hx0]; simp) (fun b hb => by cases hb) ad m c news hx hl hnews h1 (by omega) h63 hbytes grows
  · by_cases hroom : n + m ≤ cap
    · refine wpList_append_fits w hgd s x t ho base e i size ht hi hsize g n cap xs hs hown ad m c news hx hl hnews h1 hroom ?_
      intro w' h1 h2
      exact h _ _ w' h1 (fun g' hg' => .inl hg') h2
    · exact wpList_append_grows w hgd s x t ho e i z size bytes ht hi hz hsize hby hzs hsz (some ⟨g, 0, none⟩) n cap xs hs (fun hn => by cases hn) hown.1 (fun b hb => by cases hb; exact hown.cells (g := g) rfl) ad m c news hx hl hnews h1 (by omega) h63 hbytes grows

end Go.Proofs.YtopdcjimpdalpaaGreat

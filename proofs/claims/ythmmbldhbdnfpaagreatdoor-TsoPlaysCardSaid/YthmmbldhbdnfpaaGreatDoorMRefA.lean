/- Put together by merge.py out of XRow.lean.tpl, XRefA.lean.tpl, XRefB.lean.tpl, XRefD.lean.tpl, XRefF.lean.tpl. -/
import Derived.Test.YthmmbldhbdnfpaaGreatDoorMBase
import Derived.ArgAppend
import Derived.Test.YthmmbldhbdnfpaaGreatDoorMTsoA
import Derived.Test.YthmmbldhbdnfpaaGreatDoorTsoD
import Derived.Test.YthmmbldhbdnfpaaGreatDoorMTsoG
namespace Go.Proofs.YthmmbldhbdnfpaaGreatDoor
open Go.RowKit
set_option linter.unusedVariables false
set_option linter.unusedSimpArgs false

section
/-- like 'ownsRow', but that the row need not begin where its block does -/
def CutRow (w : World) (base : Nat) (e : TypeId) (size : Nat) (v : Value) (n : Nat) (xs : List Value) : Prop :=
  xs.length = n * size ∧ ((v = .slice none 0 0 ∧ n = 0) ∨
    ∃ g off cap cur, v = .slice (some ⟨g, off, none⟩) n cap ∧ base ≤ g ∧ w.heap[g]? = some (.cells cur e (0, 0)) ∧ n ≤ cap ∧ cap ≤ maxLen ∧ off + cap * size ≤ cur.size ∧ ∀ (j : Nat) u, xs[j]? = some u → cur[off + j]? = some u)

variable {w w' : World} {base : Nat} {e : TypeId} {size n : Nat} {v : Value} {xs : List Value}

theorem CutRow.nil (w : World) (base : Nat) (e : TypeId) (size : Nat) : CutRow w base e size (.slice none 0 0) 0 [] := ⟨by simp, .inl ⟨rfl, rfl⟩⟩
theorem CutRow.of_own (h : w.ownsRow base e size v n xs) : CutRow w base e size v n xs := by
  refine ⟨h.1, ?_⟩
  rcases h.2 with h1 | ⟨g, cap, cur, rfl, hb, hg, hc, hm, hs, ht⟩
  · exact .inl h1
  · refine .inr ⟨g, 0, cap, cur, rfl, hb, hg, hc, hm, by omega, fun j u hj => ?_⟩
    rw [Nat.zero_add]
    have hlt := (List.getElem?_eq_some_iff.1 hj).1
    rw [← ht, List.getElem?_take] at hj
    split at hj
    · rwa [Array.getElem?_toList] at hj
    · cases hj
theorem CutRow.shape (h : CutRow w base e size v n xs) : ∃ ao c, v = .slice ao n c := by
  rcases h.2 with ⟨rfl, rfl⟩ | ⟨g, off, cap, cur, rfl, _⟩
  · exact ⟨none, 0, rfl⟩
  · exact ⟨_, _, rfl⟩
theorem CutRow.lt (h : CutRow w base e size v n xs) {g : Nat} (hg : v.ownBlock = some g) : base ≤ g ∧ g < w.heap.size := by
  rcases h.2 with ⟨rfl, _⟩ | ⟨g', off, cap, cur, rfl, hb, hgg, _⟩
  · cases hg
  · simp only [Value.ownBlock, Option.some.injEq] at hg
    subst hg
    exact ⟨hb, lt_of_block hgg⟩
theorem CutRow.keep (h : CutRow w base e size v n xs) (hk : ∀ g, v.ownBlock = some g → g < w.heap.size → w'.heap[g]? = w.heap[g]?) : CutRow w' base e size v n xs := by
  refine ⟨h.1, ?_⟩
  rcases h.2 with hn | ⟨g', off, cap, cur, rfl, hb, hgg, rest⟩
  · exact .inl hn
  · refine .inr ⟨g', off, cap, cur, rfl, hb, ?_, rest⟩
    rw [hk g' rfl (lt_of_block hgg)]
    exact hgg
theorem CutRow.below (h : CutRow w base e size v n xs) (hb : Below w.heap.size w w') : CutRow w' base e size v n xs := h.keep fun g _ hl => hb.block g hl
theorem CutRow.base_mono {base' : Nat} (h : CutRow w base e size v n xs) (hb : base' ≤ base) : CutRow w base' e size v n xs := by
  refine ⟨h.1, ?_⟩
  rcases h.2 with hn | ⟨g', off, cap, cur, hv, hb', rest⟩
  · exact .inl hn
  · exact .inr ⟨g', off, cap, cur, hv, Nat.le_trans hb hb', rest⟩
theorem CutRow.rd (h : CutRow w base e size v n xs) : Rd w size v n xs := by
  rcases h.2 with ⟨rfl, rfl⟩ | ⟨g, off, cap, cur, rfl, hb, hg, hc, hm, hs, ht⟩
  · have h1 := h.1
    simp only [Nat.zero_mul] at h1
    rw [List.length_eq_zero_iff.1 h1]
    exact Rd.nil w size
  · exact ⟨h.1, some ⟨g, off, none⟩, cap, rfl, hc, fun _ => ⟨g, off, rfl, lt_of_block hg, fun j u hj => cell_of_block hg (ht j u hj)⟩⟩
/-- the first element is cut off -/
theorem CutRow.tail {ao : Option Addr} {cap : Nat} (h : CutRow w base e size (.slice ao (n + 1) cap) (n + 1) xs) (hs : 0 < size) : CutRow w base e size (.slice (if cap = 1 then ao else ao.map (·.add size)) n (cap - 1)) n (xs.drop size) := by
  have h1 := h.1
  refine ⟨by rw [List.length_drop, h1, Nat.add_mul]; omega, ?_⟩
  rcases h.2 with ⟨_, h0⟩ | ⟨g, off, cap', cur, hv, hb, hg, hc, hm, hsz, ht⟩
  · omega
  · simp only [Value.slice.injEq, true_and] at hv
    obtain ⟨rfl, rfl⟩ := hv
    by_cases h1' : cap = 1
    · rw [if_pos h1']
      subst h1'
      obtain rfl : n = 0 := by omega
      refine .inr ⟨g, off, 0, cur, rfl, hb, hg, by omega, by omega, by omega, fun j u hj => ?_⟩
      have := (List.getElem?_eq_some_iff.1 hj).1
      rw [List.length_drop, h1] at this
      omega
    · rw [if_neg h1']
      refine .inr ⟨g, off + size, cap - 1, cur, by simp [Addr.add_lit], hb, hg, by omega, by omega, ?_, fun j u hj => ?_⟩
      · have : cap * size = (cap - 1) * size + size := by
          obtain ⟨c, rfl⟩ : ∃ c, cap = c + 1 := ⟨cap - 1, by omega⟩
          rw [Nat.add_mul]; simp
        omega
      · rw [List.getElem?_drop] at hj
        rw [Nat.add_assoc]
        exact ht _ u hj
/-- where the first element lies -/
theorem CutRow.first {ao : Option Addr} {cap : Nat} (h : CutRow w base e size (.slice ao (n + 1) cap) (n + 1) xs) : ∃ g off, ao = some ⟨g, off, none⟩ ∧ ∀ (j : Nat) u, xs[j]? = some u → w.cell? ⟨g, off + j, none⟩ = some u := by
  obtain ⟨_, ao', cap', hv, _, hr⟩ := h.rd
  cases hv
  obtain ⟨g, off, rfl, _, hc⟩ := hr (by omega)
  exact ⟨g, off, rfl, hc⟩

theorem setCells_grown (g : Nat) : ∀ (vs : List Value) (o : Nat) (w : World), w.grownBy (w.setCells g o vs) (some g)
  | [], _, w => World.grownBy.refl w _
  | v :: r, o, w => by
    have h1 := setCells_grown g r (o + 1) (w.setCell ⟨g, o, none⟩ v)
    rw [World.setCells]
    refine ⟨h1.os.trans rfl, h1.tape.trans rfl, h1.output.trans rfl, Nat.le_trans (by simp [World.setCell]) h1.size, fun k hk hne => ?_⟩
    rw [h1.block k (by simp [World.setCell]; exact hk) hne]
    exact Below.heap_setCell _ _ _ _ (fun q => hne (by rw [q]))
theorem setCells_at {t : TypeId} {f : Nat × Nat} (g : Nat) : ∀ (vs : List Value) (o : Nat) (w : World) (cur : Array Value), w.heap[g]? = some (.cells cur t f) → o + vs.length ≤ cur.size →
    ∃ cur', (w.setCells g o vs).heap[g]? = some (.cells cur' t f) ∧ cur'.size = cur.size ∧ (∀ j, j < o → cur'[j]? = cur[j]?) ∧ ∀ (j : Nat) u, vs[j]? = some u → cur'[o + j]? = some u
  | [], o, w, cur, h, _ => ⟨cur, h, rfl, fun _ _ => rfl, fun j u hj => by simp at hj⟩
  | v :: r, o, w, cur, h, hl => by
    rw [List.length_cons] at hl
    obtain ⟨cur', h1, h2, h3, h4⟩ := setCells_at g r (o + 1) (w.setCell ⟨g, o, none⟩ v) _ (block_setCell (o := o) v h) (by simp; omega)
    rw [World.setCells]
    refine ⟨cur', h1, by simpa using h2, fun j hj => ?_, fun j u hj => ?_⟩
    · rw [h3 j (by omega), Array.getElem?_setIfInBounds_ne (by omega)]
    · cases j with
      | zero =>
        simp only [List.getElem?_cons_zero, Option.some.injEq] at hj
        subst hj
        rw [Nat.add_zero, h3 o (by omega), Array.getElem?_setIfInBounds_self, if_pos (by omega)]
      | succ j =>
        rw [List.getElem?_cons_succ] at hj
        have := h4 j u hj
        rwa [show o + 1 + j = o + (j + 1) from by omega] at this

/-- append to such a row -/
theorem run_append_cut {P : Program} (w : World) (t ty : TypeId) (base : Nat) (e : TypeId) (i : TypeInfo) (z : Value) (size bytes : Nat) (ht : P.underlying t = some (.slice e)) (hi : P.info? e = some i) (hz : i.zero = some z)
    (hsize : i.size = size) (hby : i.bytes = bytes) (hzs : z.cells.size = size) (hsz : 0 < size)
    (v : Value) (n : Nat) (xs : List Value) (hown : CutRow w base e size v n xs)
    (ad : Addr) (m c : Nat) (hm : 0 < m) (news : List Value) (hl : news.length = m * size) (hnews : ∀ j u, news[j]? = some u → w.cell? (ad.add j) = some u) (h1 : ∀ u ∈ news, u.oneCell' = true)
    (h63 : n + m ≤ maxLen) (hbytes : (n + m) * bytes ≤ 140737488355328) (hbase : base ≤ w.heap.size) :
    ∃ ao cp w', (Builtin.append_ #[t, t] ty #[v, .slice (some ad) m c]).run P w = .ok (.slice ao (n + m) cp) w' ∧ CutRow w' base e size (.slice ao (n + m) cp) (n + m) (xs ++ news) ∧
      (∀ g, (Value.slice ao (n + m) cp).ownBlock = some g → v.ownBlock = some g ∨ w.heap.size ≤ g) ∧ w.grownBy w' v.ownBlock := by
  have hlen := hown.1
  rcases hown.2 with ⟨rfl, rfl⟩ | ⟨g, off, cap, cur, rfl, hbg, hgg, hnc, hcm, hszc, hat⟩
  · obtain rfl : xs = [] := List.eq_nil_of_length_eq_zero (by simpa using hlen)
    obtain ⟨v', w', hrun, r1, r2, _⟩ := run_append_own (P := P) w w.heap.size t ty e i z size bytes ht hi hz hsize hby hzs hsz (.slice none 0 0) 0 [] (World.ownsRow_nil w _ e size) ad m c news hl hnews h1 h63 hbytes (Nat.le_refl _)
    obtain ⟨ao, cp, rfl⟩ := ownsRow_shape r1
    rw [Nat.zero_add] at *
    exact ⟨_, _, w', hrun, (CutRow.of_own r1).base_mono hbase, fun g hg => .inr (rowLt r1 hg).1, ⟨r2.os, r2.tape, r2.output, r2.size, fun k hk hne => r2.block k hk (by simp [Value.ownBlock])⟩⟩
  · have hms : n + m ≤ cap → n * size + m * size ≤ cap * size := fun hr => by rw [← Nat.add_mul]; exact Nat.mul_le_mul_right _ hr
    by_cases hroom : n + m ≤ cap
    · subst hsize
      have hms := hms hroom
      have hrun := run_append_room_cells (P := P) w t ty e i ht hi g off n cap ad m c news hl hnews h1 hroom
        (fun j hj => by
          have hlt : off + n * i.size + j < cur.size := by omega
          rw [cell_of_block hgg (Array.getElem?_eq_getElem hlt)]; rfl)
        (fun j _ => free_of_block hgg)
      obtain ⟨cur', k1, k2, k3, k4⟩ := setCells_at g news (off + n * i.size) w cur hgg (by omega)
      refine ⟨_, _, _, hrun, ⟨by rw [List.length_append, hlen, hl, Nat.add_mul], .inr ⟨g, off, cap, cur', rfl, hbg, k1, hroom, hcm, by omega, fun j u hj => ?_⟩⟩, fun g' hg' => .inl hg', setCells_grown g news _ w⟩
      rw [List.getElem?_append] at hj
      split at hj
      · rw [k3 _ (by omega)]; exact hat j u hj
      · rename_i hge
        have := k4 _ u hj
        rwa [show off + n * i.size + (j - xs.length) = off + j from by omega] at this
    · obtain ⟨v', w', hrun, r1, r2⟩ := run_append_arg_grows (P := P) w t ty e i z size bytes ht hi hz hsize hby hzs hsz ⟨g, off, none⟩ n cap xs hlen (fun j u hj => by rw [Addr.add_lit]; exact cell_of_block hgg (hat j u hj)) ad m c news hl hnews (by omega) h63 hbytes
      obtain ⟨ao, cp, rfl⟩ := ownsRow_shape r1
      exact ⟨_, _, w', hrun, (CutRow.of_own r1).base_mono hbase, fun g' hg' => .inr (rowLt r1 hg').1, ⟨r2.os, r2.tape, r2.output, r2.size, fun k hk _ => r2.block k hk (by simp)⟩⟩

/-- append, for the walk -/
theorem wpList_append_cut {P : Program} (w : World) {ops : Array Oper} {rest : List Oper} {o : Oper} {a : Act} {Q : Exit → Act → World → Prop}
    (hg : o.guard = none) (s x : Operand) (t : TypeId) (hop : o.op = Op.call { callee := Callee.builtin Builtin.append, args := #[s, x], argTypes := #[t, t] })
    (base : Nat) (e : TypeId) (i : TypeInfo) (z : Value) (size bytes : Nat) (ht : P.underlying t = some (.slice e)) (hi : P.info? e = some i) (hz : i.zero = some z)
    (hsize : i.size = size) (hby : i.bytes = bytes) (hzs : z.cells.size = size) (hsz : 0 < size)
    (v : Value) (n : Nat) (xs : List Value) (hs : a.eval s = v) (hown : CutRow w base e size v n xs)
    (ad : Addr) (m c : Nat) (hm : 0 < m) (news : List Value) (hx : a.eval x = .slice (some ad) m c) (hl : news.length = m * size) (hnews : ∀ j u, news[j]? = some u → w.cell? (ad.add j) = some u) (h1 : ∀ u ∈ news, u.oneCell' = true)
    (h63 : n + m ≤ maxLen) (hbytes : (n + m) * bytes ≤ 140737488355328) (hbase : base ≤ w.heap.size)
    (hK : ∀ ao cp w', CutRow w' base e size (.slice ao (n + m) cp) (n + m) (xs ++ news) → (∀ g, (Value.slice ao (n + m) cp).ownBlock = some g → v.ownBlock = some g ∨ w.heap.size ≤ g) → w.grownBy w' v.ownBlock → wpList P ops Q rest (a.put o.dst (.slice ao (n + m) cp)) w') :
    wpList P ops Q (o :: rest) a w := by
  refine wpList_plain hg fun K hK' => ?_
  obtain ⟨ao, cp, w', hrun, r1, r2, r3⟩ := run_append_cut (P := P) w t o.type base e i z size bytes ht hi hz hsize hby hzs hsz v n xs hown ad m c hm news hl hnews h1 h63 hbytes hbase
  unfold Oper.wp
  simp [execOp, hop, resolve, invoke, builtin, hs, hx, hrun, Result.andThen]
  exact hK' _ _ (hK ao cp w' r1 r2 r3)
/-- append as one step of a region that draws -/
theorem step_append_cut {P : Program} {ops : Array Oper} {o : Oper} {a : Act} {w : World} {K : Act → World → Prop} {Q : Exit → Act → World → Prop} {E : Prop}
    (hg : o.guard = none) (s x : Operand) (t : TypeId) (hop : o.op = Op.call { callee := Callee.builtin Builtin.append, args := #[s, x], argTypes := #[t, t] })
    (base : Nat) (e : TypeId) (i : TypeInfo) (z : Value) (size bytes : Nat) (ht : P.underlying t = some (.slice e)) (hi : P.info? e = some i) (hz : i.zero = some z)
    (hsize : i.size = size) (hby : i.bytes = bytes) (hzs : z.cells.size = size) (hsz : 0 < size)
    (v : Value) (n : Nat) (xs : List Value) (hs : a.eval s = v) (hown : CutRow w base e size v n xs)
    (ad : Addr) (m c : Nat) (hm : 0 < m) (news : List Value) (hx : a.eval x = .slice (some ad) m c) (hl : news.length = m * size) (hnews : ∀ j u, news[j]? = some u → w.cell? (ad.add j) = some u) (h1 : ∀ u ∈ news, u.oneCell' = true)
    (h63 : n + m ≤ maxLen) (hbytes : (n + m) * bytes ≤ 140737488355328) (hbase : base ≤ w.heap.size)
    (hK : ∀ ao cp w', CutRow w' base e size (.slice ao (n + m) cp) (n + m) (xs ++ news) → (∀ g, (Value.slice ao (n + m) cp).ownBlock = some g → v.ownBlock = some g ∨ w.heap.size ≤ g) → w.grownBy w' v.ownBlock → K (a.put o.dst (.slice ao (n + m) cp)) w') :
    if Region.wanted o (yielded ops a.tmps) = true then Oper.wp P o a w K Q else E := by
  have hw : Region.wanted o (yielded ops a.tmps) = true := by simp [Region.wanted, hg]
  rw [if_pos hw]
  obtain ⟨ao, cp, w', hrun, r1, r2, r3⟩ := run_append_cut (P := P) w t o.type base e i z size bytes ht hi hz hsize hby hzs hsz v n xs hown ad m c hm news hl hnews h1 h63 hbytes hbase
  unfold Oper.wp
  simp [execOp, hop, resolve, invoke, builtin, hs, hx, hrun, Result.andThen]
  exact hK ao cp w' r1 r2 r3
end

section
/-- a thread, and where its parts lie: its code (old memory), its stores that wait, what it told -/
structure RX where
  th : MT
  cv : Value
  wv : Value
  ov : Value

/-- a thread as cells: code, reg, at, wait, out, end -/
def encR (x : RX) : List Value :=
  [x.cv, .int .i64 (x.th.reg 0), .int .i64 (x.th.reg 1), .int .i64 (x.th.reg 2), .int .i64 (x.th.reg 3), .int .i64 (x.th.reg 4), .int .i64 (x.th.reg 5), .int .i64 (x.th.reg 6), .int .i64 (x.th.reg 7),
   .int .i64 x.th.at_, x.wv, x.ov, .int .u8 x.th.fin]
theorem encR_len : ∀ x, (encR x).length = 13 := fun _ => rfl
theorem encR_reg (x : RX) : ∀ r, r < 8 → (encR x)[1 + r]? = some (.int .i64 (x.th.reg r))
  | 0, _ => rfl | 1, _ => rfl | 2, _ => rfl | 3, _ => rfl | 4, _ => rfl | 5, _ => rfl | 6, _ => rfl | 7, _ => rfl
  | n + 8, h => absurd h (by omega)
theorem encR_setReg (x : RX) (v : Int) : ∀ r, r < 8 → encR { x with th := { x.th with reg := upd x.th.reg r v } } = (encR x).set (1 + r) (.int .i64 v)
  | 0, _ => rfl | 1, _ => rfl | 2, _ => rfl | 3, _ => rfl | 4, _ => rfl | 5, _ => rfl | 6, _ => rfl | 7, _ => rfl
  | n + 8, h => absurd h (by omega)

/-- a thread's parts: blocks of their own; own tells whose a block is -/
structure TrAt (w : World) (base : Nat) (own : Nat → Nat) (i : Nat) (x : RX) : Prop where
  code : RdT encOp w 6 x.cv x.th.code
  codeT : ∀ g, x.th.code ≠ [] → x.cv.ownBlock = some g → g < base
  wait : CutRow w base 105 2 x.wv x.th.wait.length (x.th.wait.flatMap encCell)
  waitT : ∀ g, x.wv.ownBlock = some g → own g = 6 + 3 * i
  out : w.ownsRow base 2 1 x.ov x.th.out.length (x.th.out.flatMap encI)
  outT : ∀ g, x.ov.ownBlock = some g → own g = 7 + 3 * i

structure RAt (w : World) (base b : Nat) (own : Nat → Nat) (mm : MM) (xs : List RX) (mv tv ev : Value) : Prop where
  blk : w.heap[b]? = some (.cells #[mv, tv, ev] 115 (0, 0))
  bT : base ≤ b ∧ own b = 1
  mem : w.ownsRow base 2 1 mv mm.mem.length (mm.mem.flatMap encI)
  memT : ∀ g, mv.ownBlock = some g → own g = 2
  ths : w.ownsRow base 117 13 tv xs.length (xs.flatMap encR)
  thsT : ∀ g, tv.ownBlock = some g → own g = 3
  evs : w.ownsRow base 154 4 ev mm.evs.length (mm.evs.flatMap encEv)
  evsT : ∀ g, ev.ownBlock = some g → own g = 4
  same : mm.ths = xs.map RX.th
  th : ∀ (i : Nat) x, xs[i]? = some x → TrAt w base own i x
  fresh : ∀ k, w.heap.size ≤ k → own k = 0
  low : ∀ k, own k ≠ 0 → base ≤ k

theorem TrAt.keep {w w' : World} {base : Nat} {own own' : Nat → Nat} {i : Nat} {x : RX} (h : TrAt w base own i x) (ho : ∀ k, k < w.heap.size → own' k = own k)
    (hk : ∀ g, g < base ∨ own g = 6 + 3 * i ∨ own g = 7 + 3 * i → g < w.heap.size → w'.heap[g]? = w.heap[g]?) : TrAt w' base own' i x :=
  ⟨h.code.keepN fun g hn hg hl => hk g (.inl (h.codeT g hn hg)) hl, h.codeT, h.wait.keep fun g hg hl => hk g (.inr (.inl (h.waitT g hg))) hl, fun g hg => by rw [ho _ (h.wait.lt hg).2]; exact h.waitT g hg,
    ownRow_keep h.out fun g hg hl => hk g (.inr (.inr (h.outT g hg))) hl, fun g hg => by rw [ho _ (rowLt h.out hg).2]; exact h.outT g hg⟩

variable {w w' : World} {base b : Nat} {own own' : Nat → Nat} {mm : MM} {xs : List RX} {mv tv ev : Value}

theorem RAt.lt (h : RAt w base b own mm xs mv tv ev) : b < w.heap.size := lt_of_block h.blk
theorem RAt.base_le (h : RAt w base b own mm xs mv tv ev) : base ≤ w.heap.size := Nat.le_trans h.bT.1 (Nat.le_of_lt h.lt)

theorem RAt.zero (h : RAt w base b own mm xs mv tv ev) {g : Nat} (hg : g < base) : own g = 0 := Classical.byContradiction fun e => by have := h.low g e; omega
theorem RAt.keep (h : RAt w base b own mm xs mv tv ev) (hs : w.heap.size ≤ w'.heap.size) (hk : ∀ g, own g ≠ 0 ∨ g < base → g < w.heap.size → w'.heap[g]? = w.heap[g]?) : RAt w' base b own mm xs mv tv ev :=
  ⟨(hk b (.inl (by rw [h.bT.2]; decide)) h.lt).trans h.blk, h.bT, ownRow_keep h.mem fun g hg hl => hk g (.inl (by rw [h.memT g hg]; decide)) hl, h.memT,
    ownRow_keep h.ths fun g hg hl => hk g (.inl (by rw [h.thsT g hg]; decide)) hl, h.thsT,
    ownRow_keep h.evs fun g hg hl => hk g (.inl (by rw [h.evsT g hg]; decide)) hl, h.evsT, h.same,
    fun i x hx => (h.th i x hx).keep (fun _ _ => rfl) fun g hg hl => hk g (by omega) hl, fun k hk' => h.fresh k (by omega), h.low⟩
theorem RAt.below (h : RAt w base b own mm xs mv tv ev) (hb : Below w.heap.size w w') : RAt w' base b own mm xs mv tv ev := h.keep hb.size fun g _ hl => hb.block g hl
theorem RAt.drewN (h : RAt w base b own mm xs mv tv ev) (n : Nat) : RAt (w.drewN n) base b own mm xs mv tv ev := h.keep (Nat.le_refl _) fun g _ hl => rfl
theorem RAt.drew (h : RAt w base b own mm xs mv tv ev) : RAt w.drew base b own mm xs mv tv ev := h.keep (Nat.le_refl _) fun g _ hl => rfl
/-- a change of blocks that are none of the machine's -/
theorem RAt.chg {S : Nat → Prop} (h : RAt w base b own mm xs mv tv ev) (hc : Chg S w w') (hs : ∀ k, own k ≠ 0 ∨ k < base → ¬ S k) : RAt w' base b own mm xs mv tv ev := h.keep hc.size fun g hg hl => hc.block g hl (hs g hg)

theorem RAt.th_at (h : RAt w base b own mm xs mv tv ev) {n : Nat} {x : RX} (hx : xs[n]? = some x) : mm.ths[n]? = some x.th := by rw [h.same]; simp [hx]

/-- the threads' block -/
theorem RAt.tslice (h : RAt w base b own mm xs mv tv ev) {n : Nat} {x : RX} (hx : xs[n]? = some x) : ∃ tb cap, tv = .slice (some ⟨tb, 0, none⟩) xs.length cap ∧ own tb = 3 := by
  have hl := (List.getElem?_eq_some_iff.1 hx).1
  obtain ⟨ao, cap, rfl⟩ := ownsRow_shape h.ths
  obtain ⟨tb, cur, rfl, _⟩ := ownsRow_some h.ths (by omega)
  exact ⟨tb, cap, rfl, h.thsT tb rfl⟩
/-- one cell of a thread -/
theorem RAt.cell {tb cap : Nat} (h : RAt w base b own mm xs mv (.slice (some ⟨tb, 0, none⟩) xs.length cap) ev) {n : Nat} {x : RX} (hx : xs[n]? = some x) (j : Nat) (u : Value) (hu : (encR x)[j]? = some u) : w.cell? ⟨tb, n * 13 + j, none⟩ = some u := by
  obtain ⟨b', off, e1, hb, hc⟩ := RdT.at (enc := encR) encR_len (Rd.of_own h.ths) hx
  simp only [Option.some.injEq, Addr.mk.injEq, and_true] at e1
  obtain ⟨rfl, rfl⟩ := e1
  have := hc j u hu
  rwa [Nat.zero_add] at this
theorem RAt.free {tb cap : Nat} (h : RAt w base b own mm xs mv (.slice (some ⟨tb, 0, none⟩) xs.length cap) ev) (hn : 0 < xs.length) (o : Nat) : w.frozen? ⟨tb, o, none⟩ = false := by
  obtain ⟨tb', cur, e1, _, hg, _⟩ := ownsRow_some h.ths hn
  simp only [Option.some.injEq, Addr.mk.injEq, and_true] at e1
  subst e1
  exact free_of_block hg
theorem RAt.wcell (h : RAt w base b own mm xs mv tv ev) (j : Nat) (u : Value) (hu : (#[mv, tv, ev])[j]? = some u) : w.cell? ⟨b, j, none⟩ = some u := cell_of_block h.blk hu
theorem RAt.wfree (h : RAt w base b own mm xs mv tv ev) (o : Nat) : w.frozen? ⟨b, o, none⟩ = false := free_of_block h.blk

/-- one cell of a thread is written: its parts stay where they are -/
theorem RAt.poke {tb cap : Nat} (h : RAt w base b own mm xs mv (.slice (some ⟨tb, 0, none⟩) xs.length cap) ev) {n : Nat} {x : RX} (hx : xs[n]? = some x) (y : RX) (j : Nat) (u : Value) (hj : j < 13) (he : encR y = (encR x).set j u)
    (h1 : y.cv = x.cv) (h2 : y.th.code = x.th.code) (h3 : y.wv = x.wv) (h4 : y.th.wait = x.th.wait) (h5 : y.ov = x.ov) (h6 : y.th.out = x.th.out) :
    RAt (w.setCell ⟨tb, n * 13 + j, none⟩ u) base b own (mm.put n y.th) (xs.set n y) mv (.slice (some ⟨tb, 0, none⟩) (xs.set n y).length cap) ev := by
  have hk : ∀ g, own g ≠ 3 → (w.setCell ⟨tb, n * 13 + j, none⟩ u).heap[g]? = w.heap[g]? := fun g hg => Below.heap_setCell _ _ _ _ fun e => hg (by rw [e]; exact h.thsT tb rfl)
  have hk' : ∀ i g, g < base ∨ own g = 6 + 3 * i ∨ own g = 7 + 3 * i → (w.setCell ⟨tb, n * 13 + j, none⟩ u).heap[g]? = w.heap[g]? := fun i g hg => hk g (by
    rcases hg with e | e | e
    · rw [h.zero e]; decide
    · omega
    · omega)
  have hr := (rowSet encR_len h.ths hx he hj).2
  refine ⟨by rw [List.length_set]; exact (hk b (by rw [h.bT.2]; decide)).trans h.blk, h.bT, ownRow_keep h.mem fun g hg _ => hk g (by rw [h.memT g hg]; decide), h.memT, by rw [List.length_set]; exact hr, h.thsT, ownRow_keep h.evs fun g hg _ => hk g (by rw [h.evsT g hg]; decide), h.evsT,
    by rw [MM.put, List.map_set, h.same], fun i z hz => ?_, fun k hk' => h.fresh k (by rw [heapSize_setCell] at hk'; exact hk'), h.low⟩
  rw [List.getElem?_set] at hz
  split at hz
  · rename_i e
    subst e
    split at hz
    · cases hz
      have ht := (h.th n x hx).keep (w' := w.setCell ⟨tb, n * 13 + j, none⟩ u) (own' := own) (fun _ _ => rfl) fun g hg _ => hk' n g hg
      exact ⟨by rw [h1, h2]; exact ht.code, by rw [h1, h2]; exact ht.codeT, by rw [h3, h4]; exact ht.wait, by rw [h3]; exact ht.waitT, by rw [h5, h6]; exact ht.out, by rw [h5]; exact ht.outT⟩
    · cases hz
  · exact (h.th i z hz).keep (fun _ _ => rfl) fun g hg _ => hk' i g hg

/-- one word -/
theorem RAt.word {mb mc : Nat} (h : RAt w base b own mm xs (.slice (some ⟨mb, 0, none⟩) mm.mem.length mc) tv ev) {a : Nat} (ha : a < mm.mem.length) (v : Int) :
    RAt (w.setCell ⟨mb, a, none⟩ (.int .i64 v)) base b own { mm with mem := mm.mem.set a v } xs (.slice (some ⟨mb, 0, none⟩) mm.mem.length mc) tv ev := by
  have hk : ∀ g, own g ≠ 2 → (w.setCell ⟨mb, a, none⟩ (.int .i64 v)).heap[g]? = w.heap[g]? := fun g hg => Below.heap_setCell _ _ _ _ fun e => hg (by rw [e]; exact h.memT mb rfl)
  have hr := (rowSet (j := 0) (y := v) (u := .int .i64 v) encI_len h.mem (List.getElem?_eq_getElem ha) rfl (by decide)).2
  rw [Nat.mul_one, Nat.add_zero] at hr
  exact ⟨(hk b (by rw [h.bT.2]; decide)).trans h.blk, h.bT, by rw [List.length_set]; exact hr, h.memT, ownRow_keep h.ths fun g hg _ => hk g (by rw [h.thsT g hg]; decide), h.thsT, ownRow_keep h.evs fun g hg _ => hk g (by rw [h.evsT g hg]; decide), h.evsT, h.same,
    fun i z hz => (h.th i z hz).keep (fun _ _ => rfl) fun g hg _ => hk g (by
      rcases hg with e | e | e
      · rw [h.zero e]; decide
      · omega
      · omega), fun k hk' => h.fresh k (by rw [heapSize_setCell] at hk'; exact hk'), h.low⟩
theorem RAt.mslice (h : RAt w base b own mm xs mv tv ev) (hm : 0 < mm.mem.length) : ∃ mb cap, mv = .slice (some ⟨mb, 0, none⟩) mm.mem.length cap ∧ own mb = 2 := by
  obtain ⟨ao, cap, rfl⟩ := ownsRow_shape h.mem
  obtain ⟨mb, cur, rfl, _⟩ := ownsRow_some h.mem hm
  exact ⟨mb, cap, rfl, h.memT mb rfl⟩
theorem RAt.mcell {mb mc : Nat} (h : RAt w base b own mm xs (.slice (some ⟨mb, 0, none⟩) mm.mem.length mc) tv ev) {a : Nat} (ha : a < mm.mem.length) : w.cell? ⟨mb, a, none⟩ = some (.int .i64 (mm.mem.getD a 0)) := by
  obtain ⟨b', off, e1, hb, hc⟩ := RdT.at (enc := encI) encI_len (Rd.of_own h.mem) (List.getElem?_eq_getElem ha)
  simp only [Option.some.injEq, Addr.mk.injEq, and_true] at e1
  obtain ⟨rfl, rfl⟩ := e1
  have := hc 0 _ rfl
  rw [Nat.zero_add, Nat.mul_one, Nat.add_zero] at this
  rw [this]
  simp [List.getD, ha]
theorem RAt.mfree {mb mc : Nat} (h : RAt w base b own mm xs (.slice (some ⟨mb, 0, none⟩) mm.mem.length mc) tv ev) (hn : 0 < mm.mem.length) (o : Nat) : w.frozen? ⟨mb, o, none⟩ = false := by
  obtain ⟨tb', cur, e1, _, hg, _⟩ := ownsRow_some h.mem hn
  simp only [Option.some.injEq, Addr.mk.injEq, and_true] at e1
  subst e1
  exact free_of_block hg

theorem retag_low {own : Nat → Nat} {v : Value} {p n base k : Nat} (hb : base ≤ n) (hl : ∀ k, own k ≠ 0 → base ≤ k) (h : retag own v p n k ≠ 0) : base ≤ k := by
  unfold retag at h
  split at h
  · rename_i e; omega
  · exact hl k h

/-- events -/
theorem RAt.event (h : RAt w base b own mm xs mv tv ev) (es : List Ev) (ev' : Value) (hc : Chg (fun k => k = b ∨ ev.ownBlock = some k) w w') (hb : w'.heap[b]? = some (.cells #[mv, tv, ev'] 115 (0, 0)))
    (he : w'.ownsRow base 154 4 ev' es.length (es.flatMap encEv)) (hf : ∀ g, ev'.ownBlock = some g → ev.ownBlock = some g ∨ w.heap.size ≤ g) :
    RAt w' base b (retag own ev' 4 w.heap.size) { mm with evs := es } xs mv tv ev' := by
  have ho : ∀ k, k < w.heap.size → retag own ev' 4 w.heap.size k = own k := fun k hk => retag_old hk
  have hk : ∀ g, own g ≠ 1 → own g ≠ 4 → g < w.heap.size → w'.heap[g]? = w.heap[g]? := fun g h1 h4 hl => hc.block g hl fun e => by
    rcases e with e | e
    · exact h1 (by rw [e]; exact h.bT.2)
    · exact h4 (h.evsT g e)
  exact ⟨hb, ⟨h.bT.1, by rw [ho _ h.lt]; exact h.bT.2⟩, ownRow_keep h.mem fun g hg hl => hk g (by rw [h.memT g hg]; decide) (by rw [h.memT g hg]; decide) hl, fun g hg => by rw [ho _ (rowLt h.mem hg).2]; exact h.memT g hg,
    ownRow_keep h.ths fun g hg hl => hk g (by rw [h.thsT g hg]; decide) (by rw [h.thsT g hg]; decide) hl, fun g hg => by rw [ho _ (rowLt h.ths hg).2]; exact h.thsT g hg, he, fun g hg => retag_new hf h.evsT hg, h.same,
    fun i z hz => (h.th i z hz).keep ho fun g hg hl => by
      rcases hg with e | e | e
      · exact hk g (by rw [h.zero e]; decide) (by rw [h.zero e]; decide) hl
      · exact hk g (by omega) (by omega) hl
      · exact hk g (by omega) (by omega) hl, fun k hk' => retag_fresh (fun g hg => (rowLt he hg).2) (h.fresh k (by have := hc.size; omega)) hk', fun k => retag_low h.base_le h.low⟩

/-- a thread tells -/
theorem RAt.told {tb cap : Nat} (h : RAt w base b own mm xs mv (.slice (some ⟨tb, 0, none⟩) xs.length cap) ev) {n : Nat} {x : RX} (hx : xs[n]? = some x) (os : List Int) (nv : Value) (hc : Chg (fun k => x.ov.ownBlock = some k) w w')
    (he : w'.ownsRow base 2 1 nv os.length (os.flatMap encI)) (hf : ∀ g, nv.ownBlock = some g → x.ov.ownBlock = some g ∨ w.heap.size ≤ g) :
    RAt (w'.setCell ⟨tb, n * 13 + 11, none⟩ nv) base b (retag own nv (7 + 3 * n) w.heap.size) (mm.put n { x.th with out := os }) (xs.set n { x with th := { x.th with out := os }, ov := nv }) mv (.slice (some ⟨tb, 0, none⟩) (xs.set n { x with th := { x.th with out := os }, ov := nv }).length cap) ev := by
  have ho : ∀ k, k < w.heap.size → retag own nv (7 + 3 * n) w.heap.size k = own k := fun k hk => retag_old hk
  have hx7 := (h.th n x hx).outT
  have hk0 : ∀ g, own g ≠ 7 + 3 * n → g < w.heap.size → w'.heap[g]? = w.heap[g]? := fun g h1 hl => hc.block g hl fun e => h1 (hx7 g e)
  have hk : ∀ g, own g ≠ 3 → own g ≠ 7 + 3 * n → g < w.heap.size → (w'.setCell ⟨tb, n * 13 + 11, none⟩ nv).heap[g]? = w.heap[g]? := fun g h3 h7 hl => by
    rw [Below.heap_setCell _ _ _ _ fun e => h3 (by rw [e]; exact h.thsT tb rfl)]
    exact hk0 g h7 hl
  have htb : tb < w.heap.size := (rowLt h.ths rfl).2
  have hr := (rowSet (j := 11) (y := { x with th := { x.th with out := os }, ov := nv }) (u := nv) encR_len (ownRow_keep h.ths fun g hg hl => hk0 g (by rw [h.thsT g hg]; omega) hl) hx rfl (by decide)).2
  have hntb : ∀ g, nv.ownBlock = some g → g ≠ tb := fun g hg e => by
    rcases hf g hg with e' | e'
    · have := hx7 g e'; rw [e, h.thsT tb rfl] at this; omega
    · omega
  refine ⟨by rw [List.length_set]; exact (hk b (by rw [h.bT.2]; decide) (by rw [h.bT.2]; omega) h.lt).trans h.blk, ⟨h.bT.1, by rw [ho _ h.lt]; exact h.bT.2⟩, ownRow_keep h.mem fun g hg hl => hk g (by rw [h.memT g hg]; decide) (by rw [h.memT g hg]; omega) hl, fun g hg => by rw [ho _ (rowLt h.mem hg).2]; exact h.memT g hg,
    by rw [List.length_set]; exact hr, fun g hg => by rw [ho _ (rowLt h.ths hg).2]; exact h.thsT g hg, ownRow_keep h.evs fun g hg hl => hk g (by rw [h.evsT g hg]; decide) (by rw [h.evsT g hg]; omega) hl, fun g hg => by rw [ho _ (rowLt h.evs hg).2]; exact h.evsT g hg,
    by rw [MM.put, List.map_set, h.same], fun i z hz => ?_, fun k hk' => by rw [heapSize_setCell] at hk'; exact retag_fresh (fun g hg => (rowLt he hg).2) (h.fresh k (by have := hc.size; omega)) hk', fun k => retag_low h.base_le h.low⟩
  have hkl : ∀ g, g < base → g < w.heap.size → (w'.setCell ⟨tb, n * 13 + 11, none⟩ nv).heap[g]? = w.heap[g]? := fun g e hl => hk g (by rw [h.zero e]; decide) (by rw [h.zero e]; omega) hl
  rw [List.getElem?_set] at hz
  split at hz
  · rename_i e
    subst e
    split at hz
    · cases hz
      have ht := h.th n x hx
      exact ⟨ht.code.keepN fun g hn hg hl => hkl g (ht.codeT g hn hg) hl, ht.codeT, ht.wait.keep fun g hg hl => hk g (by rw [ht.waitT g hg]; omega) (by rw [ht.waitT g hg]; omega) hl, fun g hg => by rw [ho _ (ht.wait.lt hg).2]; exact ht.waitT g hg,
        ownRow_keep he fun g hg _ => Below.heap_setCell _ _ _ _ (hntb g hg), fun g hg => retag_new hf hx7 hg⟩
    · cases hz
  · rename_i hne
    exact (h.th i z hz).keep ho fun g hg hl => by
      rcases hg with e | e | e
      · exact hkl g e hl
      · exact hk g (by omega) (by omega) hl
      · exact hk g (by omega) (by omega) hl

/-- the stores of a thread that wait are others -/
theorem RAt.waited {tb cap : Nat} (h : RAt w base b own mm xs mv (.slice (some ⟨tb, 0, none⟩) xs.length cap) ev) {n : Nat} {x : RX} (hx : xs[n]? = some x) (q : List (Int × Int)) (nv : Value) (hc : Chg (fun k => x.wv.ownBlock = some k) w w')
    (he : CutRow w' base 105 2 nv q.length (q.flatMap encCell)) (hf : ∀ g, nv.ownBlock = some g → x.wv.ownBlock = some g ∨ w.heap.size ≤ g) :
    RAt (w'.setCell ⟨tb, n * 13 + 10, none⟩ nv) base b (retag own nv (6 + 3 * n) w.heap.size) (mm.put n { x.th with wait := q }) (xs.set n { x with th := { x.th with wait := q }, wv := nv }) mv (.slice (some ⟨tb, 0, none⟩) (xs.set n { x with th := { x.th with wait := q }, wv := nv }).length cap) ev := by
  have ho : ∀ k, k < w.heap.size → retag own nv (6 + 3 * n) w.heap.size k = own k := fun k hk => retag_old hk
  have hx7 := (h.th n x hx).waitT
  have hk0 : ∀ g, own g ≠ 6 + 3 * n → g < w.heap.size → w'.heap[g]? = w.heap[g]? := fun g h1 hl => hc.block g hl fun e => h1 (hx7 g e)
  have hk : ∀ g, own g ≠ 3 → own g ≠ 6 + 3 * n → g < w.heap.size → (w'.setCell ⟨tb, n * 13 + 10, none⟩ nv).heap[g]? = w.heap[g]? := fun g h3 h7 hl => by
    rw [Below.heap_setCell _ _ _ _ fun e => h3 (by rw [e]; exact h.thsT tb rfl)]
    exact hk0 g h7 hl
  have htb : tb < w.heap.size := (rowLt h.ths rfl).2
  have hr := (rowSet (j := 10) (y := { x with th := { x.th with wait := q }, wv := nv }) (u := nv) encR_len (ownRow_keep h.ths fun g hg hl => hk0 g (by rw [h.thsT g hg]; omega) hl) hx rfl (by decide)).2
  have hntb : ∀ g, nv.ownBlock = some g → g ≠ tb := fun g hg e => by
    rcases hf g hg with e' | e'
    · have := hx7 g e'; rw [e, h.thsT tb rfl] at this; omega
    · omega
  refine ⟨by rw [List.length_set]; exact (hk b (by rw [h.bT.2]; decide) (by rw [h.bT.2]; omega) h.lt).trans h.blk, ⟨h.bT.1, by rw [ho _ h.lt]; exact h.bT.2⟩, ownRow_keep h.mem fun g hg hl => hk g (by rw [h.memT g hg]; decide) (by rw [h.memT g hg]; omega) hl, fun g hg => by rw [ho _ (rowLt h.mem hg).2]; exact h.memT g hg,
    by rw [List.length_set]; exact hr, fun g hg => by rw [ho _ (rowLt h.ths hg).2]; exact h.thsT g hg, ownRow_keep h.evs fun g hg hl => hk g (by rw [h.evsT g hg]; decide) (by rw [h.evsT g hg]; omega) hl, fun g hg => by rw [ho _ (rowLt h.evs hg).2]; exact h.evsT g hg,
    by rw [MM.put, List.map_set, h.same], fun i z hz => ?_, fun k hk' => by rw [heapSize_setCell] at hk'; exact retag_fresh (fun g hg => (he.lt hg).2) (h.fresh k (by have := hc.size; omega)) hk', fun k => retag_low h.base_le h.low⟩
  have hkl : ∀ g, g < base → g < w.heap.size → (w'.setCell ⟨tb, n * 13 + 10, none⟩ nv).heap[g]? = w.heap[g]? := fun g e hl => hk g (by rw [h.zero e]; decide) (by rw [h.zero e]; omega) hl
  rw [List.getElem?_set] at hz
  split at hz
  · rename_i e
    subst e
    split at hz
    · cases hz
      have ht := h.th n x hx
      exact ⟨ht.code.keepN fun g hn hg hl => hkl g (ht.codeT g hn hg) hl, ht.codeT, he.keep fun g hg _ => Below.heap_setCell _ _ _ _ (hntb g hg), fun g hg => retag_new hf hx7 hg,
        ownRow_keep ht.out fun g hg hl => hk g (by rw [ht.outT g hg]; omega) (by rw [ht.outT g hg]; omega) hl, fun g hg => by rw [ho _ (rowLt ht.out hg).2]; exact ht.outT g hg⟩
    · cases hz
  · rename_i hne
    exact (h.th i z hz).keep ho fun g hg hl => by
      rcases hg with e | e | e
      · exact hkl g e hl
      · exact hk g (by omega) (by omega) hl
      · exact hk g (by omega) (by omega) hl

/-- what a call leaves behind: a machine in the old one's place -/
def RGoes (w : World) (base b : Nat) (own : Nat → Nat) (mm' : MM) (w' : World) : Prop :=
  (∃ own' xs mv tv ev, RAt w' base b own' mm' xs mv tv ev ∧ ∀ k, k < w.heap.size → own' k = own k) ∧ Chg (fun k => own k ≠ 0) w w'
end

section
variable {w w' : World} {base b : Nat} {own own' : Nat → Nat} {mm : MM} {xs : List RX} {mv tv ev : Value}

/-- what tell leaves -/
def RevPost (base b : Nat) (own : Nat → Nat) (mm : MM) (xs : List RX) (mv tv : Value) (w w' : World) : Prop :=
  (∃ own' ev', RAt w' base b own' mm xs mv tv ev' ∧ ∀ k, k < w.heap.size → own' k = own k) ∧ Chg (fun k => own k = 1 ∨ own k = 4) w w'

set_option maxHeartbeats 1000000 in
theorem rtell_any (h : RAt w base b own mm xs mv tv ev) (hlen : mm.evs.length < 2000000000) (n : Nat) (k a c : Int) :
    Calls Tryz.prog 191 #[.pointer (some ⟨b, 0, none⟩), .int .i64 (n : Int), .int .u8 k, .int .i64 a, .int .i64 c] w fun r w' => r = .returned (.tuple #[]) ∧ RevPost base b own (mm.tell n k a c) xs mv tv w w' := by
  have c2 := h.wcell 2 _ rfl
  obtain ⟨i0, hi, hz0, hz1, hz2⟩ := info_parts evInfo
  have H := hidI h
  have HL := hidI hlen
  clear h hlen
  go_enter Tryz.func191, Tryz.ntmps191
  go_wp2_with (at_builtin; refine wpList_append_d _ rfl _ _ 58 rfl base 154 i0 _ 4 32 Tryz.underlying58 hi hz0 hz1 hz2 rfl (by decide) _ _ _ rfl (ownsRow_chg H.out.evs ((Chg.refl (fun _ => False) w).alloc _) (fun _ _ => id)) ⟨w.heap.size, 0, none⟩ 1 1 (encEv ⟨n, k, a, c⟩) rfl rfl ?c1 ?c2 ?c3 ?c4 ?c5 ?_)
  case c1 => first | exact news_at (block_new _ _) | exact fun j u h => h
  case c2 => exact one_ev _
  case c3 => have := HL.out; unfold maxLen; omega
  case c4 => have := HL.out; omega
  case c5 => have := H.out.base_le; simp; omega
  intro ao cp w1 hown hfrom hgrown
  have hc := Chg.grown (S := fun k => ev.ownBlock = some k) ((Chg.refl _ w).alloc (.cells (encEv ⟨n, k, a, c⟩).toArray 154)) hgrown (fun k hk => .inl hk)
  have hb1 := chgblk hc H.out.blk (fun hk => by have h1 := H.out.evsT _ hk; rw [H.out.bT.2] at h1; exact absurd h1 (by decide))
  have f1 := free_of_block (o := 2) hb1
  have f2 : w1.cell? ⟨b, 2, none⟩ = some ev := cell_of_block hb1 rfl
  have HB := hidI hb1
  have HC := hidI hc
  have HO := hidI hown
  have HF := hidI hfrom
  clear hb1 hc hown hfrom hgrown hi hz0 hz1 hz2
  go_wp2_with fail
  have hset := block_setCell (o := 2) (.slice ao (mm.evs.length + 1) cp) HB.out
  have hne : ∀ g, (Value.slice ao (mm.evs.length + 1) cp).ownBlock = some g → ev.ownBlock = some g ∨ w.heap.size ≤ g := fun g hg => by
    rcases HF.out g hg with e | e
    · exact .inl e
    · exact .inr (by omega)
  have hchg : Chg (fun k => k = b ∨ ev.ownBlock = some k) w (w1.setCell ⟨b, 2, none⟩ (.slice ao (mm.evs.length + 1) cp)) :=
    (Chg.then_ (S := fun k => k = b ∨ ev.ownBlock = some k) (Chg.refl _ w) HC.out (fun k _ hk => .inr hk)).setCell (p := ⟨b, 2, none⟩) (.inl (.inl rfl)) _
  have hm := H.out.event (mm.evs ++ [⟨n, k, a, c⟩]) (.slice ao (mm.evs.length + 1) cp) hchg hset (by
    rw [List.length_append, flat_snoc]
    exact ownRow_keep HO.out fun g hg hlt => Below.heap_setCell _ _ _ _ (fun e => by
      rcases hne g hg with h1 | h1
      · have h2 := H.out.evsT _ h1; rw [e, H.out.bT.2] at h2; exact absurd h2 (by decide)
      · have := H.out.lt; simp only at e; omega)) hne
  go_end0
  exact ⟨rfl, ⟨_, _, hm, fun k hk => retag_old hk⟩, hchg.imp fun k _ hk => by
    rcases hk with rfl | hk
    · exact .inl H.out.bT.2
    · exact .inr (H.out.evsT k hk)⟩

theorem RGoes.of_ev {w1 : World} {mm' : MM} (hc : Chg (fun k => own k ≠ 0) w w1) (hp : RevPost base b own mm' xs mv tv w1 w') : RGoes w base b own mm' w' := by
  obtain ⟨⟨own', ev', hm, ho⟩, hc2⟩ := hp
  exact ⟨⟨own', xs, mv, tv, ev', hm, fun k hk => ho k (Nat.lt_of_lt_of_le hk hc.size)⟩, Chg.then_ hc hc2 (fun k _ hk => by omega)⟩
/-- a cell of the machine's own is written -/
theorem RAt.chg3 {tb cap : Nat} (h : RAt w base b own mm xs mv (.slice (some ⟨tb, 0, none⟩) xs.length cap) ev) (o : Nat) (u : Value) : Chg (fun k => own k ≠ 0) w (w.setCell ⟨tb, o, none⟩ u) :=
  (Chg.refl _ w).setCell (p := ⟨tb, o, none⟩) (.inl (by rw [h.thsT tb rfl]; decide)) u
theorem RAt.goes (h : RAt w' base b own mm xs mv tv ev) (hc : Chg (fun k => own k ≠ 0) w w') : RGoes w base b own mm w' := ⟨⟨own, xs, mv, tv, ev, h, fun _ _ => rfl⟩, hc⟩

set_option maxHeartbeats 1000000 in
theorem rend_any {tb cap n : Nat} {x : RX} (h : RAt w base b own mm xs mv (.slice (some ⟨tb, 0, none⟩) xs.length cap) ev) (hx : xs[n]? = some x) (hlen : mm.evs.length < 2000000000) (h4 : xs.length ≤ 4) (k : Int) (hk : 0 ≤ k ∧ k < 256) :
    Calls Tryz.prog 53 #[.pointer (some ⟨b, 0, none⟩), .int .i64 (n : Int), .int .u8 k] w fun r w' => r = .returned (.tuple #[]) ∧ RGoes w base b own (mm.stop n x.th k) w' := by
  have hn : n < xs.length := (List.getElem?_eq_some_iff.1 hx).1
  have c1 := h.wcell 1 _ rfl
  have e12 := h.cell hx 12 _ rfl
  have f12 := h.free (by omega) (n * 13 + 12)
  have hp := h.poke hx { x with th := { x.th with fin := k } } 12 (.int .u8 k) (by decide) rfl rfl rfl rfl rfl rfl rfl
  have hc := h.chg3 (n * 13 + 12) (.int .u8 k)
  have HP := hidI hp
  have HC := hidI hc
  have HL : Hid ((mm.put n { x.th with fin := k }).evs.length < 2000000000) := hidI hlen
  clear h hx hp hc hlen
  by_cases h1 : k = 1
  · subst h1
    go_enter Tryz.func53, Tryz.ntmps53
    go_wp2_with fail
    refine (rtell_any HP.out HL.out n 10 0 0).mono ?_
    rintro r w1 ⟨rfl, hp⟩
    have HQ := hidI hp
    clear hp
    go_wp2_with fail
    go_end0
    exact ⟨rfl, RGoes.of_ev HC.out HQ.out⟩
  · have h1' : (k == 1) = false := by rw [beq_eq_false_iff_ne]; exact h1
    have e1 : IntKind.i64.wrap k = k := IntWalk.i64_in _ (by omega)
    go_enter Tryz.func53, Tryz.ntmps53
    go_wp2_with fail
    refine (rtell_any HP.out HL.out n 11 k 0).mono ?_
    rintro r w1 ⟨rfl, hp⟩
    have HQ := hidI hp
    clear hp
    go_wp2_with fail
    go_end0
    refine ⟨rfl, ?_⟩
    unfold MM.stop
    rw [if_neg h1, if_neg h1]
    exact RGoes.of_ev HC.out HQ.out

set_option maxHeartbeats 1000000 in
theorem rthere_any (h : RAt w base b own mm xs mv tv ev) (a : Int) (hl : mm.mem.length ≤ 262144) :
    Calls Tryz.prog 55 #[.pointer (some ⟨b, 0, none⟩), .int .i64 a] w fun r w' => r = .returned (.bool (mm.has a)) ∧ w' = w := by
  obtain ⟨ao, cp, rfl⟩ := ownsRow_shape h.mem
  have c0 := h.wcell 0 _ rfl
  have e1 : IntKind.i64.wrap (mm.mem.length : Int) = mm.mem.length := IntWalk.i64_in _ (by omega)
  clear h
  unfold MM.has
  by_cases h0 : a < 0
  · have hv : decide (0 ≤ a ∧ a < (mm.mem.length : Int)) = false := by simp; omega
    rw [hv]
    have h0' : ¬ a ≥ 0 := by omega
    clear hv
    go_enter Tryz.func55, Tryz.ntmps55
    go_wp2_with fail
    go_ret
    exact ⟨rfl, rfl⟩
  · have h0' : a ≥ 0 := by omega
    by_cases h1 : a < (mm.mem.length : Int)
    · have hv : decide (0 ≤ a ∧ a < (mm.mem.length : Int)) = true := by simp; omega
      rw [hv]
      clear hv
      go_enter Tryz.func55, Tryz.ntmps55
      go_wp2_with fail
      go_ret
      exact ⟨rfl, rfl⟩
    · have hv : decide (0 ≤ a ∧ a < (mm.mem.length : Int)) = false := by simp; omega
      rw [hv]
      clear hv
      go_enter Tryz.func55, Tryz.ntmps55
      go_wp2_with fail
      go_ret
      exact ⟨rfl, rfl⟩
end

section
variable {w w' : World} {base b : Nat} {own own' : Nat → Nat} {mm : MM} {xs : List RX} {mv tv ev : Value} {tb cap n : Nat} {x : RX}

/-- the place is set -/
theorem RGoes.at_ {w1 : World} {own1 : Nat → Nat} {mm1 : MM} {xs1 : List RX} {mv1 ev1 : Value} {y : RX} {nx : Int} (h : RAt w1 base b own1 mm1 xs1 mv1 (.slice (some ⟨tb, 0, none⟩) xs1.length cap) ev1) (hy : xs1[n]? = some y)
    (ho : ∀ k, k < w.heap.size → own1 k = own k) (hc : Chg (fun k => own k ≠ 0) w w1) : RGoes w base b own (mm1.put n { y.th with at_ := nx }) (w1.setCell ⟨tb, n * 13 + 9, none⟩ (.int .i64 nx)) := by
  have hp := h.poke hy { y with th := { y.th with at_ := nx } } 9 (.int .i64 nx) (by decide) rfl rfl rfl rfl rfl rfl rfl
  refine ⟨⟨own1, _, _, _, _, hp, ho⟩, hc.setCell (p := ⟨tb, n * 13 + 9, none⟩) ?_ _⟩
  have h3 := h.thsT tb rfl
  by_cases hl : tb < w.heap.size
  · exact .inl (by show own tb ≠ 0; rw [← ho tb hl, h3]; decide)
  · exact .inr (Nat.le_of_not_lt hl)

set_option maxRecDepth 100000 in
set_option maxHeartbeats 1000000 in
theorem rload_any (h : RAt w base b own mm xs mv (.slice (some ⟨tb, 0, none⟩) xs.length cap) ev) (hx : xs[n]? = some x) (hw : x.th.wait.length ≤ 64) {a : Nat} (ha : a < mm.mem.length) (hok : ∀ c ∈ x.th.wait, 0 ≤ c.1 ∧ c.1 < 262144) :
    Calls Tryz.prog 193 #[.pointer (some ⟨b, 0, none⟩), .pointer (some ⟨tb, n * 13, none⟩), .int .i64 (a : Int)] w fun r w' => r = .returned (.int .i64 (mm.found x.th a)) ∧ ∃ d, w' = w.drewN d := by
  have hn : n < xs.length := (List.getElem?_eq_some_iff.1 hx).1
  obtain ⟨mb, mc, rfl, hmb⟩ := h.mslice (by omega)
  have c0 := h.wcell 0 _ rfl
  obtain ⟨M0, hM0⟩ : ∃ M0, mm.mem.getD a 0 = M0 := ⟨_, rfl⟩
  have cM : w.cell? ⟨mb, a, none⟩ = some (.int .i64 M0) := by rw [← hM0]; exact h.mcell ha
  have c10 := h.cell hx 10 _ rfl
  have hcut := (h.th n x hx).wait
  obtain ⟨wo, wc, hwv⟩ := hcut.shape
  rw [hwv] at c10 hcut
  have HC := hidI hcut.rd
  have HW := hidI hw
  have HOK := hidI hok
  have HM := hidI (show mm.at (a : Int) = M0 from hM0)
  clear h hx hok hcut hwv hM0
  go_enter Tryz.func193, Tryz.ntmps193
  go_wp2_with fail
  go_loopw [7] (fun i wr => ∃ k : Nat, k ≤ x.th.wait.length ∧ i = .int .i64 ((k : Int) - 1) ∧ (∃ d, wr = w.drewN d) ∧ ∀ j y, k ≤ j → x.th.wait[j]? = some y → y.1 ≠ (a : Int)) (fun i _ => (intOf i + 1).toNat)
  case atStart => exact ⟨x.th.wait.length, Nat.le_refl _, rfl, ⟨0, rfl⟩, fun j y hj hy => by have := (List.getElem?_eq_some_iff.1 hy).1; omega⟩
  case round =>
    obtain ⟨k, hk, rfl, ⟨d, rfl⟩, hall⟩ := hrel
    have HA := hidI hall
    clear hall
    by_cases h0 : k = 0
    · subst h0
      go_wp2_with fail
      go_ret
      refine ⟨?_, d, rfl⟩
      unfold MM.found
      rw [findS_none (fun i x hx => HA.out i x (by omega) hx), HM.out]
      rfl
    · obtain ⟨m, rfl⟩ : ∃ m, k = m + 1 := ⟨k - 1, by omega⟩
      obtain ⟨y, hy⟩ := some_at (l := x.th.wait) (k := m) (by omega)
      obtain ⟨b1, o1, rfl, hs1, hc1⟩ := RdT.at encCell_len HC.out hy
      have x0 := hc1 0 _ rfl
      have x1 := hc1 1 _ rfl
      simp only [Nat.add_zero] at x0
      have HX := hidI hy
      have hb := HOK.out y (List.mem_of_getElem? hy)
      have e0 : IntKind.i64.wrap y.1 = y.1 := IntWalk.i64_in _ (by omega)
      have e1 : (((m + 1 : Nat) : Int) - 1) = m := by omega
      have hm64 : m < 64 := by omega
      rw [e1]
      clear hy hc1 hs1 e1 h0 hb
      by_cases ha : y.1 = (a : Int)
      · have ta : ((y.1 : Int) == (a : Int)) = true := by rw [ha]; simp
        go_wp2_with fail
        go_ret
        refine ⟨?_, d, rfl⟩
        unfold MM.found
        rw [findS_some HX.out ha (fun i y hi hy => HA.out i y (by omega) hy)]
        rfl
      · have ta : ((y.1 : Int) == (a : Int)) = false := by rw [beq_eq_false_iff_ne]; exact ha
        go_wp2_with fail
        refine ⟨⟨m, by omega, rfl, ⟨d, rfl⟩, fun j z hj hz => ?_⟩, by simp [intOf]⟩
        rcases Nat.lt_or_ge m j with h | h
        · exact HA.out j z h hz
        · obtain rfl : j = m := by omega
          have := HX.out
          rw [hz] at this
          simp only [Option.some.injEq] at this
          subst this
          exact ha

set_option maxRecDepth 100000 in
set_option maxHeartbeats 2000000 in
theorem rword_any (h : RAt w base b own mm xs mv (.slice (some ⟨tb, 0, none⟩) xs.length cap) ev) (hx : xs[n]? = some x) (o : OpD) (ho : OpOk o) :
    Calls Tryz.prog 54 #[.pointer (some ⟨tb, n * 13, none⟩), .agg (encOp o).toArray] w fun r w' => r = .returned (.tuple #[.int .i64 ((x.th.word o).getD 0), .bool (x.th.word o).isSome]) ∧ Below w.heap.size w w' := by
  obtain ⟨kind, cal, ra, rb, rc, num⟩ := o
  obtain ⟨rb', rfl⟩ : ∃ q : Nat, rb = q := ⟨rb.toNat, by have := ho.rb; simp only at this; omega⟩
  obtain ⟨ra', rfl⟩ : ∃ q : Nat, ra = q := ⟨ra.toNat, by have := ho.ra; simp only at this; omega⟩
  have hB8 : rb' < 8 := by have := ho.rb; simp only at this; omega
  have hA8 : ra' < 8 := by have := ho.ra; simp only at this; omega
  have hBi : (rb' : Int) < 8 := by omega
  have hAi : (ra' : Int) < 8 := by omega
  obtain ⟨w0, hw0⟩ : ∃ w0, w0 = w.alloc (.cells #[.int .u8 kind, .int .u8 cal, .int .u8 (ra' : Int), .int .u8 (rb' : Int), .int .u8 rc, .int .i64 num] 44) := ⟨_, rfl⟩
  have hb0 : Below w.heap.size w w0 := by rw [hw0]; exact (Below.refl _ _).alloc (Nat.le_refl _) _
  have h0 := h.below hb0
  have rA : w0.cell? ⟨tb, n * 13 + 1 + ra', none⟩ = some (.int .i64 (x.th.reg ra')) := by rw [Nat.add_assoc]; exact h0.cell hx _ _ (encR_reg x ra' hA8)
  have rB : w0.cell? ⟨tb, n * 13 + 1 + rb', none⟩ = some (.int .i64 (x.th.reg rb')) := by rw [Nat.add_assoc]; exact h0.cell hx _ _ (encR_reg x rb' hB8)
  have hbox := block_new w (.cells #[.int .u8 kind, .int .u8 cal, .int .u8 (ra' : Int), .int .u8 (rb' : Int), .int .u8 rc, .int .i64 num] 44)
  rw [← hw0] at hbox
  have d0 : w0.cell? ⟨w.heap.size, 0, none⟩ = some (.int .u8 kind) := cell_of_block hbox rfl
  have d2 : w0.cell? ⟨w.heap.size, 2, none⟩ = some (.int .u8 (ra' : Int)) := cell_of_block hbox rfl
  have d3 : w0.cell? ⟨w.heap.size, 3, none⟩ = some (.int .u8 (rb' : Int)) := cell_of_block hbox rfl
  have d5 : w0.cell? ⟨w.heap.size, 5, none⟩ = some (.int .i64 num) := cell_of_block hbox rfl
  have HB := hidI hb0
  have hkind := ho.kind
  simp only at hkind
  clear h h0 hx ho hbox hb0
  unfold encOp
  by_cases hk : kind = 4 ∨ kind = 15
  · have hw : x.th.word ⟨kind, cal, ra', rb', rc, num⟩ = some (w64 (x.th.reg rb' + num)) := by unfold MT.word; rw [if_pos hk]; rfl
    rw [hw]
    clear hw hkind
    rcases hk with rfl | rfl
    all_goals (
      go_enter Tryz.func54, Tryz.ntmps54
      go_wp2_with fail
      simp only [← hw0]
      clear hw0
      try go_quiet (fail)
      go_wp2_with fail
      go_ret2
      refine ⟨?_, (by first | exact HB.out | exact below_drewN HB.out _ | exact HB.out.drew)⟩
      first | rfl | simp [w64])
  · by_cases hk2 : kind = 5 ∨ kind = 8 ∨ kind = 9
    · have hw : x.th.word ⟨kind, cal, ra', rb', rc, num⟩ = some (w64 (x.th.reg ra' + num)) := by unfold MT.word; rw [if_neg hk, if_pos hk2]; rfl
      rw [hw]
      clear hw hkind hk
      rcases hk2 with rfl | rfl | rfl
      all_goals (
        go_enter Tryz.func54, Tryz.ntmps54
        go_wp2_with fail
        simp only [← hw0]
        clear hw0
        try go_quiet (fail)
        go_wp2_with fail
        go_ret2
        refine ⟨?_, (by first | exact HB.out | exact below_drewN HB.out _ | exact HB.out.drew)⟩
        first | rfl | simp [w64])
    · have hw : x.th.word ⟨kind, cal, ra', rb', rc, num⟩ = none := by unfold MT.word; rw [if_neg hk, if_neg hk2]
      rw [hw]
      have k4 : (kind == 4) = false := by rw [beq_eq_false_iff_ne]; omega
      have k15 : (kind == 15) = false := by rw [beq_eq_false_iff_ne]; omega
      have k5 : (kind == 5) = false := by rw [beq_eq_false_iff_ne]; omega
      have k8 : (kind == 8) = false := by rw [beq_eq_false_iff_ne]; omega
      have k9 : (kind == 9) = false := by rw [beq_eq_false_iff_ne]; omega
      clear hw hk hk2 hkind
      go_enter Tryz.func54, Tryz.ntmps54
      go_wp2_with fail
      simp only [← hw0]
      clear hw0
      go_wp2_with fail
      go_ret2
      exact ⟨rfl, HB.out⟩
end

section
variable {w w' : World} {base b : Nat} {own own' : Nat → Nat} {mm : MM} {xs : List RX} {mv tv ev : Value} {tb cap n N : Nat} {x : RX}

theorem RGoes.same (h : RAt w base b own mm xs mv tv ev) (hb : Below w.heap.size w w') : RGoes w base b own mm w' := ⟨⟨own, xs, mv, tv, ev, h.below hb, fun _ _ => rfl⟩, Chg.of_below hb⟩
theorem rths_len (h : RAt w base b own mm xs mv tv ev) : mm.ths.length = xs.length := by rw [h.same]; simp
theorem rthr_none (h : RAt w base b own mm xs mv tv ev) {z : Int} (hz : z < 0 ∨ (xs.length : Int) ≤ z) : mm.thr z = none := by
  unfold MM.thr
  split
  · rfl
  · rw [List.getElem?_eq_none_iff, rths_len h]; omega
theorem rthr_some (h : RAt w base b own mm xs mv tv ev) (hx : xs[n]? = some x) : mm.thr (n : Int) = some x.th := by
  unfold MM.thr
  rw [if_neg (by omega), Int.toNat_natCast]
  exact h.th_at hx

set_option maxRecDepth 100000 in
set_option maxHeartbeats 2000000 in
theorem rflush_none (h : RAt w base b own mm xs mv tv ev) {z : Int} (hz : z < 0 ∨ (xs.length : Int) ≤ z) :
    Calls Tryz.prog 16 #[.pointer (some ⟨b, 0, none⟩), .int .i64 z] w fun r w' => r = .returned (.bool false) ∧ w' = w := by
  obtain ⟨ao, cp, rfl⟩ := ownsRow_shape h.ths
  have c1 := h.wcell 1 _ rfl
  clear h
  by_cases h0 : z < 0
  · clear hz
    go_enter Tryz.func16, Tryz.ntmps16
    go_wp2_with fail
    go_ret
    exact ⟨rfl, rfl⟩
  · have h1 : z ≥ (xs.length : Int) := by omega
    clear hz
    go_enter Tryz.func16, Tryz.ntmps16
    go_wp2_with fail
    go_ret
    exact ⟨rfl, rfl⟩

set_option maxRecDepth 100000 in
set_option maxHeartbeats 2000000 in
theorem rflush_empty (h : RAt w base b own mm xs mv (.slice (some ⟨tb, 0, none⟩) xs.length cap) ev) (hx : xs[n]? = some x) (h4 : xs.length ≤ 4) (hw : x.th.wait = []) :
    Calls Tryz.prog 16 #[.pointer (some ⟨b, 0, none⟩), .int .i64 (n : Int)] w fun r w' => r = .returned (.bool false) ∧ w' = w := by
  have hn : n < xs.length := (List.getElem?_eq_some_iff.1 hx).1
  have c1 := h.wcell 1 _ rfl
  have c10 := h.cell hx 10 _ rfl
  obtain ⟨wo, wc, hwv⟩ := (h.th n x hx).wait.shape
  rw [hwv, hw] at c10
  simp only [List.length_nil] at c10
  clear h hx
  go_enter Tryz.func16, Tryz.ntmps16
  go_wp2_with fail
  go_ret
  exact ⟨rfl, rfl⟩

set_option maxRecDepth 100000 in
set_option maxHeartbeats 2000000 in
theorem rflush_some (h : RAt w base b own mm xs mv (.slice (some ⟨tb, 0, none⟩) xs.length cap) ev) (hx : xs[n]? = some x) (h4 : xs.length ≤ 4) {a : Nat} {v : Int} {q : List (Int × Int)} (hw : x.th.wait = ((a : Int), v) :: q) (ha : a < mm.mem.length) (hl : mm.mem.length ≤ 262144) :
    Calls Tryz.prog 16 #[.pointer (some ⟨b, 0, none⟩), .int .i64 (n : Int)] w fun r w' => r = .returned (.bool true) ∧ RGoes w base b own ({ mm with mem := mm.mem.set a v }.put n { x.th with wait := q }) w' := by
  have hn : n < xs.length := (List.getElem?_eq_some_iff.1 hx).1
  obtain ⟨mb, mc, rfl, hmb⟩ := h.mslice (by omega)
  have c1 := h.wcell 1 _ rfl
  have c10 := h.cell hx 10 _ rfl
  have hcut := (h.th n x hx).wait
  obtain ⟨wo, wc, hwv⟩ := hcut.shape
  rw [hwv, hw] at hcut c10
  obtain ⟨g, off, rfl, hcc⟩ := hcut.first
  have k0 : w.cell? ⟨g, off, none⟩ = some (.int .i64 (a : Int)) := by have := hcc 0 _ rfl; simpa using this
  have k1 : w.cell? ⟨g, off + 1, none⟩ = some (.int .i64 v) := hcc 1 _ rfl
  have hb0 : Below w.heap.size w (w.alloc (.cells #[.int .i64 (a : Int), .int .i64 v] 105)) := (Below.refl _ _).alloc (Nat.le_refl _) _
  have h0 := h.below hb0
  have hbox := block_new w (.cells #[.int .i64 (a : Int), .int .i64 v] 105)
  have d0 : (w.alloc (.cells #[.int .i64 (a : Int), .int .i64 v] 105)).cell? ⟨w.heap.size, 0, none⟩ = some (.int .i64 (a : Int)) := cell_of_block hbox rfl
  have d1 : (w.alloc (.cells #[.int .i64 (a : Int), .int .i64 v] 105)).cell? ⟨w.heap.size, 1, none⟩ = some (.int .i64 v) := cell_of_block hbox rfl
  have c0 := h0.wcell 0 _ rfl
  obtain ⟨M0, hM0⟩ : ∃ M0, mm.mem.getD a 0 = M0 := ⟨_, rfl⟩
  have cM := h0.mcell ha
  rw [hM0] at cM
  have fM := h0.mfree (by omega : 0 < mm.mem.length) a
  have HX := hidI hx
  have H := hidI h
  have H0 := hidI h0
  have HB := hidI hb0
  have H3 := hidI (h.thsT tb rfl)
  have HWV := hidI hwv
  have HWQ := hidI hw
  have hq1 : ((q.length : Int) + 1 == 0) = false := by rw [beq_eq_false_iff_ne]; omega
  simp only [List.length_cons] at c10
  clear h h0 hx hcut hcc hwv hw hb0 hbox hM0
  go_enter Tryz.func16, Tryz.ntmps16
  go_wp2_with fail
  generalize (w.alloc (.cells #[.int .i64 (a : Int), .int .i64 v] 105)) = w0 at H0 HB d0 d1 c0 cM fM ⊢
  go_region
  have h1 := (H0.out.word ha v).drew
  have hcut := (h1.th n x HX.out).wait
  rw [HWV.out, HWQ.out] at hcut
  have d10 := h1.cell HX.out 10 _ rfl
  rw [HWV.out, HWQ.out] at d10
  simp only [List.length_cons] at d10
  have f10 := h1.free (by omega) (n * 13 + 10)
  have HC1 := hidI (Chg.then_ (S := fun k => own k ≠ 0) (Chg.of_below HB.out) (((Chg.refl (fun k => k = mb) w0).setCell (p := ⟨mb, a, none⟩) (.inl rfl) (.int .i64 v)).drew) (fun k _ e => by rw [e]; show own mb ≠ 0; rw [hmb]; decide))
  have H1 := hidI h1
  have HCUT := hidI (show CutRow _ base 105 2 (.slice (some ⟨g, off, none⟩) (q.length + 1) wc) (q.length + 1) (encCell ((a : Int), v) ++ q.flatMap encCell) from hcut)
  clear h1 hcut d0 d1 c0 cM fM k0 k1 c1 c10
  generalize (w0.setCell ⟨mb, a, none⟩ (.int .i64 v)).drew = w1 at H1 HC1 HCUT d10 f10 ⊢
  have hwc : q.length + 1 ≤ wc := by
    rcases HCUT.out.2 with ⟨_, h0⟩ | ⟨g', off', cap', cur, hv, _, _, hc, _⟩
    · omega
    · simp only [Value.slice.injEq, true_and] at hv
      omega
  have HT := hidI (HCUT.out.tail (by decide))
  have hfin : ∀ nv : Value, nv = (.slice (if wc = 1 then some ⟨g, off, none⟩ else (some (⟨g, off, none⟩ : Addr)).map (·.add 2)) q.length (wc - 1)) →
      RGoes w base b own ({ mm with mem := mm.mem.set a v }.put n { x.th with wait := q }) (w1.setCell ⟨tb, n * 13 + 10, none⟩ nv) := by
    rintro nv rfl
    have hd : (encCell ((a : Int), v) ++ q.flatMap encCell).drop 2 = q.flatMap encCell := rfl
    have ht := HT.out
    rw [hd] at ht
    have hne : ∀ k, (Value.slice (if wc = 1 then some ⟨g, off, none⟩ else (some (⟨g, off, none⟩ : Addr)).map (·.add 2)) q.length (wc - 1)).ownBlock = some k → x.wv.ownBlock = some k ∨ w1.heap.size ≤ k := fun k hk => by
      left
      rw [HWV.out]
      split at hk <;> simpa [Value.ownBlock, Addr.add] using hk
    have h2 := H1.out.waited HX.out q _ (Chg.refl _ w1) ht hne
    refine ⟨⟨_, _, _, _, _, h2, fun k hk => retag_old (Nat.lt_of_lt_of_le hk HC1.out.size)⟩, HC1.out.setCell (p := ⟨tb, n * 13 + 10, none⟩) (.inl (by show own tb ≠ 0; rw [H3.out]; decide)) _⟩
  have HFIN := hidI hfin
  clear hfin
  by_cases h1 : wc = 1
  · subst h1
    go_wp2_with fail
    go_ret
    refine ⟨rfl, HFIN.out _ ?_⟩
    simp
    try omega
  · go_wp2_with fail
    go_ret
    refine ⟨rfl, HFIN.out _ ?_⟩
    simp [h1, Addr.add]

theorem rflush_any (h : RAt w base b own mm xs mv tv ev) (hk : MOk N mm) (z : Int) :
    Calls Tryz.prog 16 #[.pointer (some ⟨b, 0, none⟩), .int .i64 z] w fun r w' => r = .returned (.bool (mm.flush z).1) ∧ RGoes w base b own (mm.flush z).2 w' := by
  by_cases hz : 0 ≤ z ∧ z < (xs.length : Int)
  · obtain ⟨n, rfl⟩ : ∃ n : Nat, z = (n : Int) := ⟨z.toNat, by omega⟩
    obtain ⟨x, hx⟩ := some_at (show n < xs.length by omega)
    obtain ⟨tb, cap, rfl, -⟩ := h.tslice hx
    have h4 : xs.length ≤ 4 := by rw [← rths_len h]; exact hk.four
    have ht := hk.th x.th (List.mem_of_getElem? (h.th_at hx))
    cases hw : x.th.wait with
    | nil =>
      refine (rflush_empty h hx h4 hw).mono ?_
      rintro r w' ⟨rfl, rfl⟩
      unfold MM.flush
      rw [rthr_some h hx]
      simp only [hw]
      exact ⟨(by first | rfl | trivial), RGoes.same h (Below.refl _ _)⟩
    | cons c q =>
      obtain ⟨a, ha⟩ : ∃ a : Nat, c.1 = (a : Int) := ⟨c.1.toNat, by have := (ht.wait c (by rw [hw]; simp)).1; omega⟩
      have hc := (ht.wait c (by rw [hw]; simp)).2
      refine (rflush_some h hx h4 (a := a) (v := c.2) (q := q) (by rw [hw, ← ha]) (by omega) hk.mem.2).mono ?_
      rintro r w' ⟨rfl, hg⟩
      unfold MM.flush
      rw [rthr_some h hx]
      simp only [hw]
      rw [ha, Int.toNat_natCast, Int.toNat_natCast]
      exact ⟨(by first | rfl | trivial), hg⟩
  · refine (rflush_none h (by omega)).mono ?_
    rintro r w' ⟨rfl, rfl⟩
    unfold MM.flush
    rw [rthr_none h (by omega)]
    exact ⟨(by first | rfl | trivial), RGoes.same h (Below.refl _ _)⟩
end

end Go.Proofs.YthmmbldhbdnfpaaGreatDoor

/- append of whatever slice reads as so many elements (out of play/XPlayT). -/
import Derived.Test.YthmmbldhbdnfpaaGreatDoorMBase
import Derived.Deep.MidRow
namespace Go.Proofs.YthmmbldhbdnfpaaGreatDoor
open Go.RowKit
set_option linter.unusedVariables false
set_option linter.unusedSimpArgs false

/-- append of whatever slice reads as so many elements -/
theorem wpList_append_rd {P : Program} (w : World) {ops : Array Oper} {rest : List Oper} {o : Oper} {a : Act} {Q : Exit → Act → World → Prop} (hgd : o.guard = none) (s x : Operand) (t : TypeId)
    (ho : o.op = .call { callee := .builtin .append, args := #[s, x], argTypes := #[t, t] })
    (base : Nat) (e : TypeId) (i : TypeInfo) (z : Value) (size bytes : Nat) (ht : P.underlying t = some (.slice e)) (hi : P.info? e = some i) (hz : i.zero = some z)
    (hsize : i.size = size) (hby : i.bytes = bytes) (hzs : z.cells.size = size) (hsz : 0 < size)
    (v : Value) (n : Nat) (xs : List Value) (hs : a.eval s = v) (hown : w.ownsRow base e size v n xs)
    (xv : Value) (m : Nat) (news : List Value) (hx : a.eval x = xv) (hrd : Rd w size xv m news) (h1 : ∀ u ∈ news, u.oneCell' = true)
    (h63 : n + m ≤ maxLen) (hbytes : (n + m) * bytes ≤ 140737488355328) (hbase : base ≤ w.heap.size)
    (h : ∀ ao cp w', w'.ownsRow base e size (.slice ao (n + m) cp) (n + m) (xs ++ news) → (∀ g, (Value.slice ao (n + m) cp).ownBlock = some g → v.ownBlock = some g ∨ w.heap.size ≤ g) → w.grownBy w' v.ownBlock →
      wpList P ops Q rest (a.put o.dst (.slice ao (n + m) cp)) w') : wpList P ops Q (o :: rest) a w := by
  obtain ⟨hl, xo, xc, rfl, hc, hat⟩ := hrd
  rcases Nat.eq_zero_or_pos m with rfl | hm
  · obtain rfl : news = [] := List.eq_nil_of_length_eq_zero (by simpa using hl)
    obtain ⟨ao, cp, rfl⟩ := ownsRow_shape hown
    have hncap : n ≤ cp := by
      rcases hown.2 with ⟨hv, rfl⟩ | ⟨g, cap, cur, hv, hbg, hg, hnc, _⟩
      · omega
      · simp only [Value.slice.injEq, true_and] at hv
        rw [hv.2]; exact hnc
    refine wpList_plain hgd fun K hK => ?_
    have hf : (Builtin.firstCells size 0 (.slice xo 0 xc)).run P w = .ok #[] w := by
      cases xo with
      | none => exact run_firstCells_none w size 0 0 xc
      | some ad => exact run_firstCells_some w size 0 ad 0 xc [] (by simp) (fun j v hj => by simp at hj)
    have hni : ∀ k, P.underlying t ≠ some (.int k) := fun k e => by rw [ht] at e; cases e
    have hrun : (Builtin.append_ #[t, t] o.type #[.slice ao n cp, .slice xo 0 xc]).run P w = .ok (.slice ao n cp) w := by
      simp [Builtin.append_, run_underlying ht, Builtin.lenOf, sizeOf, typeInfo, hi, hsize, hf, hncap]
      cases ao with
      | none => simp
      | some ad => simp [storeCells]
    unfold Oper.wp
    simp [execOp, ho, resolve, invoke, builtin, hs, hx, hrun, Result.andThen]
    refine hK _ _ ?_
    have := h ao cp w (by simpa using hown) (fun g hg => .inl (by simpa using hg)) ⟨rfl, rfl, rfl, Nat.le_refl _, fun _ _ _ => rfl⟩
    simpa using this
  · obtain ⟨b, off, rfl, hb, hcell⟩ := hat hm
    exact wpList_append_d w hgd s x t ho base e i z size bytes ht hi hz hsize hby hzs hsz v n xs hs hown ⟨b, off, none⟩ m xc news hx hl (fun j u hj => by rw [Go.Addr.add_mid]; exact hcell j u hj) h1 h63 hbytes hbase h

/-- append of whatever reads as so many elements, as one step of a region that draws -/
theorem step_append_rd {P : Program} {ops : Array Oper} {o : Oper} {a : Act} {w : World} {K : Act → World → Prop} {Q : Exit → Act → World → Prop} {E : Prop}
    (hg : o.guard = none) (s x : Operand) (t : TypeId) (hop : o.op = Op.call { callee := Callee.builtin Builtin.append, args := #[s, x], argTypes := #[t, t] })
    (base : Nat) (e : TypeId) (i : TypeInfo) (z : Value) (size bytes : Nat) (ht : P.underlying t = some (.slice e)) (hi : P.info? e = some i) (hz : i.zero = some z)
    (hsize : i.size = size) (hby : i.bytes = bytes) (hzs : z.cells.size = size) (hsz : 0 < size)
    (v : Value) (n : Nat) (xs : List Value) (hs : a.eval s = v) (hown : w.ownsRow base e size v n xs)
    (xv : Value) (m : Nat) (news : List Value) (hx : a.eval x = xv) (hrd : Rd w size xv m news) (h1 : ∀ u ∈ news, u.oneCell' = true)
    (h63 : n + m ≤ maxLen) (hbytes : (n + m) * bytes ≤ 140737488355328) (hbase : base ≤ w.heap.size)
    (hK : ∀ ao cp w', w'.ownsRow base e size (.slice ao (n + m) cp) (n + m) (xs ++ news) → (∀ g, (Value.slice ao (n + m) cp).ownBlock = some g → v.ownBlock = some g ∨ w.heap.size ≤ g) → w.grownBy w' v.ownBlock → K (a.put o.dst (.slice ao (n + m) cp)) w') :
    if Region.wanted o (yielded ops a.tmps) = true then Oper.wp P o a w K Q else E := by
  obtain ⟨hl, xo, xc, rfl, hc, hat⟩ := hrd
  rcases Nat.eq_zero_or_pos m with rfl | hm
  · obtain rfl : news = [] := List.eq_nil_of_length_eq_zero (by simpa using hl)
    obtain ⟨ao, cp, rfl⟩ := ownsRow_shape hown
    have hncap : n ≤ cp := by
      rcases hown.2 with ⟨hv, rfl⟩ | ⟨g, cap, cur, hv, hbg, hg, hnc, _⟩
      · omega
      · simp only [Value.slice.injEq, true_and] at hv
        rw [hv.2]; exact hnc
    have hw : Region.wanted o (yielded ops a.tmps) = true := by simp [Region.wanted, hg]
    rw [if_pos hw]
    have hf : (Builtin.firstCells size 0 (.slice xo 0 xc)).run P w = .ok #[] w := by
      cases xo with
      | none => exact run_firstCells_none w size 0 0 xc
      | some ad => exact run_firstCells_some w size 0 ad 0 xc [] (by simp) (fun j v hj => by simp at hj)
    have hni : ∀ k, P.underlying t ≠ some (.int k) := fun k e => by rw [ht] at e; cases e
    have hrun : (Builtin.append_ #[t, t] o.type #[.slice ao n cp, .slice xo 0 xc]).run P w = .ok (.slice ao n cp) w := by
      simp [Builtin.append_, run_underlying ht, Builtin.lenOf, sizeOf, typeInfo, hi, hsize, hf, hncap]
      cases ao with
      | none => simp
      | some ad => simp [storeCells]
    unfold Oper.wp
    simp [execOp, hop, resolve, invoke, builtin, hs, hx, hrun, Result.andThen]
    have h9 : K (a.put o.dst (.slice ao n cp)) w := by
      have := hK ao cp w (by simpa using hown) (fun g hg => .inl (by simpa using hg)) ⟨rfl, rfl, rfl, Nat.le_refl _, fun _ _ _ => rfl⟩
      simpa using this
    exact h9
  · obtain ⟨b, off, rfl, hb, hcell⟩ := hat hm
    exact step_append_d hg s x t hop base e i z size bytes ht hi hz hsize hby hzs hsz v n xs hs hown ⟨b, off, none⟩ m xc hm news hx hl (fun j u hj => by rw [Go.Addr.add_mid]; exact hcell j u hj) h1 h63 hbytes hbase hK

theorem own_empty (w : World) (e : TypeId) (size : Nat) : (w.alloc (.cells #[] e)).ownsRow w.heap.size e size (.slice (some ⟨w.heap.size, 0, none⟩) 0 0) 0 [] :=
  own_of_full (by rw [block_new]) (Nat.le_refl _) (by unfold maxLen; omega) (by simp)
end Go.Proofs.YthmmbldhbdnfpaaGreatDoor

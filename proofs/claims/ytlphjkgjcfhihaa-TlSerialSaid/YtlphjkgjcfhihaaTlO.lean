/- turnstilelaw01: SameEvents, SameWides, Beyond of two lengths; append of any slice; turnstilelaw24.lives. -/
import Derived.Test.YtlphjkgjcfhihaaHistG2
import Derived.Test.YtlphjkgjcfhihaaTlN
namespace Go.Proofs.Ytlphjkgjcfhihaa
set_option linter.unusedVariables false
set_option linter.unusedSimpArgs false
open Go.RowKit

def encI (z : Int) : List Value := [.int .i64 z]
theorem encI_len : ∀ a, (encI a).length = 1 := fun _ => rfl
theorem flat_encI (l : List Int) : l.flatMap encI = l.map (Value.int .i64) := by
  induction l with
  | nil => rfl
  | cons a l ih => simp [encI, ih]

set_option maxHeartbeats 1000000 in
theorem sameWides_true {w : World} {ao bo : Option Addr} {ca cb : Nat} {l : List Int} (ha : RdT encI w 1 (.slice ao l.length ca) l) (hb : RdT encI w 1 (.slice bo l.length cb) l) (hm : l.length ≤ 9223372036854775807) :
    Calls Try.prog 11 #[.slice ao l.length ca, .slice bo l.length cb] w fun e w' => e = .returned (.bool true) ∧ Below w.heap.size w w' := by
  have HA := hidI ha
  have HB := hidI hb
  clear ha hb
  go_enter Try.func11, Try.ntmps11
  go_wp2
  go_loopw [13] (fun i wr => ∃ k n : Nat, k ≤ l.length ∧ i = .int .i64 k ∧ wr = w.drewN n) (fun i _ => l.length - (intOf i).toNat)
  case atStart => exact ⟨0, 0, Nat.zero_le _, rfl, rfl⟩
  case round =>
    obtain ⟨k, n, hk, rfl, rfl⟩ := hrel
    by_cases hlt : k < l.length
    · obtain ⟨x, hx⟩ := some_at hlt
      obtain ⟨b1, o1, rfl, hs1, hc1⟩ := HA.out.at encI_len hx
      obtain ⟨b2, o2, rfl, hs2, hc2⟩ := HB.out.at encI_len hx
      have x0 := hc1 0 _ rfl
      have y0 := hc2 0 _ rfl
      simp only [Nat.add_zero, Nat.mul_one] at x0 y0
      clear hc1 hc2 hx hs1 hs2
      go_wp2_with fail
      go_quiet (fail)
      go_wp2
      exact ⟨⟨k + 1, _, by omega, by go_num, rfl⟩, by simp [intOf]; omega⟩
    · obtain rfl : k = l.length := by omega
      go_wp2
      go_ret
      exact ⟨rfl, below_drewN (Below.refl _ _) n⟩

set_option maxHeartbeats 2000000 in
theorem beyond2 {w : World} {b : Nat} {t : TypeId} (n m : Nat) (hb : w.heap[b]? = some (.cells #[.int .i64 (n : Int), .int .i64 (m : Int)] t (0, 0))) (hn : n < 2 ^ 62) (hm : m < 2 ^ 62) :
    Calls Try.prog 4 #[.slice (some ⟨b, 0, none⟩) 2 2] w fun e w' => e = .returned (.bool (decide (262144 < n + m))) ∧ Below w.heap.size w w' := by
  have x0 : w.cell? ⟨b, 0, none⟩ = some (.int .i64 (n : Int)) := cell_of_block hb rfl
  have x1 : w.cell? ⟨b, 1, none⟩ = some (.int .i64 (m : Int)) := cell_of_block hb rfl
  clear hb
  have g1 : ¬ ((n : Int) < 0) := by omega
  have g2 : ¬ ((m : Int) < 0) := by omega
  by_cases h : n ≤ 262144
  · have h1 : ¬ ((n : Int) > 262144) := by omega
    by_cases h2 : n + m ≤ 262144
    · have h3 : ¬ ((m : Int) > 262144) := by omega
      have h4 : ¬ ((n : Int) + (m : Int) > 262144) := by omega
      rw [show decide (262144 < n + m) = false from by simp; omega]
      go_enter Try.func4, Try.ntmps4
      go_wp2_with fail
      go_loopw [4, 3] (fun i acc wr => wr = w ∧ (i = .int .i64 0 ∧ acc = .int .i64 0 ∨ i = .int .i64 1 ∧ acc = .int .i64 (n : Int) ∨ i = .int .i64 2 ∧ acc = .int .i64 ((n : Int) + (m : Int)))) (fun i _ _ => (2 - intOf i).toNat)
      case atStart => exact ⟨rfl, .inl ⟨rfl, rfl⟩⟩
      case round =>
        obtain ⟨rfl, ⟨rfl, rfl⟩ | ⟨rfl, rfl⟩ | ⟨rfl, rfl⟩⟩ := hrel
        · go_wp2
          exact ⟨⟨trivial, .inr (.inl ⟨rfl, rfl⟩)⟩, by simp [intOf]⟩
        · go_wp2
          exact ⟨⟨trivial, .inr (.inr ⟨rfl, rfl⟩)⟩, by simp [intOf]⟩
        · go_wp2
          go_ret
          exact ⟨rfl, Below.refl _ _⟩
    · rw [show decide (262144 < n + m) = true from by simp; omega]
      by_cases h3 : m ≤ 262144
      · have h4 : ¬ ((m : Int) > 262144) := by omega
        have h5 : ((n : Int) + (m : Int) > 262144) := by omega
        go_enter Try.func4, Try.ntmps4
        go_wp2_with fail
        go_loopw [4, 3] (fun i acc wr => wr = w ∧ (i = .int .i64 0 ∧ acc = .int .i64 0 ∨ i = .int .i64 1 ∧ acc = .int .i64 (n : Int))) (fun i _ _ => (2 - intOf i).toNat)
        case atStart => exact ⟨rfl, .inl ⟨rfl, rfl⟩⟩
        case round =>
          obtain ⟨rfl, ⟨rfl, rfl⟩ | ⟨rfl, rfl⟩⟩ := hrel
          · go_wp2
            exact ⟨⟨trivial, .inr ⟨rfl, rfl⟩⟩, by simp [intOf]⟩
          · go_wp2
            go_ret
            exact ⟨rfl, Below.refl _ _⟩
      · have h4 : ((m : Int) > 262144) := by omega
        go_enter Try.func4, Try.ntmps4
        go_wp2_with fail
        go_loopw [4, 3] (fun i acc wr => wr = w ∧ (i = .int .i64 0 ∧ acc = .int .i64 0 ∨ i = .int .i64 1 ∧ acc = .int .i64 (n : Int))) (fun i _ _ => (2 - intOf i).toNat)
        case atStart => exact ⟨rfl, .inl ⟨rfl, rfl⟩⟩
        case round =>
          obtain ⟨rfl, ⟨rfl, rfl⟩ | ⟨rfl, rfl⟩⟩ := hrel
          · go_wp2
            exact ⟨⟨trivial, .inr ⟨rfl, rfl⟩⟩, by simp [intOf]⟩
          · go_wp2
            go_ret
            exact ⟨rfl, Below.refl _ _⟩
  · have h1 : ((n : Int) > 262144) := by omega
    rw [show decide (262144 < n + m) = true from by simp; omega]
    go_enter Try.func4, Try.ntmps4
    go_wp2_with fail
    go_loopw [4, 3] (fun i acc wr => wr = w ∧ i = .int .i64 0 ∧ acc = .int .i64 0) (fun i _ _ => (2 - intOf i).toNat)
    case atStart => exact ⟨rfl, rfl, rfl⟩
    case round =>
      obtain ⟨rfl, rfl, rfl⟩ := hrel
      go_wp2
      go_ret
      exact ⟨rfl, Below.refl _ _⟩

/-- append of whatever slice reads as so many elements -/
theorem wpList_append_rd {P : Program} (w : World) {ops : Array Oper} {rest : List Oper} {o : Oper} {a : Act} {Q : Exit → Act → World → Prop} (hgd : o.guard = none) (s x : Operand) (t : TypeId)
    (ho : o.op = .call { callee := .builtin .append, args := #[s, x], argTypes := #[t, t] })
    (base : Nat) (e : TypeId) (i : TypeInfo) (z : Value) (size bytes : Nat) (ht : P.underlying t = some (.slice e)) (hi : P.info? e = some i) (hz : i.zero = some z)
    (hsize : i.size = size) (hby : i.bytes = bytes) (hzs : z.cells.size = size) (hsz : 0 < size)
    (v : Value) (n : Nat) (xs : List Value) (hs : a.eval s = v) (hown : w.ownsRow base e size v n xs)
    (xv : Value) (m : Nat) (news : List Value) (hx : a.eval x = xv) (hrd : Rd w size xv m news) (h1 : ∀ u ∈ news, u.oneCell' = true)
    (h63 : n + m ≤ maxLen) (hbytes : (n + m) * bytes ≤ 140737488355328) (hbase : base ≤ w.heap.size)
    (h : ∀ ao cp w', w'.ownsRow base e size (.slice ao (n + m) cp) (n + m) (xs ++ news) → (∀ g, (Value.slice ao (n + m) cp).ownBlock = some g → v.ownBlock = some g ∨ w.heap.size ≤ g) → w.grownBy w' v.ownBlock →
      wpList P ops Q rest (a.put o.dst (.slice ao (n + m) cp)) w') : wpList P ops Q (o :: rest) a w := by
  obtain ⟨hl, xo, xc, rfl, hc, hat⟩ := hrd
  rcases Nat.eq_zero_or_pos m with rfl | hm
  · obtain rfl : news = [] := List.eq_nil_of_length_eq_zero (by simpa using hl)
    obtain ⟨ao, cp, rfl⟩ := ownsRow_shape hown
    have hncap : n ≤ cp := by
      rcases hown.2 with ⟨hv, rfl⟩ | ⟨g, cap, cur, hv, hbg, hg, hnc, _⟩
      · omega
      · simp only [Value.slice.injEq, true_and] at hv
        rw [hv.2]; exact hnc
    refine wpList_plain hgd fun K hK => ?_
    have hf : (Builtin.firstCells size 0 (.slice xo 0 xc)).run P w = .ok #[] w := by
      cases xo with
      | none => exact run_firstCells_none w size 0 0 xc
      | some ad => exact run_firstCells_some w size 0 ad 0 xc [] (by simp) (fun j v hj => by simp at hj)
    have hni : ∀ k, P.underlying t ≠ some (.int k) := fun k e => by rw [ht] at e; cases e
    have hrun : (Builtin.append_ #[t, t] o.type #[.slice ao n cp, .slice xo 0 xc]).run P w = .ok (.slice ao n cp) w := by
      simp [Builtin.append_, run_underlying ht, Builtin.lenOf, sizeOf, typeInfo, hi, hsize, hf, hncap]
      cases ao with
      | none => simp
      | some ad => simp [storeCells]
    unfold Oper.wp
    simp [execOp, ho, resolve, invoke, builtin, hs, hx, hrun, Result.andThen]
    refine hK _ _ ?_
    have := h ao cp w (by simpa using hown) (fun g hg => .inl (by simpa using hg)) ⟨rfl, rfl, rfl, Nat.le_refl _, fun _ _ _ => rfl⟩
    simpa using this
  · obtain ⟨b, off, rfl, hb, hcell⟩ := hat hm
    exact wpList_append_d w hgd s x t ho base e i z size bytes ht hi hz hsize hby hzs hsz v n xs hs hown ⟨b, off, none⟩ m xc news hx hl (fun j u hj => by rw [Go.Addr.add_mid]; exact hcell j u hj) h1 h63 hbytes hbase h

end Go.Proofs.Ytlphjkgjcfhihaa

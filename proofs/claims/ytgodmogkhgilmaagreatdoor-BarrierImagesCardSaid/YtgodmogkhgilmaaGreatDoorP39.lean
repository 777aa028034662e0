/- Part of the proof: BookOp2 -/
import Derived.Test.YtgodmogkhgilmaaGreatDoorP36
import Derived.Deep.MidRow
import Derived.Deep.CutRange
import Derived.Deep.RegionHeld3
namespace Go.Proofs.YtgodmogkhgilmaaGreatDoor
open Go.RowKit
set_option linter.unusedVariables false
set_option linter.unusedSimpArgs false
set_option maxHeartbeats 4000000
set_option maxRecDepth 20000
structure EntOp where
  lv : Value
  num : Int
  len : Nat
def encEntOp (e : EntOp) : List Value := [e.lv, .int .i64 e.num]
theorem encEntOp_len : ∀ e, (encEntOp e).length = 2 := fun _ => rfl
def markOp (n : Int) : List Value := [.int .u8 99, .int .u8 0, .int .u8 0, .int .u8 0, .int .u8 0, .int .i64 (-1000 - n)]
def marksOp (k : Nat) (n : Int) : List Value := (List.replicate k (markOp n)).flatten
structure KindOp (w : World) (base kb : Nat) (hv : Value) (es : List EntOp) : Prop where
  row : w.ownsRow base 147 2 hv es.length (es.flatMap encEntOp)
  own : ∀ (i : Nat) e, es[i]? = some e → ∃ cs, w.ownsRow base 101 6 e.lv e.len cs
  num : ∀ (i : Nat) e, es[i]? = some e → 0 ≤ e.num ∧ e.num ≤ 4000000
  ne : ∀ (i g : Nat) e, es[i]? = some e → e.lv.ownBlock = some g → hv.ownBlock ≠ some g ∧ g ≠ kb
  lg : ∀ (i j g : Nat) e f, i ≠ j → es[i]? = some e → es[j]? = some f → e.lv.ownBlock = some g → f.lv.ownBlock ≠ some g
  kb : hv.ownBlock ≠ some kb
def MarkedOp (w : World) (base : Nat) (e : EntOp) : Prop := w.ownsRow base 101 6 e.lv e.len (marksOp e.len e.num)
def ownsOp (hv : Value) (es : List EntOp) (k : Nat) : Prop := hv.ownBlock = some k ∨ ∃ (i : Nat) (e : EntOp), es[i]? = some e ∧ e.lv.ownBlock = some k
theorem heldInfoOp : (Tryz.prog.info? 147).map (fun i => (i.zero, i.size, i.bytes)) = some (some (.agg #[.slice none 0 0, .int .i64 0]), 2, 32) := by kernel_rfl
theorem KindOp.keep {w w' : World} {base kb : Nat} {hv : Value} {es : List EntOp} (h : KindOp w base kb hv es) (hk : ∀ g, ownsOp hv es g → g < w.heap.size → w'.heap[g]? = w.heap[g]?) : KindOp w' base kb hv es :=
  ⟨ownRow_keep h.row fun g hg => hk g (.inl hg), fun i e he => by
    obtain ⟨cs, hc⟩ := h.own i e he
    exact ⟨cs, ownRow_keep hc fun g hg => hk g (.inr ⟨i, e, he, hg⟩)⟩, h.num, h.ne, h.lg, h.kb⟩
theorem KindOp.below {w w' : World} {base kb : Nat} {hv : Value} {es : List EntOp} (h : KindOp w base kb hv es) (hb : Below w.heap.size w w') : KindOp w' base kb hv es := h.keep fun g _ hg => hb.block g hg
theorem MarkedOp.keep {w w' : World} {base : Nat} {e : EntOp} (h : MarkedOp w base e) (hk : ∀ g, e.lv.ownBlock = some g → g < w.heap.size → w'.heap[g]? = w.heap[g]?) : MarkedOp w' base e := ownRow_keep h hk
theorem markOp_any (w : World) (n : Int) (h : 0 ≤ n ∧ n ≤ 4000000) : Calls Tryz.prog 133 #[.int .i64 n] w fun e w' => ∃ c : Array Value, e = .returned (.agg c) ∧ c.toList = markOp n ∧ c.size = 6 ∧ Below w.heap.size w w' := by
  have e1 : IntKind.i64.wrap (-1000 - n) = -1000 - n := IntWalk.i64_in _ (by omega)
  clear h
  go_enter Tryz.func133, Tryz.ntmps133
  go_wp2
  exact bodyPost_ret (v := .agg (markOp n).toArray) (by simp [results, Tryz.results133, go_sem, markOp]) rfl ⟨_, rfl, rfl, rfl, (Below.refl _ _).alloc (Nat.le_refl _) _⟩
theorem marksOp_succ (k : Nat) (n : Int) : marksOp (k + 1) n = marksOp k n ++ markOp n := by
  unfold marksOp
  rw [List.replicate_succ', List.flatten_append]
  simp
theorem marksOp_len (k : Nat) (n : Int) : (marksOp k n).length = k * 6 := by
  unfold marksOp
  simp [markOp]
theorem markOp_one (n : Int) : ∀ u ∈ markOp n, u.oneCell' = true := List.all_eq_true.1 (show (markOp n).all (·.oneCell') = true from rfl)
theorem setCells_blockOp {t : TypeId} {f : Nat × Nat} (b : Nat) (B : List Value) : ∀ (vs mid A : List Value) (o : Nat) (w : World), w.heap[b]? = some (.cells (A ++ mid ++ B).toArray t f) → A.length = o → mid.length = vs.length →
    (w.setCells b o vs).heap[b]? = some (.cells (A ++ vs ++ B).toArray t f)
  | [], mid, A, o, w, h, _, hm => by
    have : mid = [] := List.eq_nil_of_length_eq_zero (by simpa using hm)
    subst this
    exact h
  | v :: r, [], A, o, w, h, _, hm => by simp at hm
  | v :: r, u :: mid, A, o, w, h, hA, hm => by
    have h1 := block_setCell (o := o) v h
    have e1 : ((A ++ u :: mid ++ B).toArray.setIfInBounds o v) = (A ++ [v] ++ mid ++ B).toArray := by
      subst hA
      simp [List.setIfInBounds_toArray, List.set_append]
    rw [e1] at h1
    have := setCells_blockOp b B r mid (A ++ [v]) (o + 1) (w.setCell ⟨b, o, none⟩ v) h1 (by simp [hA]) (by simpa using hm)
    simpa [World.setCells] using this
theorem Chg.setCellsOp {S : Nat → Prop} {a : World} {b : Nat} (hS : S b) : ∀ (vs : List Value) (o : Nat) {w : World}, Chg S a w → Chg S a (w.setCells b o vs)
  | [], _, _, h => h
  | v :: r, o, w, h => by
    rw [World.setCells]
    exact Chg.setCellsOp hS r (o + 1) (h.setCell (p := ⟨b, o, none⟩) (.inl hS) v)
theorem heapSize_setCellsOp (b : Nat) : ∀ (vs : List Value) (o : Nat) (w : World), (w.setCells b o vs).heap.size = w.heap.size
  | [], _, _ => rfl
  | v :: r, o, w => by rw [World.setCells, heapSize_setCellsOp b r]; simp [World.setCell]
theorem setCells_rowOp {w : World} {base : Nat} {g n cap j : Nat} {cs vs : List Value} (h : w.ownsRow base 101 6 (.slice (some ⟨g, 0, none⟩) n cap) n cs) (hv : vs.length = 6) (hj : j < n) :
    (w.setCells g (j * 6) vs).ownsRow base 101 6 (.slice (some ⟨g, 0, none⟩) n cap) n (cs.take (j * 6) ++ vs ++ cs.drop (j * 6 + 6)) := by
  rcases h.2 with ⟨hv', _⟩ | ⟨g', cap', cur, hv', hb, hg, hc, hm, hs, ht⟩
  · simp at hv'
  · simp only [Value.slice.injEq, Option.some.injEq, Addr.mk.injEq, and_true, true_and] at hv'
    obtain ⟨rfl, rfl⟩ := hv'
    have hl := h.1
    have hcl : cur.toList.length = cap * 6 := by simpa using hs
    have hle : n * 6 ≤ cap * 6 := Nat.mul_le_mul_right _ hc
    have hjn : j * 6 + 6 ≤ n * 6 := by omega
    have e1 : cur.toList = cs.take (j * 6) ++ (cs.drop (j * 6)).take 6 ++ (cs.drop (j * 6 + 6) ++ cur.toList.drop (n * 6)) := by
      conv => lhs; rw [← List.take_append_drop (n * 6) cur.toList, ht]
      rw [← List.append_assoc]
      congr 1
      rw [List.append_assoc]
      conv => lhs; rw [← List.take_append_drop (j * 6) cs]
      congr 1
      rw [← List.drop_drop]
      exact (List.take_append_drop 6 (cs.drop (j * 6))).symm
    have e2 := setCells_blockOp g (cs.drop (j * 6 + 6) ++ cur.toList.drop (n * 6)) vs ((cs.drop (j * 6)).take 6) (cs.take (j * 6)) (j * 6) w (by rw [← e1]; exact hg) (by rw [List.length_take, hl]; omega) (by rw [List.length_take, List.length_drop, hl, hv]; omega)
    refine ⟨?_, .inr ⟨g, cap, _, rfl, hb, e2, hc, hm, ?_, ?_⟩⟩
    · simp [hl, hv]; omega
    · simp only [List.size_toArray, List.length_append, List.length_take, List.length_drop, hl, hv, hcl]; omega
    · rw [← List.append_assoc]
      exact List.take_left' (by simp only [List.length_append, List.length_take, List.length_drop, hl, hv]; omega)
theorem heap_setCells_otherOp {w : World} {b k : Nat} (hk : k ≠ b) : ∀ (vs : List Value) (o : Nat), (w.setCells b o vs).heap[k]? = w.heap[k]? := fun vs o => by
  rcases Nat.lt_or_ge k w.heap.size with h | h
  · exact (Chg.setCellsOp (S := fun j => j = b) rfl vs o (Chg.refl _ w)).block k h hk
  · rw [Array.getElem?_eq_none h, Array.getElem?_eq_none (by rw [heapSize_setCellsOp]; exact h)]
theorem fillOp_step {w w4 : World} {base g hg ko n lc j : Nat} {cs : List Value} {num : Int} {u : Value} {c : Array Value} (hcs : w.ownsRow base 101 6 (.slice (some ⟨g, 0, none⟩) n lc) n cs) (hj : j < n) (hgg : ¬ hg = g) (hlt : hg < w.heap.size)
    (k0 : w.cell? ⟨hg, ko, none⟩ = some u) (k1 : w.cell? ⟨hg, ko + 1, none⟩ = some (.int .i64 num)) (hb : Below w.drew.heap.size w.drew w4) (hcl : c.toList = markOp num) (hcz : c.size = 6) :
    w4.cell? ⟨hg, ko, none⟩ = some u ∧ w4.cell? ⟨hg, ko + 1, none⟩ = some (.int .i64 num) ∧ (w4.setCells g (j * 6) c.toList).cell? ⟨hg, ko, none⟩ = some u ∧ (w4.setCells g (j * 6) c.toList).cell? ⟨hg, ko + 1, none⟩ = some (.int .i64 num) ∧
      Sem.run Tryz.prog (storeCells ⟨g, j * 6, none⟩ c.toList 0) w4 = .ok () (w4.setCells g (j * 6) c.toList) := by
  have e0 : w4.cell? ⟨hg, ko, none⟩ = some u := (hb.cell (by exact hlt)).trans k0
  have e1 : w4.cell? ⟨hg, ko + 1, none⟩ = some (.int .i64 num) := (hb.cell (by exact hlt)).trans k1
  refine ⟨e0, e1, ?_, ?_, ?_⟩
  · rw [World.cell?_of_block (heap_setCells_otherOp hgg _ _)]; exact e0
  · rw [World.cell?_of_block (heap_setCells_otherOp hgg _ _)]; exact e1
  · have hown4 : w4.ownsRow base 101 6 (.slice (some ⟨g, 0, none⟩) n lc) n cs := ownRow_keep hcs fun b _ hb' => hb.block b hb'
    obtain ⟨g', cur, e2, _, hgb, hnc, _⟩ := ownsRow_some hown4 (by omega)
    simp only [Option.some.injEq, Addr.mk.injEq, and_true] at e2
    subst e2
    have hsz : n * 6 ≤ cur.size := rowSize hown4 hgb
    have hin : ∀ i, i < 6 → j * 6 + i < cur.size := fun i hi => by omega
    have := run_storeCells_cells (P := Tryz.prog) g (j * 6) c.toList 0 w4 (fun i hi => by
        rw [Nat.add_zero, cell_of_block hgb (Array.getElem?_eq_getElem (hin i (by simpa [hcz] using hi)))]; rfl) (fun i _ => free_of_block hgb)
      (fun v hv => by rw [hcl] at hv; exact markOp_one num v hv)
    simpa using this
theorem fillOp_any {w : World} {base kb : Nat} {hv : Value} {es : List EntOp} {C : Array Value} (h : KindOp w base kb hv es) (hb : w.heap[kb]? = some (.cells C 67 (0, 0))) (hc : C[7]? = some hv) (hl : es.length ≤ 4000000) :
    Calls Tryz.prog 37 #[.pointer (some ⟨kb, 0, none⟩)] w fun r w' => r = .returned (.tuple #[]) ∧ KindOp w' base kb hv es ∧ (∀ (i : Nat) e, es[i]? = some e → MarkedOp w' base e) ∧ Chg (ownsOp hv es) w w' := by
  have c1 := cell_of_block hb hc
  obtain ⟨ho, hcap, rfl⟩ := ownsRow_shape h.row
  have H := hidI h
  have HB := hidI hb
  have HC := hidI hc
  have HNK := hidI (show ¬ ownsOp (.slice ho es.length hcap) es kb from fun e => by
    rcases e with e | ⟨i, e, he, hg⟩
    · exact h.kb e
    · exact (h.ne i kb e he hg).2 rfl)
  clear h hb hc
  go_enter Tryz.func37, Tryz.ntmps37
  go_wp2_with fail
  go_loopw [10] (fun i w' => ∃ k : Nat, k ≤ es.length ∧ i = .int .i64 (k : Int) ∧ Hid (KindOp w' base kb (.slice ho es.length hcap) es) ∧ Hid (∀ (i : Nat) e, i < k → es[i]? = some e → MarkedOp w' base e) ∧ Hid (Chg (ownsOp (.slice ho es.length hcap) es) w w')) (fun i _ => ((es.length : Int) - intOf i).toNat)
  case atStart => exact ⟨0, by omega, rfl, H, hidI (fun i e hi => by omega), hidI (Chg.refl _ _)⟩
  case round =>
    obtain ⟨k, hk, rfl, HK, HM, HCH⟩ := hrel
    by_cases hlt : k < es.length
    · obtain ⟨e, he⟩ := some_at hlt
      have hrow := HK.out.row
      obtain ⟨hg, cur, rfl, _, hgb, _, hcur⟩ := ownsRow_some hrow (by omega)
      have c2 : wr.cell? ⟨kb, 7, none⟩ = some (.slice (some ⟨hg, 0, none⟩) es.length hcap) := cell_of_block (chgblk HCH.out HB.out HNK.out) HC.out
      have d0 : wr.cell? ⟨hg, k * 2, none⟩ = some e.lv := cell_of_block hgb (hcur _ _ (by have := flat_at encEntOp_len es he 0 _ rfl; simpa using this))
      have d1 : wr.cell? ⟨hg, k * 2 + 1, none⟩ = some (.int .i64 e.num) := cell_of_block hgb (hcur _ _ (flat_at encEntOp_len es he 1 _ rfl))
      obtain ⟨cs, hcs⟩ := HK.out.own k e he
      obtain ⟨lo, lc, hlv⟩ := ownsRow_shape hcs
      rw [hlv] at d0 hcs
      have HE := hidI he
      have HLV := hidI hlv
      have HCS := hidI hcs
      have hw1 : IntKind.i64.wrap ((k : Int) + 1) = k + 1 := IntWalk.i64_in _ (by omega)
      clear hrow hgb hcur he hlv hcs c1
      go_wp2_with fail
      have HN := hidI (HK.out.num k e HE.out)
      have HG := hidI (show hg < wr.heap.size from World.block_lt_of_cell? wr _ d1)
      obtain ⟨wk, rfl⟩ : ∃ x, x = wr := ⟨_, rfl⟩
      go_loopw [24] (fun i w' => ∃ j : Nat, j ≤ e.len ∧ i = .int .i64 (j : Int) ∧ Hid (∃ cs, w'.ownsRow base 101 6 (.slice lo e.len lc) e.len cs ∧ cs.take (j * 6) = marksOp j e.num) ∧ Hid (Chg (fun g => e.lv.ownBlock = some g) wk w')) (fun i _ => ((e.len : Int) - intOf i).toNat)
      case atStart => exact ⟨0, by omega, rfl, hidI ⟨cs, HCS.out, by simp [marksOp]⟩, hidI (Chg.refl _ _)⟩
      case round =>
        obtain ⟨j, hj, rfl, HO, HCK⟩ := hrel
        by_cases hjl : j < e.len
        · obtain ⟨cs', hcs', htk⟩ := HO.out
          obtain ⟨g, cur, rfl, _, hgb, _, _⟩ := ownsRow_some hcs' (by omega)
          have hgg : ¬ hg = g := fun e2 => (HK.out.ne k g e HE.out (by rw [HLV.out]; rfl)).1 (by rw [← e2]; rfl)
          have k0 : wr.cell? ⟨hg, k * 2, none⟩ = some (.slice (some ⟨g, 0, none⟩) e.len lc) := by
            rw [World.cell?_of_block (HCK.out.block hg HG.out (fun e2 => hgg (by rw [HLV.out] at e2; simp only [Value.ownBlock, Option.some.injEq] at e2; exact e2.symm)))]; exact d0
          have k1 : wr.cell? ⟨hg, k * 2 + 1, none⟩ = some (.int .i64 e.num) := by
            rw [World.cell?_of_block (HCK.out.block hg HG.out (fun e2 => hgg (by rw [HLV.out] at e2; simp only [Value.ownBlock, Option.some.injEq] at e2; exact e2.symm)))]; exact d1
          have HO' := hidI (And.intro hcs' htk)
          have hw2 : IntKind.i64.wrap ((j : Int) + 1) = j + 1 := IntWalk.i64_in _ (by have := rowLen hcs'; omega)
          have HG2 := hidI (World.block_lt_of_cell? wr _ k0)
          clear hcs' htk hgb d0 d1
          go_wp2_with fail
          go_region_held3 (fun w' => w'.cell? ⟨hg, k * 2, none⟩ = some (.slice (some ⟨g, 0, none⟩) e.len lc) ∧ w'.cell? ⟨hg, k * 2 + 1, none⟩ = some (.int .i64 e.num)) (refine ⟨?_, ?_⟩ <;> first | assumption | simp only [World.cell?_drew, *]) (first | (go_at_call 133; refine (markOp_any _ _ HN.out).mono ?_; rintro e4 w4 ⟨c, rfl, hcl, hcz, hb4⟩; have HB4 := hidI hb4; have HCL := hidI hcl; obtain ⟨s0, s1, s2, s3, hst⟩ := fillOp_step (j := j) HO'.out.1 hjl hgg HG2.out k0 k1 hb4 hcl hcz; clear hcl hb4))
          have hown4 : w4.ownsRow base 101 6 (.slice (some ⟨g, 0, none⟩) e.len lc) e.len cs' := ownRow_keep HO'.out.1 fun b _ hb' => HB4.out.block b hb'
          have hnew := setCells_rowOp hown4 (vs := c.toList) (by simpa using hcz) hjl
          have HNEW := hidI hnew
          have hch : Chg (fun g' => e.lv.ownBlock = some g') wk (w4.setCells g (j * 6) c.toList) :=
            Chg.setCellsOp (by rw [HLV.out]; rfl) _ _ (HCK.out.drew.then_ (Chg.of_below (S := fun _ => False) HB4.out) (fun _ _ h => h.elim))
          have HCH2 := hidI hch
          clear hown4 hnew hch hst s0 s1 s2 s3 k0 k1
          go_wp2_with fail
          refine ⟨⟨j + 1, by omega, by go_num, hidI ⟨_, HNEW.out, ?_⟩, HCH2⟩, by simp [intOf]; omega⟩
          rw [marksOp_succ, ← HO'.out.2, ← HCL.out]
          have hl1 : (cs'.take (j * 6)).length = j * 6 := by rw [HO'.out.2]; exact marksOp_len _ _
          rw [List.take_left' (by rw [List.length_append, hl1, Array.length_toList, hcz]; omega)]
        · obtain rfl : j = e.len := by omega
          obtain ⟨wj, rfl⟩ : ∃ x, x = wr := ⟨_, rfl⟩
          clear d0 d1
          go_wp2_with fail
          obtain ⟨cs', hcs', htk⟩ := HO.out
          have hfull : cs' = marksOp e.len e.num := by
            rw [← htk, List.take_of_length_le (by rw [hcs'.1]; exact Nat.le_refl _)]
          have hko := HK.out
          have hkr : ∀ b, ownsOp (.slice (some ⟨hg, 0, none⟩) es.length hcap) es b → ¬ e.lv.ownBlock = some b → b < wk.heap.size → wj.heap[b]? = wk.heap[b]? := fun b _ hn hb' => HCK.out.block b hb' hn
          refine ⟨⟨k + 1, by omega, by go_num, hidI ⟨ownRow_keep hko.row fun b hb' => hkr b (.inl hb') (fun e2 => (hko.ne k b e HE.out e2).1 hb'), fun i e' he' => ?_, hko.num, hko.ne, hko.lg, hko.kb⟩, hidI (fun i e' hi he' => ?_), hidI (HCH.out.then_ HCK.out (fun b _ hb' => .inr ⟨k, e, HE.out, hb'⟩))⟩, by simp [intOf]; omega⟩
          · by_cases hik : i = k
            · subst hik
              rw [HE.out] at he'
              cases he'
              exact ⟨cs', by rw [HLV.out]; exact hcs'⟩
            · obtain ⟨c3, h3⟩ := hko.own i e' he'
              exact ⟨c3, ownRow_keep h3 fun b hb' => hkr b (.inr ⟨i, e', he', hb'⟩) (fun e2 => hko.lg k i b e e' (fun q => hik q.symm) HE.out he' e2 hb')⟩
          · by_cases hik : i = k
            · subst hik
              rw [HE.out] at he'
              cases he'
              show wj.ownsRow _ _ _ _ _ _
              rw [HLV.out, ← hfull]
              exact hcs'
            · exact MarkedOp.keep (HM.out i e' (by omega) he') fun b hb' => hkr b (.inr ⟨i, e', he', hb'⟩) (fun e2 => hko.lg k i b e e' (fun q => hik q.symm) HE.out he' e2 hb')
    · obtain rfl : k = es.length := by omega
      go_wp2_with fail
      go_end0
      exact ⟨rfl, HK.out, fun i e he => HM.out i e (List.getElem?_eq_some_iff.1 he).1 he, HCH.out⟩
theorem infoOp : (Tryz.prog.info? 101).map (fun i => (i.zero, i.size, i.bytes)) = some (some (.agg #[.int .u8 0, .int .u8 0, .int .u8 0, .int .u8 0, .int .u8 0, .int .i64 0]), 6, 16) := by kernel_rfl
theorem markOp_lit (w : World) (n : Int) (h : 0 ≤ n ∧ n ≤ 4000000) : Calls Tryz.prog 133 #[.int .i64 n] w fun e w' => e = .returned (.agg #[.int .u8 99, .int .u8 0, .int .u8 0, .int .u8 0, .int .u8 0, .int .i64 (-1000 - n)]) ∧ Below w.heap.size w w' := by
  refine (markOp_any w n h).mono ?_
  rintro e w' ⟨c, rfl, hc, _, hb⟩
  refine ⟨?_, hb⟩
  have : c = (markOp n).toArray := by rw [← hc]
  rw [this]
  rfl
structure FullOp (w0 w : World) (base kb : Nat) (hv : Value) (es es' : List EntOp) (M k j : Nat) : Prop where
  kind : KindOp w base kb hv es'
  all : ∀ (i : Nat) e, es'[i]? = some e → MarkedOp w base e
  len : es'.length = es.length
  most : ∀ (i : Nat) e, es'[i]? = some e → e.len ≤ M + (if i < k then 3 else if i = k then j else 0)
  src : ∀ (i g : Nat) e, es'[i]? = some e → e.lv.ownBlock = some g → ownsOp hv es g ∨ w0.heap.size ≤ g
  chg : Chg (ownsOp hv es) w0 w
theorem FullOp.next {w0 w : World} {base kb : Nat} {hv : Value} {es es' : List EntOp} {M k : Nat} (h : FullOp w0 w base kb hv es es' M k 3) : FullOp w0 w base kb hv es es' M (k + 1) 0 :=
  ⟨h.kind, h.all, h.len, fun i e he => by
    have := h.most i e he
    split at this
    · rw [if_pos (by omega)]; exact this
    · split at this
      · rw [if_pos (by omega)]; exact this
      · rw [if_neg (by omega)]; split <;> exact this, h.src, h.chg⟩
theorem FullOp.push {w0 wr w4 w5 : World} {base kb hg hcap lc cp k j M n : Nat} {lo ao : Option Addr} {num : Int} {es es' : List EntOp} (h : FullOp w0 wr base kb (.slice (some ⟨hg, 0, none⟩) es.length hcap) es es' M k j) (he : es'[k]? = some ⟨.slice lo n lc, num, n⟩)
    (hb4 : Below wr.heap.size wr w4) (hown : w5.ownsRow base 101 6 (.slice ao (n + 1) cp) (n + 1) (marksOp n num ++ markOp num)) (hfrom : ∀ g, (Value.slice ao (n + 1) cp).ownBlock = some g → (Value.slice lo n lc).ownBlock = some g ∨ w4.heap.size ≤ g)
    (hgr : w4.grownBy w5 (Value.slice lo n lc).ownBlock) (hkb : kb < w0.heap.size) :
    FullOp w0 (w5.setCell ⟨hg, k * 2, none⟩ (.slice ao (n + 1) cp)) base kb (.slice (some ⟨hg, 0, none⟩) es.length hcap) es (es'.set k ⟨.slice ao (n + 1) cp, num, n + 1⟩) M k (j + 1) := by
  have hk := h.kind
  have hsz := hb4.size
  have hlt0 : ∀ b, ownsOp (.slice (some ⟨hg, 0, none⟩) es.length hcap) es' b → b < wr.heap.size := by
    rintro b (hb | ⟨i, e, hi, hb⟩)
    · exact (rowLt hk.row hb).2
    · obtain ⟨cs, hcs⟩ := hk.own i e hi
      exact (rowLt hcs hb).2
  have hgl : hg < wr.heap.size := hlt0 hg (.inl rfl)
  have hgn : ∀ b, (Value.slice lo n lc).ownBlock = some b → b ≠ hg := fun b hb e2 => (hk.ne k b _ he hb).1 (by rw [e2]; rfl)
  have h5 : ∀ b, b < wr.heap.size → (Value.slice lo n lc).ownBlock ≠ some b → w5.heap[b]? = wr.heap[b]? := fun b hb hn => by
    rw [hgr.block b (by omega) (fun e2 => hn e2.symm), hb4.block b hb]
  have hne : ∀ b, (Value.slice ao (n + 1) cp).ownBlock = some b → b ≠ hg := fun b hb e2 => by
    rcases hfrom b hb with h1 | h1
    · exact hgn b h1 e2
    · omega
  have hset : ∀ b, b ≠ hg → (w5.setCell ⟨hg, k * 2, none⟩ (.slice ao (n + 1) cp)).heap[b]? = w5.heap[b]? := fun b hb => Below.heap_setCell _ _ _ _ hb
  have get : ∀ (i : Nat) e, (es'.set k ⟨.slice ao (n + 1) cp, num, n + 1⟩)[i]? = some e → i = k ∧ e = ⟨.slice ao (n + 1) cp, num, n + 1⟩ ∨ i ≠ k ∧ es'[i]? = some e := by
    intro i e hi
    rw [List.getElem?_set] at hi
    split at hi
    · rename_i q
      split at hi
      · cases hi; exact .inl ⟨q.symm, rfl⟩
      · cases hi
    · rename_i q
      exact .inr ⟨fun q2 => q q2.symm, hi⟩
  have hnew : (w5.setCell ⟨hg, k * 2, none⟩ (.slice ao (n + 1) cp)).ownsRow base 101 6 (.slice ao (n + 1) cp) (n + 1) (marksOp (n + 1) num) := by
    rw [marksOp_succ]
    exact ownRow_keep hown fun b hb _ => hset b (hne b hb)
  have old : ∀ (i : Nat) e b, i ≠ k → es'[i]? = some e → e.lv.ownBlock = some b → b < wr.heap.size → (w5.setCell ⟨hg, k * 2, none⟩ (.slice ao (n + 1) cp)).heap[b]? = wr.heap[b]? := fun i e b hi hie hb hlt => by
    rw [hset b (fun e2 => (hk.ne i b e hie hb).1 (by rw [e2]; rfl))]
    exact h5 b hlt (fun e2 => hk.lg i k b e _ hi hie he hb e2)
  have hrow : (w5.setCell ⟨hg, k * 2, none⟩ (.slice ao (n + 1) cp)).ownsRow base 147 2 (.slice (some ⟨hg, 0, none⟩) es.length hcap) es'.length ((es'.set k ⟨.slice ao (n + 1) cp, num, n + 1⟩).flatMap encEntOp) := by
    have h1 : w5.ownsRow base 147 2 (.slice (some ⟨hg, 0, none⟩) es.length hcap) es'.length (es'.flatMap encEntOp) := ownRow_keep hk.row fun b hb hlt => h5 b hlt (fun e2 => by
      simp only [Value.ownBlock, Option.some.injEq] at hb
      exact hgn b e2 hb.symm)
    rw [h.len] at h1 ⊢
    exact (rowSet encEntOp_len h1 he (y := ⟨.slice ao (n + 1) cp, num, n + 1⟩) (j := 0) (u := .slice ao (n + 1) cp) rfl (by decide)).2
  refine ⟨⟨by rw [List.length_set]; exact hrow, fun i e hi => ?_, fun i e hi => ?_, fun i g e hi hg' => ?_, fun i q g e f hiq hi hq hg' => ?_, hk.kb⟩, fun i e hi => ?_, by rw [List.length_set]; exact h.len, fun i e hi => ?_, fun i g e hi hg' => ?_, ?_⟩
  · rcases get i e hi with ⟨rfl, rfl⟩ | ⟨hik, hi'⟩
    · exact ⟨_, hnew⟩
    · obtain ⟨cs, hcs⟩ := hk.own i e hi'
      exact ⟨cs, ownRow_keep hcs fun b hb hlt => old i e b hik hi' hb hlt⟩
  · rcases get i e hi with ⟨rfl, rfl⟩ | ⟨hik, hi'⟩
    · show 0 ≤ num ∧ num ≤ 4000000
      exact hk.num _ _ he
    · exact hk.num i e hi'
  · rcases get i e hi with ⟨rfl, rfl⟩ | ⟨hik, hi'⟩
    · refine ⟨fun e2 => hne g hg' (by simp only [Value.ownBlock, Option.some.injEq] at e2; exact e2.symm), fun e2 => ?_⟩
      rcases hfrom g hg' with h1 | h1
      · exact (hk.ne i g _ he h1).2 e2
      · have := h.chg.size; omega
    · exact hk.ne i g e hi' hg'
  · rcases get i e hi with ⟨rfl, rfl⟩ | ⟨hik, hi'⟩
    · rcases get q f hq with ⟨rfl, rfl⟩ | ⟨hqk, hq'⟩
      · exact absurd rfl hiq
      · intro hf
        rcases hfrom g hg' with h1 | h1
        · exact hk.lg i q g _ f hiq he hq' h1 hf
        · have := hlt0 g (.inr ⟨q, f, hq', hf⟩); omega
    · rcases get q f hq with ⟨rfl, rfl⟩ | ⟨hqk, hq'⟩
      · intro hf
        rcases hfrom g hf with h1 | h1
        · exact hk.lg i q g e _ hiq hi' he hg' h1
        · have := hlt0 g (.inr ⟨i, e, hi', hg'⟩); omega
      · exact hk.lg i q g e f hiq hi' hq' hg'
  · rcases get i e hi with ⟨rfl, rfl⟩ | ⟨hik, hi'⟩
    · exact hnew
    · exact MarkedOp.keep (h.all i e hi') fun b hb hlt => old i e b hik hi' hb hlt
  · rcases get i e hi with ⟨rfl, rfl⟩ | ⟨hik, hi'⟩
    · have := h.most i _ he
      rw [if_neg (by omega), if_pos rfl] at this ⊢
      simp only at this ⊢
      omega
    · have := h.most i e hi'
      split at this
      · rw [if_pos (by assumption)]; exact this
      · rw [if_neg (by assumption), if_neg hik]
        first | exact this | (rw [if_neg hik] at this; exact this)
  · rcases get i e hi with ⟨rfl, rfl⟩ | ⟨hik, hi'⟩
    · rcases hfrom g hg' with h1 | h1
      · exact h.src i g _ he h1
      · have := h.chg.size; exact .inr (by omega)
    · exact h.src i g e hi' hg'
  · have c1 : Chg (fun b => (Value.slice lo n lc).ownBlock = some b ∨ b = hg) wr (w5.setCell ⟨hg, k * 2, none⟩ (.slice ao (n + 1) cp)) :=
      ((((Chg.of_below hb4).grown hgr (fun b hb => .inl (.inl hb)))).setCell (p := ⟨hg, k * 2, none⟩) (.inl (.inr rfl)) _)
    refine h.chg.then_ c1 (fun b hb hbs => ?_)
    rcases hbs with hbs | rfl
    · rcases h.src k b _ he hbs with h1 | h1
      · exact h1
      · omega
    · exact .inl rfl
theorem growOp_step {w0 wr w4 w5 : World} {base kb hg hcap lc k j M n : Nat} {lo : Option Addr} {num : Int} {es es' : List EntOp} {o : Obj} (h : FullOp w0 wr base kb (.slice (some ⟨hg, 0, none⟩) es.length hcap) es es' M k j) (he : es'[k]? = some ⟨.slice lo n lc, num, n⟩)
    (hb4 : Below wr.drew.heap.size wr.drew w4) (hgr : (w4.alloc o).grownBy w5 (Value.slice lo n lc).ownBlock) {u v : Value} (d0 : wr.cell? ⟨hg, k * 2, none⟩ = some u) (d1 : wr.cell? ⟨hg, k * 2 + 1, none⟩ = some v) (d2 : wr.frozen? ⟨hg, k * 2, none⟩ = false) :
    w5.cell? ⟨hg, k * 2, none⟩ = some u ∧ w5.cell? ⟨hg, k * 2 + 1, none⟩ = some v ∧ w5.frozen? ⟨hg, k * 2, none⟩ = false ∧ ∀ y, (w5.setCell ⟨hg, k * 2, none⟩ y).cell? ⟨hg, k * 2 + 1, none⟩ = some v := by
  have hgl : hg < wr.heap.size := World.block_lt_of_cell? wr _ d0
  have hs4 : wr.heap.size ≤ w4.heap.size := hb4.size
  have e1 : w5.heap[hg]? = wr.heap[hg]? := by
    rw [hgr.block hg (by simp; omega) (fun e2 => (h.kind.ne k hg _ he e2.symm).1 rfl), Below.heap_alloc _ _ _ (by omega)]
    exact hb4.block hg hgl
  have e2 : w5.cell? ⟨hg, k * 2, none⟩ = some u := by rw [World.cell?_of_block e1]; exact d0
  have e3 : w5.cell? ⟨hg, k * 2 + 1, none⟩ = some v := by rw [World.cell?_of_block e1]; exact d1
  refine ⟨e2, e3, ?_, fun y => ?_⟩
  · unfold World.frozen? at d2 ⊢
    simp only [e1]
    exact d2
  · rw [World.cell?_setCell_other _ _ _ _ (by simp)]
    exact e3
theorem growOp_any {w : World} {base kb M : Nat} {hv : Value} {es : List EntOp} {C : Array Value} (h : KindOp w base kb hv es) (hm : ∀ (i : Nat) e, es[i]? = some e → MarkedOp w base e) (hM : ∀ (i : Nat) e, es[i]? = some e → e.len ≤ M) (hM2 : M ≤ 4000000)
    (hb : w.heap[kb]? = some (.cells C 67 (0, 0))) (hc : C[7]? = some hv) (hl : es.length ≤ 4000000) :
    Calls Tryz.prog 63 #[.pointer (some ⟨kb, 0, none⟩)] w fun r w' => r = .returned (.tuple #[]) ∧ ∃ es', FullOp w w' base kb hv es es' M es.length 0 := by
  have c1 := cell_of_block hb hc
  obtain ⟨ho, hcap, rfl⟩ := ownsRow_shape h.row
  have HF := hidI (show FullOp w w base kb (.slice ho es.length hcap) es es M 0 0 from ⟨h, hm, rfl, fun i e he => by have := hM i e he; omega, fun i g e he hg => .inl (.inr ⟨i, e, he, hg⟩), Chg.refl _ _⟩)
  have HB := hidI hb
  have HC := hidI hc
  have HM := hidI hM2
  have HNK := hidI (show ¬ ownsOp (.slice ho es.length hcap) es kb from fun e => by
    rcases e with e | ⟨i, e, he, hg⟩
    · exact h.kb e
    · exact (h.ne i kb e he hg).2 rfl)
  have HKB := hidI (lt_of_block hb)
  obtain ⟨i0, hi, hz0, hz1, hz2⟩ := info_parts infoOp
  have HI := hidI hi
  have HZ0 := hidI hz0
  have HZ1 := hidI hz1
  have HZ2 := hidI hz2
  clear h hb hc hm hM hM2 hi hz0 hz1 hz2
  go_enter Tryz.func63, Tryz.ntmps63
  go_wp2_with fail
  go_loopw [10] (fun i w' => ∃ (k : Nat) (es' : List EntOp), k ≤ es.length ∧ i = .int .i64 (k : Int) ∧ Hid (FullOp w w' base kb (.slice ho es.length hcap) es es' M k 0)) (fun i _ => ((es.length : Int) - intOf i).toNat)
  case atStart => exact ⟨0, es, by omega, rfl, HF⟩
  case round =>
    obtain ⟨k, es1, hk, rfl, HK⟩ := hrel
    by_cases hlt : k < es.length
    · have hrow := HK.out.kind.row
      rw [HK.out.len] at hrow
      obtain ⟨hg, cur, rfl, hbase, _, _, _⟩ := ownsRow_some hrow (by omega)
      have c2 : wr.cell? ⟨kb, 7, none⟩ = some (.slice (some ⟨hg, 0, none⟩) es.length hcap) := cell_of_block (chgblk HK.out.chg HB.out HNK.out) HC.out
      have hw1 : IntKind.i64.wrap ((k : Int) + 1) = k + 1 := IntWalk.i64_in _ (by omega)
      have HBS := hidI hbase
      clear hbase c1 hrow
      go_wp2_with fail
      go_loopw [4] (fun i w' => ∃ (j : Nat) (es' : List EntOp), j ≤ 3 ∧ i = .int .i64 (j : Int) ∧ Hid (FullOp w w' base kb (.slice (some ⟨hg, 0, none⟩) es.length hcap) es es' M k j)) (fun i _ => ((3 : Int) - intOf i).toNat)
      case atStart => exact ⟨0, es1, by omega, rfl, HK⟩
      case round =>
        obtain ⟨j, es2, hj, rfl, HJ⟩ := hrel
        by_cases hjl : j < 3
        · obtain ⟨⟨lv, num, n⟩, he⟩ := some_at (l := es2) (k := k) (by rw [HJ.out.len]; omega)
          obtain ⟨lo, lc, rfl⟩ : ∃ lo lc, lv = .slice lo n lc := ownsRow_shape (HJ.out.all k _ he)
          have hrow := HJ.out.kind.row
          rw [HJ.out.len] at hrow
          obtain ⟨hg', cur', e3, _, hgb, _, hcur⟩ := ownsRow_some hrow (by omega)
          simp only [Option.some.injEq, Addr.mk.injEq, and_true] at e3
          subst e3
          have d0 : wr.cell? ⟨hg, k * 2, none⟩ = some (.slice lo n lc) := cell_of_block hgb (hcur _ _ (by have := flat_at encEntOp_len es2 he 0 _ rfl; simpa using this))
          have d1 : wr.cell? ⟨hg, k * 2 + 1, none⟩ = some (.int .i64 num) := cell_of_block hgb (hcur _ _ (flat_at encEntOp_len es2 he 1 _ rfl))
          have d2 : wr.frozen? ⟨hg, k * 2, none⟩ = false := free_of_block hgb
          have HE := hidI he
          have HG := hidI (lt_of_block hgb)
          have HN := hidI (show 0 ≤ num ∧ num ≤ 4000000 from HJ.out.kind.num k _ he)
          have HMA := hidI (HJ.out.all k _ he)
          have HNM := hidI (show n ≤ 4000003 from by have h1 := HJ.out.most k _ he; have h2 := HM.out; simp only [Nat.lt_irrefl, if_false, if_true] at h1; omega)
          clear hrow hgb hcur he c2
          go_wp2_with fail
          go_region_law (first
            | (go_simp; go_at_call 133; refine (markOp_lit _ _ HN.out).mono ?_; rintro e4 w4 ⟨rfl, hb4⟩; have HB4 := hidI hb4; have s0 : w4.cell? ⟨hg, k * 2, none⟩ = some (.slice lo n lc) := (hb4.cell (by exact HG.out)).trans d0; have s1 : w4.cell? ⟨hg, k * 2 + 1, none⟩ = some (.int .i64 num) := (hb4.cell (by exact HG.out)).trans d1; have hl4 : hg < w4.heap.size := Nat.lt_of_lt_of_le HG.out hb4.size; have sA : ∀ o : Obj, (w4.alloc o).cell? ⟨hg, k * 2 + 1, none⟩ = some (.int .i64 num) := (fun o => by rw [World.cell?_alloc_lt _ _ _ hl4]; exact s1); have sB : ∀ o : Obj, (w4.alloc o).cell? ⟨hg, k * 2, none⟩ = some (.slice lo n lc) := (fun o => by rw [World.cell?_alloc_lt _ _ _ hl4]; exact s0); clear hb4; dsimp only)
            | (refine step_append_d (by rfl) (.tmp 27) (.tmp 33) 79 (by rfl) base 101 i0 _ 6 16 Tryz.underlying79 HI.out HZ0.out HZ1.out HZ2.out rfl (by decide) (.slice lo n lc) n (marksOp n num) (by simp [Act.eval]) (by exact ownsRow_chg (w := wr.drew) HMA.out ((Chg.of_below (S := fun _ => False) HB4.out).alloc _) (fun _ _ => id)) ⟨w4.heap.size, 0, none⟩ 1 1 (by decide) (markOp num) (by simp [Act.eval]) rfl (by exact news_at (block_new w4 _)) (markOp_one _) (by have := HNM.out; unfold maxLen; omega) (by have := HNM.out; omega) (by have h1 := HBS.out; have h2 := HG.out; have h3 : wr.heap.size ≤ w4.heap.size := HB4.out.size; rw [World.size_alloc]; omega) ?_; intro ao cp w5 h1 h2 h3; have HO5 := hidI h1; have HF5 := hidI h2; have HG5 := hidI h3; obtain ⟨s2, s3, s4, s5⟩ := growOp_step HJ.out HE.out HB4.out h3 d0 d1 d2; clear h1 h2 h3))
          all_goals (
            have hbw : Below wr.heap.size wr w4 := (below_drewN (Below.refl wr.heap.size wr) 1).trans HB4.out
            have HP := hidI (HJ.out.push HE.out (hbw.alloc hbw.size _) HO5.out (fun g hg2 => (HF5.out g hg2).imp id (fun q => by simpa using q)) HG5.out HKB.out)
            clear hbw s0 s1 s2 s3 s4 s5 sA sB hl4 d0 d1 d2
            go_wp2_with fail
            exact ⟨⟨j + 1, _, by omega, by go_num, HP⟩, by simp [intOf]; omega⟩)
        · obtain rfl : j = 3 := by omega
          go_wp2_with fail
          exact ⟨⟨k + 1, es2, by omega, by go_num, hidI HJ.out.next⟩, by simp [intOf]; omega⟩
    · obtain rfl : k = es.length := by omega
      go_wp2_with fail
      go_end0
      exact ⟨rfl, es1, HK.out⟩
theorem isOp_any (w : World) (n : Int) (h : 0 ≤ n ∧ n ≤ 4000000) : Calls Tryz.prog 157 #[.agg #[.int .u8 99, .int .u8 0, .int .u8 0, .int .u8 0, .int .u8 0, .int .i64 (-1000 - n)], .int .i64 n] w fun e w' => e = .returned (.bool true) ∧ Below w.heap.size w w' := by
  have H := hidI h
  have hbx := fun t' => ext_block (block_new w (.cells #[.int .u8 99, .int .u8 0, .int .u8 0, .int .u8 0, .int .u8 0, .int .i64 (-1000 - n)] 101)) t'
  have x0 := fun t' => cell_of_block (o := 0) (hbx t') rfl
  have x1 := fun t' => cell_of_block (o := 1) (hbx t') rfl
  have x2 := fun t' => cell_of_block (o := 2) (hbx t') rfl
  have x3 := fun t' => cell_of_block (o := 3) (hbx t') rfl
  have x4 := fun t' => cell_of_block (o := 4) (hbx t') rfl
  have x5 := fun t' => cell_of_block (o := 5) (hbx t') rfl
  have HB := hidI ((Below.refl w.heap.size w).alloc (Nat.le_refl _) (.cells #[.int .u8 99, .int .u8 0, .int .u8 0, .int .u8 0, .int .u8 0, .int .i64 (-1000 - n)] 101))
  clear h hbx
  go_enter Tryz.func157, Tryz.ntmps157
  go_wp2_with fail
  refine wp_region_grow (by kernel_rfl) (by kernel_rfl) ?_
  repeat (go_big_quiet_step ((first | (go_at_call 133; exact grow_of (markOp_lit _ _ H.out)))))
  refine wpQuiet_nil ?_
  intro w1 hb
  have HB1 := hidI (HB.out.trans (hb.mono HB.out.size))
  clear hb
  go_wp2_with fail
  go_ret
  exact ⟨rfl, HB1.out⟩
theorem marksOp_at (k : Nat) (n : Int) {j : Nat} (hj : j < k) (i : Nat) (u : Value) (hu : (markOp n)[i]? = some u) : (marksOp k n)[j * 6 + i]? = some u := by
  have e : marksOp k n = (List.replicate k ()).flatMap (fun _ => markOp n) := by simp [marksOp, List.flatMap]
  rw [e]
  exact flat_at (enc := fun _ : Unit => markOp n) (sz := 6) (fun _ => rfl) (List.replicate k ()) (k := j) (x := ()) (by rw [List.getElem?_replicate, if_pos hj]) i u hu
theorem lookOp_any {w : World} {base kb : Nat} {hv : Value} {es : List EntOp} {C : Array Value} (h : KindOp w base kb hv es) (hm : ∀ (i : Nat) e, es[i]? = some e → MarkedOp w base e)
    (hb : w.heap[kb]? = some (.cells C 67 (0, 0))) (hc : C[7]? = some hv) (hl : es.length ≤ 4000000) :
    Calls Tryz.prog 90 #[.pointer (some ⟨kb, 0, none⟩)] w fun r w' => r = .returned (.bool true) ∧ Below w.heap.size w w' := by
  have c1 := cell_of_block hb hc
  obtain ⟨ho, hcap, rfl⟩ := ownsRow_shape h.row
  have H := hidI h
  have HM := hidI hm
  clear h hb hc hm
  go_enter Tryz.func90, Tryz.ntmps90
  go_wp2_with fail
  go_loopw [12] (fun i w' => ∃ k : Nat, k ≤ es.length ∧ i = .int .i64 (k : Int) ∧ Hid (Below w.heap.size w w')) (fun i _ => ((es.length : Int) - intOf i).toNat)
  case atStart => exact ⟨0, by omega, rfl, hidI (Below.refl _ _)⟩
  case round =>
    obtain ⟨k, hk, rfl, HW⟩ := hrel
    by_cases hlt : k < es.length
    · obtain ⟨e, he⟩ := some_at hlt
      obtain ⟨hg, cur, rfl, _, hgb, _, hcur⟩ := ownsRow_some H.out.row (by omega)
      obtain ⟨lo, lc, hlv⟩ := ownsRow_shape (HM.out k e he)
      have hgl := lt_of_block hgb
      have d0 : wr.cell? ⟨hg, k * 2, none⟩ = some (.slice lo e.len lc) := (HW.out.cell hgl).trans (cell_of_block hgb (hcur _ _ (by have := flat_at encEntOp_len es he 0 _ rfl; rw [hlv] at this; simpa using this)))
      have d1 : wr.cell? ⟨hg, k * 2 + 1, none⟩ = some (.int .i64 e.num) := (HW.out.cell hgl).trans (cell_of_block hgb (hcur _ _ (flat_at encEntOp_len es he 1 _ rfl)))
      have hmk := HM.out k e he
      unfold MarkedOp at hmk
      rw [hlv] at hmk
      have HE := hidI he
      have HMK := hidI hmk
      have HN := hidI (H.out.num k e he)
      have hw1 : IntKind.i64.wrap ((k : Int) + 1) = k + 1 := IntWalk.i64_in _ (by omega)
      clear hgb hcur he hlv hmk c1 hgl
      go_wp2_with fail
      obtain ⟨wk, rfl⟩ : ∃ x, x = wr := ⟨_, rfl⟩
      have HX := hidI (block_new wk (.cells #[.slice lo e.len lc, .int .i64 e.num] 147))
      have HW2 := hidI (HW.out.alloc HW.out.size (.cells #[.slice lo e.len lc, .int .i64 e.num] 147))
      generalize wk.alloc (.cells #[.slice lo e.len lc, .int .i64 e.num] 147) = wx at HX HW2 ⊢
      go_loopw [19] (fun i w' => ∃ j : Nat, j ≤ e.len ∧ i = .int .i64 (j : Int) ∧ Hid (Below wx.heap.size wx w')) (fun i _ => ((e.len : Int) - intOf i).toNat)
      case atStart => exact ⟨0, by omega, rfl, hidI (Below.refl _ _)⟩
      case round =>
        obtain ⟨j, hj, rfl, HCX⟩ := hrel
        by_cases hjl : j < e.len
        · have HCK := hidI (HW2.out.trans (HCX.out.mono HW2.out.size))
          obtain ⟨g, cur, rfl, _, hgb, _, hcur⟩ := ownsRow_some HMK.out (by omega)
          have HGL := hidI (lt_of_block hgb)
          have hat : ∀ (i : Nat) u, (markOp e.num)[i]? = some u → w.cell? ⟨g, j * 6 + i, none⟩ = some u := fun i u hu => cell_of_block hgb (hcur _ _ (marksOp_at e.len e.num hjl i u hu))
          have q0 : wr.cell? ⟨g, j * 6, none⟩ = some (.int .u8 99) := (HCK.out.cell HGL.out).trans (hat 0 _ rfl)
          have q1 : wr.cell? ⟨g, j * 6 + 1, none⟩ = some (.int .u8 0) := (HCK.out.cell HGL.out).trans (hat 1 _ rfl)
          have q2 : wr.cell? ⟨g, j * 6 + 2, none⟩ = some (.int .u8 0) := (HCK.out.cell HGL.out).trans (hat 2 _ rfl)
          have q3 : wr.cell? ⟨g, j * 6 + 3, none⟩ = some (.int .u8 0) := (HCK.out.cell HGL.out).trans (hat 3 _ rfl)
          have q4 : wr.cell? ⟨g, j * 6 + 4, none⟩ = some (.int .u8 0) := (HCK.out.cell HGL.out).trans (hat 4 _ rfl)
          have q5 : wr.cell? ⟨g, j * 6 + 5, none⟩ = some (.int .i64 (-1000 - e.num)) := (HCK.out.cell HGL.out).trans (hat 5 _ rfl)
          have x1 : wr.cell? ⟨wk.heap.size, 1, none⟩ = some (.int .i64 e.num) := by rw [World.cell?_of_block (HCX.out.block _ (lt_of_block HX.out))]; exact cell_of_block (o := 1) HX.out rfl
          have x2 : ∀ o : Obj, (wr.alloc o).cell? ⟨wk.heap.size, 1, none⟩ = some (.int .i64 e.num) := fun o => by rw [World.cell?_alloc_lt _ _ _ (World.block_lt_of_cell? wr _ x1)]; exact x1
          have hw2 : IntKind.i64.wrap ((j : Int) + 1) = j + 1 := IntWalk.i64_in _ (by have := rowLen HMK.out; omega)
          clear hgb hcur hat
          go_wp2_with fail
          refine (isOp_any _ _ HN.out).mono ?_
          rintro e5 w5 ⟨rfl, b5⟩
          have HB5 := hidI ((HCX.out.alloc HCX.out.size _).trans (b5.mono (by have := HCX.out.size; simp; omega)))
          clear b5
          go_wp2_with fail
          exact ⟨⟨j + 1, by omega, by go_num, HB5⟩, by simp [intOf]; omega⟩
        · obtain rfl : j = e.len := by omega
          go_wp2_with fail
          exact ⟨⟨k + 1, by omega, by go_num, hidI (HW2.out.trans (HCX.out.mono HW2.out.size))⟩, by simp [intOf]; omega⟩
    · obtain rfl : k = es.length := by omega
      go_wp2_with fail
      go_ret
      exact ⟨rfl, HW.out⟩
theorem encEntOp_one (e : EntOp) {ao : Option Addr} {n c : Nat} (h : e.lv = .slice ao n c) : ∀ u ∈ encEntOp e, u.oneCell' = true := by
  intro u hu
  simp only [encEntOp, List.mem_cons, List.not_mem_nil, or_false] at hu
  rcases hu with rfl | rfl
  · rw [h]; rfl
  · rfl
theorem keptOp_blk {w w5 : World} {base kb : Nat} {hv : Value} {es : List EntOp} {C : Array Value} {o : Obj} (h : KindOp w base kb hv es) (hb : w.heap[kb]? = some (.cells C 67 (0, 0))) (hg : (w.alloc o).drew.grownBy w5 hv.ownBlock) : w5.heap[kb]? = some (.cells C 67 (0, 0)) := by
  have hl := lt_of_block hb
  rw [hg.block kb (by show kb < (w.alloc o).heap.size; rw [World.size_alloc]; omega) (fun e => h.kb e.symm)]
  exact block_alloc hb
theorem KindOp.push {w w7 : World} {base kb n lc : Nat} {hv hv' : Value} {es : List EntOp} {lo : Option Addr} {cnt : Int} {cs : List Value} (h : KindOp w base kb hv es) (hcnt : 0 ≤ cnt ∧ cnt ≤ 4000000) (hown : w.ownsRow base 101 6 (.slice lo n lc) n cs)
    (hne : ∀ g, (Value.slice lo n lc).ownBlock = some g → hv.ownBlock ≠ some g ∧ g ≠ kb) (hlg : ∀ (i g : Nat) e, es[i]? = some e → e.lv.ownBlock = some g → (Value.slice lo n lc).ownBlock ≠ some g)
    (hk : ∀ b, b < w.heap.size → b ≠ kb → hv.ownBlock ≠ some b → w7.heap[b]? = w.heap[b]?) (hrow : w7.ownsRow base 147 2 hv' (es.length + 1) (es.flatMap encEntOp ++ encEntOp ⟨.slice lo n lc, cnt, n⟩))
    (hfrom : ∀ g, hv'.ownBlock = some g → hv.ownBlock = some g ∨ w.heap.size ≤ g) (hkb : kb < w.heap.size) : KindOp w7 base kb hv' (es ++ [⟨.slice lo n lc, cnt, n⟩]) := by
  have get : ∀ (i : Nat) e, (es ++ [⟨.slice lo n lc, cnt, n⟩])[i]? = some e → es[i]? = some e ∨ i = es.length ∧ e = ⟨.slice lo n lc, cnt, n⟩ := by
    intro i e hi
    rcases Nat.lt_or_ge i es.length with h1 | h1
    · rw [List.getElem?_append_left h1] at hi; exact .inl hi
    · rw [List.getElem?_append_right h1] at hi
      have := (List.getElem?_eq_some_iff.1 hi).1
      simp at this
      obtain rfl : i = es.length := by omega
      simp at hi
      exact .inr ⟨rfl, hi.symm⟩
  refine ⟨by rw [List.length_append, flat_snoc]; exact hrow, fun i e hi => ?_, fun i e hi => ?_, fun i g e hi hg => ?_, fun i j g e f hij hi hj hg hf => ?_, fun e => ?_⟩
  · rcases get i e hi with h1 | ⟨_, rfl⟩
    · obtain ⟨c2, h2⟩ := h.own i e h1
      exact ⟨c2, ownRow_keep h2 fun b hb hlt => hk b hlt (h.ne i b e h1 hb).2 (h.ne i b e h1 hb).1⟩
    · exact ⟨cs, ownRow_keep hown fun b hb hlt => hk b hlt (hne b hb).2 (hne b hb).1⟩
  · rcases get i e hi with h1 | ⟨_, rfl⟩
    · exact h.num i e h1
    · exact hcnt
  · have hlt : g < w.heap.size ∧ hv.ownBlock ≠ some g ∧ g ≠ kb := by
      rcases get i e hi with h1 | ⟨_, rfl⟩
      · obtain ⟨c2, h2⟩ := h.own i e h1
        exact ⟨(rowLt h2 hg).2, h.ne i g e h1 hg⟩
      · exact ⟨(rowLt hown hg).2, hne g hg⟩
    refine ⟨fun e2 => ?_, hlt.2.2⟩
    rcases hfrom g e2 with h1 | h1
    · exact hlt.2.1 h1
    · omega
  · rcases get i e hi with h1 | ⟨h1, rfl⟩
    · rcases get j f hj with h2 | ⟨h2, rfl⟩
      · exact h.lg i j g e f hij h1 h2 hg hf
      · exact hlg i g e h1 hg hf
    · rcases get j f hj with h2 | ⟨h2, rfl⟩
      · exact hlg j g f h2 hf hg
      · omega
  · rcases hfrom kb e with h1 | h1
    · exact h.kb h1
    · omega
def KeptOp (w w' : World) (base kb : Nat) (C : Array Value) (cnt : Int) (hv : Value) (es : List EntOp) : Prop :=
  ∃ hv', w'.heap[kb]? = some (.cells ((C.setIfInBounds 7 hv').setIfInBounds 0 (.int .i64 (cnt + 1))) 67 (0, 0)) ∧ KindOp w' base kb hv' es ∧ Chg (fun k => k = kb ∨ hv.ownBlock = some k) w w' ∧ ∀ g, hv'.ownBlock = some g → hv.ownBlock = some g ∨ w.heap.size ≤ g
theorem keepOp_any {w : World} {base kb : Nat} {hv : Value} {es : List EntOp} {C : Array Value} {cnt : Int} {lo : Option Addr} {n lc : Nat} {cs : List Value} (h : KindOp w base kb hv es) (hb : w.heap[kb]? = some (.cells C 67 (0, 0))) (hc : C[7]? = some hv) (h0 : C[0]? = some (.int .i64 cnt))
    (hcnt : 0 ≤ cnt ∧ cnt ≤ 4000000) (hl : es.length ≤ 4000000) (hown : w.ownsRow base 101 6 (.slice lo n lc) n cs) (hne : ∀ g, (Value.slice lo n lc).ownBlock = some g → hv.ownBlock ≠ some g ∧ g ≠ kb)
    (hlg : ∀ (i g : Nat) e, es[i]? = some e → e.lv.ownBlock = some g → (Value.slice lo n lc).ownBlock ≠ some g) (hbase : base ≤ w.heap.size) :
    Calls Tryz.prog 29 #[.pointer (some ⟨kb, 0, none⟩), .slice lo n lc] w fun r w' => r = .returned (.tuple #[]) ∧ KeptOp w w' base kb C cnt hv (es ++ [⟨.slice lo n lc, cnt, n⟩]) := by
  have c1 := cell_of_block hb hc
  have c0 := cell_of_block hb h0
  obtain ⟨ho, hcap, rfl⟩ := ownsRow_shape h.row
  have hkl := lt_of_block hb
  have hcs : (C.setIfInBounds 7 (.slice none 0 0))[0]? = some (.int .i64 cnt) := by rw [Array.getElem?_setIfInBounds_ne (by decide)]; exact h0
  have a1 : ∀ o : Obj, (w.alloc o).cell? ⟨kb, 7, none⟩ = some (.slice ho es.length hcap) := fun o => by rw [World.cell?_alloc_lt _ _ _ hkl]; exact c1
  have a0 : ∀ o : Obj, (w.alloc o).cell? ⟨kb, 0, none⟩ = some (.int .i64 cnt) := fun o => by rw [World.cell?_alloc_lt _ _ _ hkl]; exact c0
  have e1 : IntKind.i64.wrap (cnt + 1) = cnt + 1 := IntWalk.i64_in _ (by omega)
  obtain ⟨i0, hi, hz0, hz1, hz2⟩ := info_parts heldInfoOp
  have H := hidI h
  have HB := hidI hb
  have H0 := hidI h0
  have HCN := hidI hcnt
  have HL := hidI hl
  have HO := hidI hown
  have HNE := hidI hne
  have HLG := hidI hlg
  have HBS := hidI hbase
  have HI := hidI hi
  have HZ0 := hidI hz0
  have HZ1 := hidI hz1
  have HZ2 := hidI hz2
  clear h hb hc h0 hcnt hl hown hne hlg hbase hi hz0 hz1 hz2 hcs hkl
  go_enter Tryz.func29, Tryz.ntmps29
  go_wp2_with fail
  go_region_law (first
    | (refine step_append_d (by rfl) (.tmp 8) (.tmp 15) 45 (by rfl) base 147 i0 _ 2 32 Tryz.underlying45 HI.out HZ0.out HZ1.out HZ2.out rfl (by decide) (.slice ho es.length hcap) es.length (es.flatMap encEntOp) (by simp [Act.eval]) (by exact ownsRow_chg H.out.row (((Chg.refl (fun _ => False) w).alloc _).drew) (fun _ _ => id)) ⟨w.heap.size, 0, none⟩ 1 1 (by decide) (encEntOp ⟨.slice lo n lc, cnt, n⟩) (by simp [Act.eval]) rfl (by exact news_at (block_new w _)) (encEntOp_one _ rfl) (by have := HL.out; unfold maxLen; omega) (by have := HL.out; omega) (by have := HBS.out; show base ≤ (w.alloc _).heap.size; rw [World.size_alloc]; omega) ?_; intro ao cp w5 h1 h2 h3; have HO5 := hidI h1; have HF5 := hidI h2; have HG5 := hidI h3; have hb5 := keptOp_blk (w := w) H.out HB.out h3; have s0 : w5.cell? ⟨kb, 7, none⟩ = some (.slice ho es.length hcap) := (World.cell?_of_block (w := w) (by rw [hb5, HB.out])).trans c1; have s1 : w5.frozen? ⟨kb, 7, none⟩ = false := free_of_block hb5; have HB5 := hidI hb5; clear h1 h2 h3 hb5))
  all_goals (
    have hb6 := block_setCell (o := 7) (.slice ao (es.length + 1) cp) HB5.out
    have k0 : (w5.setCell ⟨kb, 7, none⟩ (.slice ao (es.length + 1) cp)).cell? ⟨kb, 0, none⟩ = some (.int .i64 cnt) := cell_of_block hb6 (by rw [Array.getElem?_setIfInBounds_ne (by decide)]; exact H0.out)
    have k1 : w5.frozen? ⟨kb, 0, none⟩ = false := free_of_block HB5.out
    have HB6 := hidI hb6
    clear hb6 s0 s1
    go_wp2_with fail
    go_end0
    have hkl := lt_of_block HB.out
    have hfrom : ∀ g, (Value.slice ao (es.length + 1) cp).ownBlock = some g → (Value.slice ho es.length hcap).ownBlock = some g ∨ w.heap.size ≤ g := fun g hg => (HF5.out g hg).imp id (fun q => by have q2 : (w.alloc (.cells #[.slice lo n lc, .int .i64 cnt] 147)).heap.size ≤ g := q; rw [World.size_alloc] at q2; omega)
    have hkp : ∀ b, b < w.heap.size → b ≠ kb → (Value.slice ho es.length hcap).ownBlock ≠ some b → ((w5.setCell ⟨kb, 7, none⟩ (.slice ao (es.length + 1) cp)).setCell ⟨kb, 0, none⟩ (.int .i64 (cnt + 1))).heap[b]? = w.heap[b]? := fun b hlt hbk hbh => by
      rw [Below.heap_setCell _ _ _ _ hbk, Below.heap_setCell _ _ _ _ hbk, HG5.out.block b (by show b < (w.alloc _).heap.size; rw [World.size_alloc]; omega) (fun e => hbh e.symm)]
      exact Below.heap_alloc _ _ _ hlt
    refine ⟨rfl, .slice ao (es.length + 1) cp, block_setCell _ HB6.out, H.out.push HCN.out HO.out HNE.out HLG.out hkp (ownRow_keep HO5.out fun b hb _ => ?_) hfrom hkl, ?_, hfrom⟩
    · have hbk : b ≠ kb := fun e => by
        rcases hfrom b hb with q | q
        · exact H.out.kb (by rw [← e]; exact q)
        · omega
      rw [Below.heap_setCell _ _ _ _ hbk, Below.heap_setCell _ _ _ _ hbk]
    · have hc5 : Chg (fun k => k = kb ∨ (Value.slice ho es.length hcap).ownBlock = some k) w w5 := (((Chg.refl _ w).alloc _).drew).grown HG5.out (fun k hk => .inl (.inr hk))
      exact (hc5.setCell (p := ⟨kb, 7, none⟩) (.inl (.inl rfl)) _).setCell (p := ⟨kb, 0, none⟩) (.inl (.inl rfl)) _)
theorem KindOp.from {w : World} {base kb : Nat} {hv : Value} {es : List EntOp} (h : KindOp w base kb hv es) {g : Nat} (hg : ownsOp hv es g) : base ≤ g ∧ g < w.heap.size := by
  rcases hg with hg | ⟨i, e, he, hg⟩
  · exact rowLt h.row hg
  · obtain ⟨cs, hc⟩ := h.own i e he
    exact rowLt hc hg
theorem KindOp.notkb {w : World} {base kb : Nat} {hv : Value} {es : List EntOp} (h : KindOp w base kb hv es) : ¬ ownsOp hv es kb := fun e => by
  rcases e with e | ⟨i, e, he, hg⟩
  · exact h.kb e
  · exact (h.ne i kb e he hg).2 rfl
theorem keepAllOp {w w' : World} {base : Nat} {hv : Value} {es : List EntOp} (h : ∀ (i : Nat) e, es[i]? = some e → MarkedOp w base e) (hk : ∀ g, ownsOp hv es g → g < w.heap.size → w'.heap[g]? = w.heap[g]?) : ∀ (i : Nat) e, es[i]? = some e → MarkedOp w' base e :=
  fun i e he => (h i e he).keep fun g hg hl => hk g (.inr ⟨i, e, he, hg⟩) hl
theorem FullOp.sep {w0 w : World} {base kb : Nat} {hv : Value} {es es' : List EntOp} {M k j : Nat} (h : FullOp w0 w base kb hv es es' M k j) {P : Nat → Prop} (hs : ∀ g, ownsOp hv es g → ¬ P g) (hp : ∀ g, P g → g < w0.heap.size) : ∀ g, ownsOp hv es' g → ¬ P g := by
  rintro g (hg | ⟨i, e, he, hg⟩) hP
  · exact hs g (.inl hg) hP
  · rcases h.src i g e he hg with h1 | h1
    · exact hs g h1 hP
    · have := hp g hP; omega
theorem nilOp (w : World) (base kb : Nat) : KindOp w base kb (.slice none 0 0) [] :=
  ⟨World.ownsRow_nil _ _ _ _, fun i e h => by simp at h, fun i e h => by simp at h, fun i g e h => by simp at h, fun i j g e f _ h => by simp at h, by simp [Value.ownBlock]⟩
end Go.Proofs.YtgodmogkhgilmaaGreatDoor

/- Package tl2: the contract of abort. -/
import Derived.Test.YtlphjkgjcfhihaaTlC
import Derived.Deep.MidRow
namespace Go.Proofs.Ytlphjkgjcfhihaa
set_option linter.unusedVariables false
set_option linter.unusedSimpArgs false
open Go.RowKit

variable {w w' : World} {base b m t : Nat} {tw : TW} {ts : List (Th × Value)} {ev : Value}

theorem setCells_block {t : TypeId} {f : Nat × Nat} (b : Nat) (B : List Value) : ∀ (vs mid A : List Value) (o : Nat) (w : World), w.heap[b]? = some (.cells (A ++ mid ++ B).toArray t f) → A.length = o → mid.length = vs.length →
    (w.setCells b o vs).heap[b]? = some (.cells (A ++ vs ++ B).toArray t f)
  | [], mid, A, o, w, h, _, hm => by
    have : mid = [] := List.eq_nil_of_length_eq_zero (by simpa using hm)
    subst this
    exact h
  | v :: r, [], A, o, w, h, _, hm => by simp at hm
  | v :: r, u :: mid, A, o, w, h, hA, hm => by
    have h1 := block_setCell (o := o) v h
    have e1 : ((A ++ u :: mid ++ B).toArray.setIfInBounds o v) = (A ++ [v] ++ mid ++ B).toArray := by
      subst hA
      simp [List.setIfInBounds_toArray, List.set_append]
    rw [e1] at h1
    have := setCells_block b B r mid (A ++ [v]) (o + 1) (w.setCell ⟨b, o, none⟩ v) h1 (by simp [hA]) (by simpa using hm)
    simpa [World.setCells] using this

theorem Chg.setCells {S : Nat → Prop} {a : World} {b : Nat} (hS : S b) : ∀ (vs : List Value) (o : Nat) {w : World}, Chg S a w → Chg S a (w.setCells b o vs)
  | [], _, _, h => h
  | v :: r, o, w, h => by
    rw [World.setCells]
    exact Chg.setCells hS r (o + 1) (h.setCell (p := ⟨b, o, none⟩) (.inl hS) v)

theorem flat_cut {α : Type} {enc : α → List Value} {sz : Nat} (he : ∀ a, (enc a).length = sz) (l : List α) {k : Nat} {x : α} (h : l[k]? = some x) (y : α) :
    ∃ A B, A.length = k * sz ∧ l.flatMap enc = A ++ enc x ++ B ∧ (l.set k y).flatMap enc = A ++ enc y ++ B := by
  obtain ⟨hk, rfl⟩ := List.getElem?_eq_some_iff.1 h
  refine ⟨(l.take k).flatMap enc, (l.drop (k + 1)).flatMap enc, by rw [flat_len he, List.length_take, Nat.min_eq_left (by omega)], ?_, ?_⟩
  · have e := congrArg (List.flatMap enc) (List.take_append_drop k l)
    rw [List.drop_eq_getElem_cons hk, List.flatMap_append, List.flatMap_cons] at e
    rw [← e, List.append_assoc]
  · rw [List.set_eq_take_append_cons_drop, if_pos hk]
    simp

theorem TlAt.there (h : TlAt w base b m t tw ts ev) {n : Nat} {x : Th × Value} (hx : ts[n]? = some x) : w.there t (n * 22) 22 := by
  intro j hj
  have hj' : j < (encTh x).length := by rw [encTh_len]; exact hj
  exact ⟨by rw [h.cell hx j _ (List.getElem?_eq_getElem hj')]; rfl, h.free _⟩

theorem TlAt.setTh (h : TlAt w base b m t tw ts ev) {n : Nat} {x : Th × Value} (hx : ts[n]? = some x) (y : Th × Value) :
    (w.setCells t (n * 22) (encTh y)).heap[t]? = some (.cells ((ts.set n y).flatMap encTh).toArray 80 (0, 0)) := by
  obtain ⟨A, B, hA, e1, e2⟩ := flat_cut encTh_len ts hx y
  rw [e2]
  exact setCells_block t B _ (encTh x) A _ w (by rw [← e1]; exact h.ths) hA rfl

theorem thInfo : (Try.prog.info? 80).map (·.size) = some 22 := by kernel_rfl

theorem encTh_one (x : Th × Value) (h : x.2.oneCell' = true) : (encTh x).toArray.all (·.oneCell') = true := by
  refine Go.all_oneCell_toArray fun v hv => ?_
  simp only [encTh, List.mem_cons, List.not_mem_nil, or_false] at hv
  rcases hv with rfl | rfl | rfl | rfl | rfl | rfl | rfl | rfl | rfl | rfl | rfl | rfl | rfl | rfl | rfl | rfl | rfl | rfl | rfl | rfl | rfl | rfl
  all_goals first | rfl | exact h

theorem TlAt.base_le (h : TlAt w base b m t tw ts ev) : base ≤ w.heap.size := Nat.le_trans h.lb (Nat.le_of_lt h.blt)
theorem TlAt.ev_base (h : TlAt w base b m t tw ts ev) : ∀ k, (k = b ∨ ev.ownBlock = some k) → base ≤ k := by
  rintro k (rfl | e)
  · exact h.lb
  · exact (ownLt h.evs e).1

/-- a store of many cells, as one step of a region that draws -/
theorem step_store_mid {P : Program} {ops : Array Oper} {o : Oper} {a : Act} {w : World} {K : Act → World → Prop} {Q : Exit → Act → World → Prop} {E : Prop}
    (hg : o.guard = none) (ty : TypeId) (x y : Operand) (ho : o.op = .store ty x y) (b off : Nat) (cells : Array Value) (hx : a.eval x = .pointer (some ⟨b, off, none⟩)) (hy : a.eval y = .agg cells)
    (ht : w.there b off cells.size) (hi : (P.info? ty).map (·.size) = some cells.size) (h1 : cells.all (·.oneCell') = true) (h : K (a.put o.dst undef) (w.setCells b off cells.toList)) :
    if Region.wanted o (yielded ops a.tmps) = true then Oper.wp P o a w K Q else E := by
  rw [if_pos (by simp [Region.wanted, hg])]
  exact wp_store_mid ty x y ho b off cells hx hy ht hi h1 h

/-- what a call leaves: the world that the fold has -/
def TlDone (base b m t : Nat) (tw : TW) (w : World) (r : Ending) (w' : World) : Prop := r = .returned (.tuple #[]) ∧ (∃ ts ev, TlAt w' base b m t tw ts ev) ∧ Below base w w'

def noTh : Th × Value := (Th.none, .slice none 0 0)
theorem noTh_log (w : World) (base : Nat) : LogAt w base noTh := by
  refine ⟨fun g h => ?_, Or.inl ⟨by decide, World.ownsRow_nil _ _ _ _⟩⟩
  simp [noTh, Value.ownBlock] at h

set_option maxHeartbeats 1000000 in
theorem abort_any (h : TlAt w base b m t tw ts ev) {n : Nat} {x : Th × Value} (hx : ts[n]? = some x) (hh : x.1.held < 65536) (hlen : tw.evs.length < 70000) :
    Calls Try.prog 30 #[.pointer (some ⟨b, 0, none⟩), .int .i64 (n : Int)] w (TlDone base b m t (tw.abort n x.1) w) := by
  have c1 := h.wcell 18 _ rfl
  have hn : n < ts.length := (List.getElem?_eq_some_iff.1 hx).1
  have H := hidI h
  have HX := hidI hx
  have HH := hidI hh
  have HL := hidI hlen
  have hmf : ∀ (fn : Fn) (first cap : Array Value) (w : World), (Instr.makeFunc fn first cap).run Try.prog w = .ok (.func fn first cap) w := fun _ _ _ _ => rfl
  clear h hx hh hlen
  go_enter Try.func30, Try.ntmps30
  go_wp2_with fail
  have HG := hidI (block_new w (.cells #[.pointer (some ⟨t, n * 22, none⟩)] 91))
  have H0 := hidI (H.out.below ((Below.refl _ _).alloc (Nat.le_refl _) (.cells #[.pointer (some ⟨t, n * 22, none⟩)] 91)))
  have hgb := H.out.blt
  have HB := hidI hgb
  refine (release_old H0.out HX.out HH.out HG.out (by omega)).mono ?_
  clear hgb
  rintro e w1 ⟨rfl, h1, hc1⟩
  have H1 := hidI h1
  have HC1 := hidI hc1
  clear h1 hc1
  go_wp2_with fail
  refine (tell_any H1.out HL.out ⟨n, 8, 0, 0⟩).mono ?_
  rintro e w2 ⟨rfl, ⟨ev', h2⟩, hc2⟩
  have hg2 := chgblk hc2 (chgblk HC1.out HG.out (fun e => by have := HB.out; omega)) (fun e => by
    have := HB.out
    rcases e with e | e
    · omega
    · have := (ownLt H.out.evs e).2; omega)
  have c2 : w2.cell? ⟨w.heap.size, 0, none⟩ = some (.pointer (some ⟨t, n * 22, none⟩)) := cell_of_block (o := 0) hg2 rfl
  have q1 : w2.there t (n * 22) (encTh noTh).toArray.size := h2.there HX.out
  have q2 : (Try.prog.info? 80).map (·.size) = some (encTh noTh).toArray.size := thInfo
  have q3 := encTh_one noTh rfl
  have H2 := hidI h2
  have HC2 := hidI hc2
  clear h2 hc2
  go_wp2_with (refine wpList_store_mid rfl 80 _ _ rfl t (n * 22) (encTh noTh).toArray rfl rfl q1 q2 q3 ?_)
  have hw2 := H2.out.setTh HX.out noTh
  go_end0
  refine ⟨rfl, ⟨ts.set n noTh, ev', H2.out.thread HX.out noTh (Chg.setCells (.inl rfl) _ _ (Chg.refl _ w2)) hw2 (noTh_log _ _) (fun g hg => by cases hg)⟩, ?_⟩
  refine Chg.below (S := fun k => k = t) ?_ H2.out.base_le (Chg.setCells (S := fun k => k = t) rfl _ _ (Chg.refl _ w2)) (fun k hk => by rw [hk]; exact H2.out.lt)
  refine Chg.below ?_ H1.out.base_le HC2.out H1.out.ev_base
  exact Chg.below ((Below.refl _ _).alloc H.out.base_le _) H0.out.base_le HC1.out (fun k hk => by rw [hk]; exact H.out.lb)

end Go.Proofs.Ytlphjkgjcfhihaa

/- Package tso: a machine gets a thread more. -/
import Derived.Test.YtopdcjimpdalpaaGreatTsoB
namespace Go.Proofs.YtopdcjimpdalpaaGreat
open Go.RowKit
set_option linter.unusedVariables false
set_option linter.unusedSimpArgs false

variable {w w' : World} {base b : Nat} {own own' : Nat → Nat} {mm : MM} {xs : List TX} {mv tv ev : Value}

/-- a thread that has not begun -/
def newX (code : List OpD) (cv : Value) (rb : Nat) : TX := ⟨MT.new code, cv, rb, .slice none 0 0⟩
/-- whose a block is behind it -/
def pushT (own : Nat → Nat) (tv' cv : Value) (code : List OpD) (rb n m : Nat) (k : Nat) : Nat :=
  if k < m then own k else if tv'.ownBlock = some k then 3 else if code ≠ [] ∧ cv.ownBlock = some k then 5 + 3 * n else if k = rb then 6 + 3 * n else 0
theorem pushT_old {tv' cv : Value} {code : List OpD} {rb n m k : Nat} (h : k < m) : pushT own tv' cv code rb n m k = own k := if_pos h

theorem rdt_lt {sz : Nat} {v : Value} {l : List OpD} {g : Nat} (h : RdT encOp w sz v l) (hn : l ≠ []) (hg : v.ownBlock = some g) : g < w.heap.size := by
  obtain ⟨h1, ao, cap, h2, h3, h4⟩ := h
  obtain ⟨b, off, rfl, hb, _⟩ := h4 (List.length_pos_iff.2 hn)
  rw [h2] at hg
  simp only [Value.ownBlock, Option.some.injEq] at hg
  exact hg ▸ hb

theorem MAt.push (h : MAt w base b own mm xs mv tv ev) (hc : Chg (fun k => tv.ownBlock = some k) w w') {code : List OpD} {cv tv' : Value} {rb f : Nat} {c : Array Value}
    (hcode : RdT encOp w' 6 cv code) (hcn : ∀ g, code ≠ [] → cv.ownBlock = some g → w.heap.size ≤ g) (hring : Ring w' rb [] c f) (hrn : w.heap.size ≤ rb)
    (htv : w'.ownsRow base 184 13 tv' (xs.length + 1) ((xs ++ [newX code cv rb]).flatMap encX)) (htn : ∀ g, tv'.ownBlock = some g → tv.ownBlock = some g ∨ w.heap.size ≤ g)
    (hd1 : ∀ g, code ≠ [] → cv.ownBlock = some g → g ≠ rb ∧ tv'.ownBlock ≠ some g) (hd2 : tv'.ownBlock ≠ some rb) :
    MAt (w'.setCell ⟨b, 2, none⟩ tv') base b (pushT own tv' cv code rb xs.length w.heap.size) { mm with ths := mm.ths ++ [MT.new code] } (xs ++ [newX code cv rb]) mv tv' ev := by
  have hbl := h.lt
  have hk : ∀ g, own g ≠ 3 → own g ≠ 1 → g < w.heap.size → (w'.setCell ⟨b, 2, none⟩ tv').heap[g]? = w.heap[g]? := fun g h3 h1 hl => by
    rw [Below.heap_setCell _ _ _ _ (fun e => h1 (by rw [e]; exact h.bT.2))]
    exact hc.block g hl fun e => h3 (h.thsT g e)
  have hk2 : ∀ g, w.heap.size ≤ g → (w'.setCell ⟨b, 2, none⟩ tv').heap[g]? = w'.heap[g]? := fun g hl => Below.heap_setCell _ _ _ _ (fun e => by simp only at e; omega)
  have hb1 := chgblk hc h.blk (fun hk => by have h1 := h.thsT _ hk; rw [h.bT.2] at h1; exact absurd h1 (by decide))
  have hset := block_setCell (o := 2) tv' hb1
  have hsz := hc.size
  have hbs := h.base_le
  have ho : ∀ k, k < w.heap.size → pushT own tv' cv code rb xs.length w.heap.size k = own k := fun k hk => pushT_old hk
  have hlen : (xs ++ [newX code cv rb]).length = xs.length + 1 := by simp
  have htb : ∀ g, tv'.ownBlock = some g → g ≠ b := fun g hg e => by
    rcases htn g hg with e' | e'
    · have := h.thsT g e'; rw [e, h.bT.2] at this; omega
    · omega
  refine ⟨hset, ⟨h.bT.1, by rw [ho _ hbl]; exact h.bT.2⟩, ownRow_keep h.mem fun g hg hl => hk g (by rw [h.memT g hg]; omega) (by rw [h.memT g hg]; omega) hl, fun g hg => by rw [ho _ (rowLt h.mem hg).2]; exact h.memT g hg,
    by rw [hlen]; exact ownRow_keep htv fun g hg _ => Below.heap_setCell _ _ _ _ (htb g hg), fun g hg => ?_,
    ownRow_keep h.evs fun g hg hl => hk g (by rw [h.evsT g hg]; omega) (by rw [h.evsT g hg]; omega) hl, fun g hg => by rw [ho _ (rowLt h.evs hg).2]; exact h.evsT g hg,
    by simp [h.same, newX], fun i x hx => ?_, fun k hk' => ?_⟩
  · by_cases e : g < w.heap.size
    · rw [ho _ e]
      rcases htn g hg with e' | e'
      · exact h.thsT g e'
      · omega
    · unfold pushT
      rw [if_neg e, if_pos hg]
  · rcases Nat.lt_or_ge i xs.length with hi | hi
    · rw [List.getElem?_append_left hi] at hx
      exact (h.th i x hx).keep ho fun g hg hl => hk g (by omega) (by omega) hl
    · have hi' : i = xs.length := by have := (List.getElem?_eq_some_iff.1 hx).1; rw [hlen] at this; omega
      subst hi'
      simp at hx
      subst hx
      refine ⟨hcode.keepN fun g hn hg _ => hk2 g (hcn g hn hg), fun g hn hg => ⟨by have := hcn g hn hg; omega, ?_⟩, ⟨c, f, hring.keep (hk2 _ hrn)⟩, ⟨by show base ≤ rb; omega, ?_⟩, World.ownsRow_nil _ _ _ _, fun g hg => by cases hg⟩
      · have h1 := hcn g hn hg
        have h2 := hd1 g hn hg
        unfold pushT
        rw [if_neg (by omega), if_neg h2.2, if_pos ⟨hn, hg⟩]
      · have h2 : ¬ (code ≠ [] ∧ cv.ownBlock = some rb) := fun e => (hd1 rb e.1 e.2).1 rfl
        show pushT own tv' cv code rb xs.length w.heap.size rb = _
        unfold pushT
        rw [if_neg (by omega), if_neg hd2, if_neg h2, if_pos rfl]
  · rw [heapSize_setCell] at hk'
    unfold pushT
    rw [if_neg (by omega), if_neg (fun e => by have := (rowLt htv e).2; omega), if_neg (fun e => by have := rdt_lt hcode e.1 e.2; omega), if_neg (fun e => by have := hring.lt; omega)]
end Go.Proofs.YtopdcjimpdalpaaGreat

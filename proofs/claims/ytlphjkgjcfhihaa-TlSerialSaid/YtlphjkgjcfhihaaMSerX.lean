/- Put together by merge.py out of XSerW.lean.tpl, XSerX.lean.tpl. -/
import Derived.Test.YtlphjkgjcfhihaaSerP
namespace Go.Proofs.Ytlphjkgjcfhihaa
open Go.RowKit
set_option linter.unusedVariables false
set_option linter.unusedSimpArgs false

section
/-- two neighbours change places -/
def swapC (l : List (Int × Int)) (k : Nat) : List (Int × Int) := match l[k]?, l[k + 1]? with
  | some a, some b => (l.set (k + 1) a).set k b
  | _, _ => l
theorem swapC_some {l : List (Int × Int)} {k : Nat} {a b : Int × Int} (ha : l[k]? = some a) (hb : l[k + 1]? = some b) : swapC l k = (l.set (k + 1) a).set k b := by
  unfold swapC
  rw [ha, hb]
theorem swapC_len (l : List (Int × Int)) (k : Nat) : (swapC l k).length = l.length := by
  unfold swapC
  split
  · rw [List.length_set, List.length_set]
  · rfl
theorem swapC_mem (l : List (Int × Int)) (k : Nat) (c : Int × Int) : c ∈ swapC l k ↔ c ∈ l := by
  cases ha : l[k]? with
  | none => unfold swapC; rw [ha]
  | some a =>
    cases hb : l[k + 1]? with
    | none => unfold swapC; rw [ha, hb]
    | some b =>
      rw [swapC_some ha hb]
      have hk := (List.getElem?_eq_some_iff.1 ha).1
      have hk1 := (List.getElem?_eq_some_iff.1 hb).1
      have key : ∀ (j : Nat), ((l.set (k + 1) a).set k b)[j]? = if j = k then some b else if j = k + 1 then some a else l[j]? := fun j => by
        by_cases e : j = k
        · subst e
          rw [if_pos rfl, List.getElem?_set_self (by rw [List.length_set]; exact hk)]
        · rw [if_neg e, List.getElem?_set_ne (fun q => e q.symm)]
          by_cases e2 : j = k + 1
          · subst e2
            rw [if_pos rfl, List.getElem?_set_self hk1]
          · rw [if_neg e2, List.getElem?_set_ne (fun q => e2 q.symm)]
      constructor
      · intro hc
        obtain ⟨j, hj⟩ := List.getElem?_of_mem hc
        rw [key] at hj
        by_cases e : j = k
        · rw [if_pos e] at hj; cases hj; exact List.mem_of_getElem? hb
        · rw [if_neg e] at hj
          by_cases e2 : j = k + 1
          · rw [if_pos e2] at hj; cases hj; exact List.mem_of_getElem? ha
          · rw [if_neg e2] at hj; exact List.mem_of_getElem? hj
      · intro hc
        obtain ⟨j, hj⟩ := List.getElem?_of_mem hc
        by_cases e : j = k
        · refine List.mem_of_getElem? (i := k + 1) ?_
          rw [key, if_neg (by omega), if_pos rfl, ← ha, ← e]; exact hj
        · by_cases e2 : j = k + 1
          · refine List.mem_of_getElem? (i := k) ?_
            rw [key, if_pos rfl, ← hb, ← e2]; exact hj
          · refine List.mem_of_getElem? (i := j) ?_
            rw [key, if_neg e, if_neg e2]; exact hj
/-- words as they are filled from cells: any order will do -/
def fillC (cs : List (Int × Int)) (l : List Int) : List Int := cs.foldl (fun l c => l.set c.1.toNat c.2) l
theorem fillC_len (cs : List (Int × Int)) : ∀ l, (fillC cs l).length = l.length := by
  induction cs with
  | nil => intro l; rfl
  | cons c cs ih => intro l; show (fillC cs _).length = _; rw [ih, List.length_set]
theorem fillC_no (cs : List (Int × Int)) {x : Nat} : ∀ l, (∀ c ∈ cs, c.1.toNat ≠ x) → (fillC cs l)[x]? = l[x]? := by
  induction cs with
  | nil => intro l _; rfl
  | cons c cs ih =>
    intro l h
    show (fillC cs _)[x]? = _
    rw [ih _ (fun d hd => h d (List.mem_cons_of_mem _ hd)), List.getElem?_set_ne (h c List.mem_cons_self)]
theorem fillC_yes (cs : List (Int × Int)) {x : Nat} {v : Int} : ∀ l, x < l.length → (∃ c ∈ cs, c.1.toNat = x) → (∀ c ∈ cs, c.1.toNat = x → c.2 = v) → (fillC cs l)[x]? = some v := by
  induction cs with
  | nil => intro l _ ⟨c, hc, _⟩ _; cases hc
  | cons c cs ih =>
    intro l hx hex hall
    show (fillC cs _)[x]? = _
    by_cases h : ∃ d ∈ cs, d.1.toNat = x
    · exact ih _ (by rw [List.length_set]; exact hx) h (fun d hd => hall d (List.mem_cons_of_mem _ hd))
    · rw [fillC_no cs _ (fun d hd e => h ⟨d, hd, e⟩)]
      obtain ⟨d, hd, hdx⟩ := hex
      rcases List.mem_cons.1 hd with rfl | hd
      · show (l.set d.1.toNat d.2)[x]? = some v
        rw [hdx, List.getElem?_set_self hx, hall d List.mem_cons_self hdx]
      · exact absurd ⟨d, hd, hdx⟩ h
end

section
def wrsAll (l : List Att) : List Ev := l.flatMap (fun a => wrs a.done)
theorem eff_wrsAll (l : List Att) : ∀ f, eff (wrsAll l) f = l.foldl done1 f := by
  induction l with
  | nil => intro f; rfl
  | cons a l ih =>
    intro f
    show eff (wrs a.done ++ wrsAll l) f = _
    rw [eff_app, ih, List.foldl_cons, wrs, eff_filter]
    rfl

/-- all threads idle: words are what cells say, in whatever order these stand -/
theorem words_end {w : TW} {s : HS} {cw : List Att} {m : Nat} {cells cells' : List (Int × Int)} (h : SerH w.evs s cw w.clock m) (ht : SerT w s cw m) (hm : w.mem.length = m) (hidle : ∀ (n : Nat) t, w.ths[n]? = some t → t.phase = 0)
    (hl : LogOf (wrsAll (sortA s.atts)) cells) (hc : ∀ c, c ∈ cells' ↔ c ∈ cells) : (∀ c ∈ cells', 1 ≤ c.1 ∧ c.1 < m) ∧ fillC cells' (List.replicate m 0) = w.mem := by
  have hr : ∀ c ∈ cells, 1 ≤ c.1 ∧ c.1 < m := fun c hcm => by
    obtain ⟨e, he, -, hea⟩ := hl.evs c hcm
    unfold wrsAll at he
    obtain ⟨a, ha, hea2⟩ := List.mem_flatMap.1 he
    have h1 := (h.att a ((sortA_mem _ _).1 ha).1).evs e (List.mem_filter.1 hea2).1
    omega
  refine ⟨fun c hcm => hr c ((hc c).1 hcm), ?_⟩
  refine List.ext_getElem? fun x => ?_
  by_cases hx : x < m
  · have h1 := Ser.done ht hidle x hx
    have h2 : CA cw (x : Int) = look cells (fun _ => 0) x := by
      rw [← h.final, ← hl.eff, eff_wrsAll]
    have h3 : w.mem[x]? = some (look cells (fun _ => 0) (x : Int)) := by
      rw [← h2, ← h1, List.getD_eq_getElem?_getD, List.getElem?_eq_getElem (by omega)]
      rfl
    rw [h3]
    by_cases hex : ∃ c ∈ cells, c.1 = (x : Int)
    · obtain ⟨c, hcm, hcx⟩ := hex
      have hv := look_mem (once_of hl.once) hcm (fun _ => 0)
      rw [hcx] at hv
      rw [hv]
      refine fillC_yes cells' _ (by rw [List.length_replicate]; exact hx) ⟨c, (hc c).2 hcm, by omega⟩ (fun d hd hdx => ?_)
      have hdm := (hc d).1 hd
      have := hr d hdm
      rw [once_of hl.once d hdm c hcm (by omega)]
    · rw [look_none (fun c hcm e => hex ⟨c, hcm, e⟩), fillC_no cells' _ (fun c hcm e => ?_)]
      · rw [List.getElem?_replicate, if_pos hx]
      · have hcm2 := (hc c).1 hcm
        have := hr c hcm2
        exact hex ⟨c, hcm2, by omega⟩
  · rw [List.getElem?_eq_none (by rw [fillC_len, List.length_replicate]; omega), List.getElem?_eq_none (by omega)]
end

end Go.Proofs.Ytlphjkgjcfhihaa

/- The contract of (*thread).take on a state of history.Of that lies in memory: as stepH says. -/
import Derived.Test.YtilkpmjkiohfdaaGreatDoorHistE
import Derived.Test.YtilkpmjkiohfdaaGreatDoorHistLaw
namespace Go.Proofs.YtilkpmjkiohfdaaGreatDoor
set_option linter.unusedVariables false
set_option linter.unusedSimpArgs false
open Go.RowKit

theorem done_le {s : HS} {j n : Nat} {a : Att} (h : s.atts[j]? = some a) (ht : total s.atts ≤ n) : a.done.length ≤ n := by
  refine Nat.le_trans ?_ ht
  have key : ∀ (l : List Att) (j : Nat), l[j]? = some a → a.done.length ≤ total l := by
    intro l
    induction l with
    | nil => intro j h; simp at h
    | cons b l ih =>
      intro j h
      cases j with
      | zero =>
        simp only [List.getElem?_cons_zero, Option.some.injEq] at h
        subst h
        simp [total]
      | succ j =>
        simp only [List.getElem?_cons_succ] at h
        have := ih j h
        simp only [total, List.map_cons, List.sum_cons] at this ⊢
        omega
  exact key _ _ h

theorem total_le (l : List Ev) {s : HS} (h : runH l 0 HS.init = .inl s) : total s.atts ≤ l.length := by
  rw [total_run l HOk.init h]
  have := List.length_filter_le isIn l
  simp [HS.init, total]
  exact this

theorem atts_step {s s' : HS} {x : Ev} {i : Nat} (hs : stepH s x i = some s') : s'.atts.length ≤ s.atts.length + 1 := by
  unfold stepH at hs
  split at hs
  · cases hs
  · split at hs
    · cases hs
    · split at hs
      · split at hs
        · cases hs; simp
        · split at hs
          · cases hs; simp
          · split at hs
            · cases hs; simp
            · cases hs
      · split at hs
        · cases hs; simp
        · split at hs
          · cases hs; simp
          · split at hs
            · cases hs; simp
            · split at hs
              · cases hs; simp
              · cases hs

theorem atts_run (l : List Ev) : ∀ {s s' : HS} {i : Nat}, runH l i s = .inl s' → s'.atts.length ≤ s.atts.length + l.length := by
  induction l with
  | nil => intro s s' i hr; simp only [runH, Sum.inl.injEq] at hr; subst hr; simp
  | cons x l ih =>
    intro s s' i hr
    simp only [runH] at hr
    cases hs : stepH s x i with
    | none => rw [hs] at hr; cases hr
    | some t =>
      rw [hs] at hr
      have h1 := ih hr
      have h2 := atts_step hs
      simp
      omega

/-- what take does -/
def TakePost (s : HS) (x : Ev) (i : Nat) (base bt : Nat) (gb : Nat → Nat) (all : Value) (w : World) (e : Ending) (w' : World) : Prop :=
  (stepH s x i = none ∧ TakeNo w e w') ∨
  (∃ s' dv' lab', stepH s x i = some s' ∧ e = .returned (.tuple #[.pointer none, .bool true]) ∧ Held w' base bt gb dv' all lab' s' ∧ Below base w w') ∨
  (stepH s x i = some ⟨s.atts ++ [begun x i], upd s.opn x.th.toNat (some s.atts.length), s.ended⟩ ∧ TakeBegin x i bt (2 * x.th.toNat) (encThr s gb).toArray 131 w e w')

theorem upd_ended {s : HS} {t : Nat} {b : Bool} (h : s.ended t = b) : upd s.ended t b = s.ended := by
  funext j
  simp only [upd]
  split
  · rename_i e; subst e; exact h.symm
  · rfl

theorem take_any {w : World} {base bt : Nat} {gb : Nat → Nat} {dv : Nat → Value} {all : Value} {lab : Nat → Nat} {s : HS} (h : Held w base bt gb dv all lab s) (x : Ev) (i : Nat) (hok : HOk s i) (h0 : 0 ≤ x.th) (h4 : x.th < 4)
    (hdone : total s.atts < 2 ^ 20) :
    Calls Tryz.prog 139 #[.pointer (some ⟨bt, 2 * x.th.toNat, none⟩), evAgg x, .int .i64 (i : Int)] w (TakePost s x i base bt gb all w) := by
  have ht : x.th.toNat < 4 := by omega
  have hb := h.thr
  have hE := encThr_ended s gb ht
  have hO := encThr_opn s gb ht
  have hst := h.bbt
  have hlt := h.lt0
  have c1 : ¬ (x.th < 0 ∨ 4 ≤ x.th) := by omega
  cases hen : s.ended x.th.toNat with
  | true =>
    rw [hen] at hE
    refine (take_ended x i hb hE).mono fun e w' hp => .inl ⟨?_, hp⟩
    unfold stepH
    rw [if_neg c1, if_pos hen]
  | false =>
    rw [hen] at hE
    have c2 : ¬ s.ended x.th.toNat = true := by rw [hen]; decide
    cases ho : s.opn x.th.toNat with
    | none =>
      rw [ho] at hO
      have st : stepH s x i = (if x.k = 1 then some ⟨s.atts ++ [begun x i], upd s.opn x.th.toNat (some s.atts.length), s.ended⟩ else if x.k = 9 then some s else if x.k = 10 ∨ x.k = 11 then some ⟨s.atts, s.opn, upd s.ended x.th.toNat true⟩ else none) := by
        unfold stepH
        rw [if_neg c1, if_neg c2, ho]
      by_cases k1 : x.k = 1
      · rw [if_pos k1] at st
        exact (take_begin x i hb hE hO k1).mono fun e w' hp => .inr (.inr ⟨st, hp⟩)
      rw [if_neg k1] at st
      by_cases k9 : x.k = 9
      · rw [if_pos k9] at st
        refine (take_out x i hb hE hO k9).mono fun e w' hp => .inr (.inl ⟨s, dv, lab, st, hp.1, ?_⟩)
        have hB : Below w.heap.size w w' := hp.2.1.to_below (Nat.le_refl _) (fun k hk => hk.elim)
        exact ⟨h.keep hB, hB.mono (by omega)⟩
      rw [if_neg k9] at st
      by_cases k10 : x.k = 10
      · rw [if_pos (.inl k10)] at st
        refine (take_halt x i hb hE hO k10).mono fun e w' hp => .inr (.inl ⟨_, dv, lab, st, hp.1, ?_⟩)
        refine ⟨h.same hp.2.1 (fun k hk => hk) rfl ?_, hp.2.1.to_below (by omega) (fun k hk => by omega)⟩
        rw [← encThr_set_ended s gb ht]
        exact hp.2.2
      by_cases k11 : x.k = 11
      · rw [if_pos (.inr k11)] at st
        refine (take_trap x i hb hE hO k11).mono fun e w' hp => .inr (.inl ⟨_, dv, lab, st, hp.1, ?_⟩)
        refine ⟨h.same hp.2.1 (fun k hk => hk) rfl ?_, hp.2.1.to_below (by omega) (fun k hk => by omega)⟩
        rw [← encThr_set_ended s gb ht]
        exact hp.2.2
      rw [if_neg (by omega)] at st
      exact (take_out_no x i hb hE hO (by omega)).mono fun e w' hp => .inl ⟨st, hp⟩
    | some j =>
      rw [ho] at hO
      obtain ⟨a, ha, hath, hafin⟩ := hok.opn _ _ ho
      have hjl := (List.getElem?_eq_some_iff.1 ha).1
      have hat := h.att j a ha
      have hbg := hat.2.1
      have hn : bt ≠ gb j := fun e => by have h1 := h.l2 j hjl; rw [← e, h.l0] at h1; omega
      have hdl := done_le (j := j) ha (Nat.le_refl _)
      have hdb : ∀ d, (dv j).ownBlock = some d → base ≤ d := fun d hd => (hat.2.2.lt d hd).1
      have own2 : ∀ {w' : World} {a' : Att} {S : Nat → Prop}, a'.done = a.done → Chg S w w' → (∀ k, S k → k = bt ∨ k = gb j) → w'.heap[gb j]? = some (.cells (encAtt a' (dv j)).toArray 138 (0, 0)) → AttAt w' base (gb j) (dv j) a' := by
        intro w' a' S e c hS hg
        refine ⟨hg, hbg, ?_⟩
        rw [e]
        refine ownsRow_chg hat.2.2 c (fun g hg hk => ?_)
        have h1 := h.l3 j g hjl hg
        rcases hS _ hk with e | e
        · rw [e, h.l0] at h1; omega
        · rw [e, h.l2 j hjl] at h1; omega
      have st : stepH s x i = (if 2 ≤ x.k ∧ x.k ≤ 6 then some ⟨s.atts.modify j (more x), s.opn, s.ended⟩ else if x.k = 7 then some ⟨s.atts.modify j (committed x i), upd s.opn x.th.toNat none, s.ended⟩
          else if x.k = 8 then some ⟨s.atts.modify j (closed 2 i), upd s.opn x.th.toNat none, s.ended⟩ else if x.k = 11 then some ⟨s.atts.modify j (closed 3 i), upd s.opn x.th.toNat none, upd s.ended x.th.toNat true⟩ else none) := by
        unfold stepH
        rw [if_neg c1, if_neg c2, ho]
      by_cases k2 : 2 ≤ x.k ∧ x.k ≤ 6
      · rw [if_pos k2] at st
        refine (take_in x i hb hE hO k2 hat hn (fun d hd => ⟨fun e => ?_, fun e => ?_⟩) (by omega) (by omega)).mono ?_
        · have h1 := h.l3 j d hjl hd; rw [e, h.l2 j hjl] at h1; omega
        · have h1 := h.l3 j d hjl hd; rw [e, h.l0] at h1; omega
        rintro e w' ⟨he, dv', hatt, hdv', hc⟩
        have hS : ∀ k, (k = gb j ∨ (dv j).ownBlock = some k) → k = bt ∨ k = gb j ∨ (dv j).ownBlock = some k := fun k hk => .inr hk
        have hbk : w'.heap[bt]? = some (.cells (encThr s gb).toArray 131 (0, 0)) := chgblk hc hb (fun hk => by
          rcases hk with hk | hk
          · exact hn hk
          · have h1 := h.l3 j bt hjl hk; rw [h.l0] at h1; omega)
        obtain ⟨lab', hh⟩ := h.turn (s' := ⟨s.atts.modify j (more x), s.opn, s.ended⟩) ha hc hS rfl hbk hatt hdv'
        exact .inr (.inl ⟨_, _, lab', st, he, hh, hc.to_below (by omega) (fun k hk => by
          rcases hk with hk | hk
          · omega
          · exact hdb k hk)⟩)
      rw [if_neg k2] at st
      have self : upd dv j (dv j) = dv := by funext i; simp only [upd]; split <;> simp_all
      have fin : ∀ {w' : World} {f : Att → Att} {o' : Nat → Option Nat} {e' : Nat → Bool} {e : Ending}, (∀ a, (f a).done = a.done) → stepH s x i = some ⟨s.atts.modify j f, o', e'⟩ → e = .returned (.tuple #[.pointer none, .bool true]) →
          Chg (fun k => k = bt ∨ k = gb j) w w' → w'.heap[gb j]? = some (.cells (encAtt (f a) (dv j)).toArray 138 (0, 0)) →
          w'.heap[bt]? = some (.cells (encThr ⟨s.atts.modify j f, o', e'⟩ gb).toArray 131 (0, 0)) → TakePost s x i base bt gb all w e w' := by
        intro w' f o' e' e hf hst he hc hg hbt
        obtain ⟨lab', hh⟩ := h.turn (s' := ⟨s.atts.modify j f, o', e'⟩) (dv' := dv j) ha hc (fun k hk => hk.elim .inl (fun h => .inr (.inl h))) rfl hbt (own2 (hf a) hc (fun k hk => hk) hg) (fun d hd => .inl hd)
        exact .inr (.inl ⟨_, _, lab', hst, he, hh, hc.to_below (by omega) (fun k hk => by omega)⟩)
      have eo : (encThr s gb).toArray.setIfInBounds (2 * x.th.toNat) (.pointer none) = (encThr ⟨s.atts, upd s.opn x.th.toNat none, s.ended⟩ gb).toArray := encThr_set_opn s gb ht none _
      by_cases k7 : x.k = 7
      · rw [if_pos k7] at st
        refine (take_commit x i hb hE hO k7 hat.1 hn).mono ?_
        rintro e w' ⟨he, hc, hg, hbt⟩
        rw [eo] at hbt
        exact fin (f := committed x i) (fun _ => rfl) st he hc hg hbt
      rw [if_neg k7] at st
      by_cases k8 : x.k = 8
      · rw [if_pos k8] at st
        refine (take_abort x i hb hE hO k8 hat.1 hn).mono ?_
        rintro e w' ⟨he, hc, hg, hbt⟩
        rw [eo] at hbt
        exact fin (f := closed 2 i) (fun _ => rfl) st he hc hg hbt
      rw [if_neg k8] at st
      by_cases k11 : x.k = 11
      · rw [if_pos k11] at st
        refine (take_trapped x i hb hE hO k11 hat.1 hn).mono ?_
        rintro e w' ⟨he, hc, hg, hbt⟩
        rw [eo, encThr_set_ended _ gb ht true s.atts] at hbt
        exact fin (f := closed 3 i) (fun _ => rfl) st he hc hg hbt
      rw [if_neg k11] at st
      exact (take_in_no x i hb hE hO (by omega) k11).mono fun e w' hp => .inl ⟨st, hp⟩

end Go.Proofs.YtilkpmjkiohfdaaGreatDoor

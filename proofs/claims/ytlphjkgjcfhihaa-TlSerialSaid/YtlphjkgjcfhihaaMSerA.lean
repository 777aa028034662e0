/- Put together by merge.py out of XSerA.lean.tpl, XSerB.lean.tpl, XSerC.lean.tpl, XSerD.lean.tpl, XSerE.lean.tpl. -/
import Derived.Test.YtlphjkgjcfhihaaMTlSpec
namespace Go.Proofs.Ytlphjkgjcfhihaa
open Go.RowKit
set_option linter.unusedVariables false
set_option linter.unusedSimpArgs false

section
/-- words, by their numbers -/
def wr1 (e : Ev) (f : Int → Int) : Int → Int := if e.k = 3 then fun x => if x = e.a then e.b else f x else f
def eff : List Ev → (Int → Int) → Int → Int
  | [], f => f
  | e :: l, f => eff l (wr1 e f)
def okRd : List Ev → (Int → Int) → Prop
  | [], _ => True
  | e :: l, f => (e.k = 2 → f e.a = e.b) ∧ okRd l (wr1 e f)
/-- words that are read, not being written ahead of it, have P -/
def RdIn : (Int → Prop) → List Ev → Prop
  | _, [] => True
  | P, e :: l => (e.k = 2 → P e.a) ∧ RdIn (fun x => P x ∨ e.k = 3 ∧ x = e.a) l

theorem eff_app (l m : List Ev) : ∀ f, eff (l ++ m) f = eff m (eff l f) := by
  induction l with
  | nil => intro f; rfl
  | cons e l ih => intro f; exact ih _
theorem okRd_app (l m : List Ev) : ∀ f, okRd (l ++ m) f ↔ okRd l f ∧ okRd m (eff l f) := by
  induction l with
  | nil => intro f; simp [okRd, eff]
  | cons e l ih => intro f; simp only [List.cons_append, okRd, eff, ih, and_assoc]
theorem RdIn_app (l m : List Ev) : ∀ P, RdIn P (l ++ m) ↔ RdIn P l ∧ RdIn (fun x => P x ∨ ∃ e ∈ l, e.k = 3 ∧ x = e.a) m := by
  induction l with
  | nil => intro P; simp [RdIn]
  | cons e l ih =>
    intro P
    simp only [List.cons_append, RdIn, ih, and_assoc]
    have : (fun x => (P x ∨ e.k = 3 ∧ x = e.a) ∨ ∃ e_1 ∈ l, e_1.k = 3 ∧ x = e_1.a) = (fun x => P x ∨ ∃ e_1 ∈ e :: l, e_1.k = 3 ∧ x = e_1.a) := by
      funext x
      simp only [List.mem_cons, exists_eq_or_imp, or_assoc]
    rw [this]
theorem RdIn_mono (l : List Ev) : ∀ {P Q : Int → Prop}, (∀ x, P x → Q x) → RdIn P l → RdIn Q l := by
  induction l with
  | nil => intro P Q _ _; trivial
  | cons e l ih => intro P Q h hr; exact ⟨fun q => h _ (hr.1 q), ih (fun x hx => hx.imp (h x) id) hr.2⟩

theorem wr1_ne {e : Ev} (h : e.k ≠ 3) (f : Int → Int) : wr1 e f = f := if_neg h
theorem wr1_at {e : Ev} (h : e.k = 3) (f : Int → Int) (x : Int) : wr1 e f x = if x = e.a then e.b else f x := by unfold wr1; rw [if_pos h]
/-- where two agree: at every x that has P, and what is written -/
theorem wr1_agree {P : Int → Prop} {f g : Int → Int} (e : Ev) (h : ∀ x, P x → f x = g x) : ∀ x, (P x ∨ e.k = 3 ∧ x = e.a) → wr1 e f x = wr1 e g x := by
  intro x hx
  by_cases he : e.k = 3
  · rw [wr1_at he, wr1_at he]
    by_cases hxa : x = e.a
    · rw [if_pos hxa, if_pos hxa]
    · rw [if_neg hxa, if_neg hxa]
      rcases hx with hx | ⟨_, hx⟩
      · exact h x hx
      · exact absurd hx hxa
  · rw [wr1_ne he, wr1_ne he]
    rcases hx with hx | ⟨hx, _⟩
    · exact h x hx
    · exact absurd hx he
theorem okRd_agree (l : List Ev) : ∀ {P : Int → Prop} {f g : Int → Int}, okRd l f → RdIn P l → (∀ x, P x → f x = g x) → okRd l g := by
  induction l with
  | nil => intro P f g _ _ _; trivial
  | cons e l ih =>
    intro P f g h hr ha
    exact ⟨fun q => by rw [← ha _ (hr.1 q)]; exact h.1 q, ih h.2 hr.2 (wr1_agree e ha)⟩
/-- a word that is not written stays -/
theorem eff_stay (l : List Ev) {x : Int} : ∀ (f : Int → Int), (∀ e ∈ l, e.k = 3 → e.a ≠ x) → eff l f x = f x := by
  induction l with
  | nil => intro f _; rfl
  | cons e l ih =>
    intro f h
    rw [eff, ih _ (fun d hd => h d (List.mem_cons_of_mem _ hd))]
    by_cases he : e.k = 3
    · rw [wr1_at he, if_neg (fun q => h e List.mem_cons_self he q.symm)]
    · rw [wr1_ne he]
/-- a word that is written has what is written, whatever was there -/
theorem eff_hit (l : List Ev) {x : Int} : ∀ (f g : Int → Int), (∃ e ∈ l, e.k = 3 ∧ e.a = x) → eff l f x = eff l g x := by
  induction l with
  | nil => intro f g ⟨e, he, _⟩; cases he
  | cons e l ih =>
    intro f g ⟨d, hd, hk, hx⟩
    by_cases hl : ∃ e ∈ l, e.k = 3 ∧ e.a = x
    · exact ih _ _ hl
    · have hn : ∀ e ∈ l, e.k = 3 → e.a ≠ x := fun e he h1 h2 => hl ⟨e, he, h1, h2⟩
      rw [eff, eff, eff_stay l _ hn, eff_stay l _ hn]
      rcases List.mem_cons.1 hd with rfl | hd
      · rw [wr1_at hk, wr1_at hk, if_pos hx.symm, if_pos hx.symm]
      · exact absurd hx (hn d hd hk)

/-- what a log says of words -/
def look (l : List (Int × Int)) (f : Int → Int) (x : Int) : Int := match l[place l x]? with
  | some c => c.2
  | none => f x
theorem place_none {l : List (Int × Int)} {a : Int} (h : l[place l a]? = none) : ∀ c ∈ l, c.1 ≠ a := by
  have hl : l.length ≤ place l a := by
    rcases Nat.lt_or_ge (place l a) l.length with e | e
    · rw [List.getElem?_eq_getElem e] at h; cases h
    · exact e
  intro c hc hca
  have : place l a < l.length := List.findIdx_lt_length.2 ⟨c, hc, by simp [hca]⟩
  omega
theorem place_some {l : List (Int × Int)} {a : Int} {c : Int × Int} (h : l[place l a]? = some c) : c ∈ l ∧ c.1 = a := by
  have hl := (List.getElem?_eq_some_iff.1 h).1
  obtain ⟨d, hd, hda⟩ := place_at hl
  rw [h] at hd
  cases hd
  exact ⟨List.mem_of_getElem? h, hda⟩
theorem place_mem {l : List (Int × Int)} {c : Int × Int} (h : c ∈ l) : ∃ d, l[place l c.1]? = some d ∧ d.1 = c.1 := by
  cases hp : l[place l c.1]? with
  | none => exact absurd rfl (place_none hp c h)
  | some d => exact ⟨d, rfl, (place_some hp).2⟩
/-- no word twice -/
def Once (l : List (Int × Int)) : Prop := ∀ c ∈ l, ∀ d ∈ l, c.1 = d.1 → c = d
theorem look_mem {l : List (Int × Int)} (ho : Once l) {c : Int × Int} (h : c ∈ l) (f : Int → Int) : look l f c.1 = c.2 := by
  obtain ⟨d, hd, hdc⟩ := place_mem h
  unfold look
  rw [hd]
  rw [ho d (List.mem_of_getElem? hd) c h hdc]
theorem look_none {l : List (Int × Int)} {x : Int} (h : ∀ c ∈ l, c.1 ≠ x) (f : Int → Int) : look l f x = f x := by
  unfold look
  cases hp : l[place l x]? with
  | none => rfl
  | some d => exact absurd (place_some hp).2 (h d (place_some hp).1)

/-- an attempt's log and what it has done -/
structure LogOf (done : List Ev) (log : List (Int × Int)) : Prop where
  once : (log.map Prod.fst).Nodup
  eff : ∀ f x, eff done f x = look log f x
  keys : ∀ e ∈ done, e.k = 3 → ∃ c ∈ log, c.1 = e.a
  evs : ∀ c ∈ log, ∃ e ∈ done, e.k = 3 ∧ e.a = c.1
theorem once_of {l : List (Int × Int)} (h : (l.map Prod.fst).Nodup) : Once l := by
  induction l with
  | nil => intro c hc; cases hc
  | cons b l ih =>
    simp only [List.map_cons, List.nodup_cons, List.mem_map, not_exists, not_and] at h
    intro c hc d hd e
    rcases List.mem_cons.1 hc with hc1 | hc1
    · rcases List.mem_cons.1 hd with hd1 | hd1
      · rw [hc1, hd1]
      · exact absurd (by rw [← e, hc1]) (h.1 d hd1)
    · rcases List.mem_cons.1 hd with hd1 | hd1
      · exact absurd (by rw [e, hd1]) (h.1 c hc1)
      · exact ih h.2 c hc1 d hd1 e
theorem LogOf.nil : LogOf [] [] := ⟨by simp, fun f x => by simp [Go.Proofs.Ytlphjkgjcfhihaa.eff, look], by simp, by simp⟩
/-- a read more -/
theorem LogOf.read {done : List Ev} {log : List (Int × Int)} (h : LogOf done log) {e : Ev} (he : e.k ≠ 3) : LogOf (done ++ [e]) log :=
  ⟨h.once, fun f x => by rw [eff_app]; show wr1 e _ x = _; rw [wr1_ne he]; exact h.eff f x, fun d hd hk => by
    rcases List.mem_append.1 hd with hd | hd
    · exact h.keys d hd hk
    · rw [List.mem_singleton.1 hd] at hk; exact absurd hk he, fun c hc => by
    obtain ⟨d, hd, q⟩ := h.evs c hc
    exact ⟨d, List.mem_append_left _ hd, q⟩⟩
/-- a write more, of a word that the log has -/
theorem LogOf.set {done : List Ev} {log : List (Int × Int)} (h : LogOf done log) {e : Ev} (he : e.k = 3) (hp : place log e.a < log.length) : LogOf (done ++ [e]) (log.set (place log e.a) (e.a, e.b)) := by
  obtain ⟨c0, hc0, hca⟩ := place_at hp
  have hmap : (log.set (place log e.a) (e.a, e.b)).map Prod.fst = log.map Prod.fst := by
    refine List.ext_getElem? fun k => ?_
    rw [List.getElem?_map, List.getElem?_map]
    by_cases q : place log e.a = k
    · subst q
      rw [List.getElem?_set_self hp, hc0]
      simp [hca]
    · rw [List.getElem?_set_ne q]
  have hon : ((log.set (place log e.a) (e.a, e.b)).map Prod.fst).Nodup := by rw [hmap]; exact h.once
  have hkey : ∀ x, (∃ c ∈ log.set (place log e.a) (e.a, e.b), c.1 = x) ↔ ∃ c ∈ log, c.1 = x := fun x => by
    have h1 : x ∈ (log.set (place log e.a) (e.a, e.b)).map Prod.fst ↔ x ∈ log.map Prod.fst := by rw [hmap]
    rw [List.mem_map, List.mem_map] at h1
    exact h1
  refine ⟨hon, fun f x => ?_, fun d hd hk => ?_, fun c hc => ?_⟩
  · rw [eff_app]
    show wr1 e _ x = _
    rw [wr1_at he]
    by_cases hx : x = e.a
    · rw [if_pos hx, hx]
      exact (look_mem (once_of hon) (c := (e.a, e.b)) (List.mem_of_getElem? (List.getElem?_set_self hp)) f).symm
    · rw [if_neg hx, h.eff]
      by_cases hin : ∃ c ∈ log, c.1 = x
      · obtain ⟨c, hc, hcx⟩ := hin
        obtain ⟨k, hk⟩ := List.getElem?_of_mem hc
        have hne : place log e.a ≠ k := fun q => by rw [← q, hc0] at hk; cases hk; exact hx (by rw [← hcx, hca])
        have hc' : c ∈ log.set (place log e.a) (e.a, e.b) := List.mem_of_getElem? (by rw [List.getElem?_set_ne hne]; exact hk)
        rw [← hcx, look_mem (once_of h.once) hc, look_mem (once_of hon) hc']
      · rw [look_none (fun c hc q => hin ⟨c, hc, q⟩), look_none (fun c hc q => hin ((hkey x).1 ⟨c, hc, q⟩))]
  · rw [hkey]
    rcases List.mem_append.1 hd with hd | hd
    · exact h.keys d hd hk
    · rw [List.mem_singleton.1 hd]; exact ⟨c0, List.mem_of_getElem? hc0, hca⟩
  · rcases List.mem_or_eq_of_mem_set hc with hc | rfl
    · obtain ⟨d, hd, q⟩ := h.evs c hc
      exact ⟨d, List.mem_append_left _ hd, q⟩
    · exact ⟨e, by simp, he, rfl⟩
/-- a write more, of a word that the log has not -/
theorem LogOf.more {done : List Ev} {log : List (Int × Int)} (h : LogOf done log) {e : Ev} (he : e.k = 3) (hp : ¬ place log e.a < log.length) : LogOf (done ++ [e]) (log ++ [(e.a, e.b)]) := by
  have hno : ∀ c ∈ log, c.1 ≠ e.a := place_none (List.getElem?_eq_none (by omega))
  have hon : ((log ++ [(e.a, e.b)]).map Prod.fst).Nodup := by
    rw [List.map_append, List.nodup_append]
    refine ⟨h.once, by simp, fun a ha b hb => ?_⟩
    obtain ⟨c, hc, rfl⟩ := List.mem_map.1 ha
    simp at hb
    rw [hb]; exact hno c hc
  refine ⟨hon, fun f x => ?_, fun d hd hk => ?_, fun c hc => ?_⟩
  · rw [eff_app]
    show wr1 e _ x = _
    rw [wr1_at he]
    by_cases hx : x = e.a
    · rw [if_pos hx, hx]
      exact (look_mem (once_of hon) (c := (e.a, e.b)) (by simp) f).symm
    · rw [if_neg hx, h.eff]
      by_cases hin : ∃ c ∈ log, c.1 = x
      · obtain ⟨c, hc, hcx⟩ := hin
        rw [← hcx, look_mem (once_of h.once) hc, look_mem (once_of hon) (List.mem_append_left _ hc)]
      · rw [look_none (fun c hc q => hin ⟨c, hc, q⟩), look_none (fun c hc q => by
          rcases List.mem_append.1 hc with hc | hc
          · exact hin ⟨c, hc, q⟩
          · rw [List.mem_singleton.1 hc] at q; exact hx q.symm)]
  · rcases List.mem_append.1 hd with hd | hd
    · obtain ⟨c, hc, q⟩ := h.keys d hd hk
      exact ⟨c, List.mem_append_left _ hc, q⟩
    · rw [List.mem_singleton.1 hd]; exact ⟨(e.a, e.b), by simp, rfl⟩
  · rcases List.mem_append.1 hc with hc | hc
    · obtain ⟨d, hd, q⟩ := h.evs c hc
      exact ⟨d, List.mem_append_left _ hd, q⟩
    · rw [List.mem_singleton.1 hc]; exact ⟨e, by simp, he, rfl⟩
end

section
def done1 (f : Int → Int) (a : Att) : Int → Int := eff a.done f
/-- words behind all commits; behind those up to a place -/
def CA (cw : List Att) : Int → Int := cw.foldl done1 (fun _ => 0)
def CP (cw : List Att) (c : Int) : Int → Int := CA (cw.filter (fun a => decide (a.place ≤ c)))
/-- does an attempt write a word? -/
def Writes (a : Att) (x : Int) : Prop := ∃ e ∈ a.done, e.k = 3 ∧ e.a = x

theorem CP_all {cw : List Att} {c : Int} (h : ∀ a ∈ cw, a.place ≤ c) : CP cw c = CA cw := by
  unfold CP
  rw [List.filter_eq_self.2 (fun a ha => by simpa using h a ha)]
theorem CP_snoc {cw : List Att} {c : Int} {x : Att} (h : c < x.place) : CP (cw ++ [x]) c = CP cw c := by
  unfold CP
  rw [List.filter_append, List.filter_cons_of_neg (by simpa using h), List.filter_nil, List.append_nil]
theorem CA_snoc (cw : List Att) (x : Att) : CA (cw ++ [x]) = eff x.done (CA cw) := by
  unfold CA
  rw [List.foldl_append]; rfl
theorem eff_eq (l : List Ev) {x : Int} {f g : Int → Int} (h : f x = g x) : eff l f x = eff l g x := by
  by_cases hw : ∃ e ∈ l, e.k = 3 ∧ e.a = x
  · exact eff_hit l f g hw
  · rw [eff_stay l f (fun e he h1 h2 => hw ⟨e, he, h1, h2⟩), eff_stay l g (fun e he h1 h2 => hw ⟨e, he, h1, h2⟩)]; exact h
theorem CP_eq_aux (c x : Int) (cw : List Att) : ∀ (f g : Int → Int), f x = g x → (∀ a ∈ cw, Writes a x → a.place ≤ c) → (cw.filter (fun a => decide (a.place ≤ c))).foldl done1 f x = cw.foldl done1 g x := by
  induction cw with
  | nil => intro f g h _; exact h
  | cons a l ih =>
    intro f g h hw
    have hl : ∀ a ∈ l, Writes a x → a.place ≤ c := fun b hb => hw b (List.mem_cons_of_mem _ hb)
    by_cases hp : a.place ≤ c
    · rw [List.filter_cons_of_pos (by simpa using hp), List.foldl_cons, List.foldl_cons]
      exact ih _ _ (eff_eq a.done h) hl
    · rw [List.filter_cons_of_neg (by simpa using hp), List.foldl_cons]
      refine ih _ _ ?_ hl
      have hn : ¬ Writes a x := fun q => hp (hw a List.mem_cons_self q)
      show f x = eff a.done g x
      rw [eff_stay a.done g (fun e he h1 h2 => hn ⟨e, he, h1, h2⟩)]; exact h
/-- where all writers of a word stand up to a place -/
theorem CP_eq {cw : List Att} {c x : Int} (h : ∀ a ∈ cw, Writes a x → a.place ≤ c) : CP cw c x = CA cw x := CP_eq_aux c x cw _ _ rfl h

structure AttOk (a : Att) (cw : List Att) (W : Int) (m : Nat) : Prop where
  clock0 : 0 ≤ a.clock
  clock1 : a.clock ≤ W
  rd : okRd a.done (CP cw a.clock)
  evs : ∀ e ∈ a.done, (e.k = 2 ∨ e.k = 3) ∧ 1 ≤ e.a ∧ e.a < m
  kind : a.kind = 0 ∨ a.kind = 1 ∨ a.kind = 2
  plain : a.kind ≠ 1 → a.place = 0 ∧ a.writer = false
  reader : a.kind = 1 → a.writer = false → a.place = a.clock ∧ ∀ e ∈ a.done, e.k ≠ 3
  writer : a.kind = 1 → a.writer = true → a.clock < a.place ∧ a.place ≤ W ∧ okRd a.done (CP cw (a.place - 1))

theorem AttOk.mono {a : Att} {cw : List Att} {W W' : Int} {m : Nat} (h : AttOk a cw W m) (hW : W ≤ W') : AttOk a cw W' m :=
  ⟨h.clock0, Int.le_trans h.clock1 hW, h.rd, h.evs, h.kind, h.plain, h.reader, fun h1 h2 => ⟨(h.writer h1 h2).1, Int.le_trans (h.writer h1 h2).2.1 hW, (h.writer h1 h2).2.2⟩⟩
/-- one more writer, behind all -/
theorem AttOk.snoc {a x : Att} {cw : List Att} {W : Int} {m : Nat} (h : AttOk a cw W m) (hx : x.place = W + 1) : AttOk a (cw ++ [x]) (W + 1) m :=
  ⟨h.clock0, by have := h.clock1; omega, by rw [CP_snoc (by have := h.clock1; omega)]; exact h.rd, h.evs, h.kind, h.plain, h.reader, fun h1 h2 => by
    have h3 := h.writer h1 h2
    exact ⟨h3.1, by omega, by rw [CP_snoc (by omega)]; exact h3.2.2⟩⟩

/-- the attempts behind the events -/
structure SerH (evs : List Ev) (s : HS) (cw : List Att) (W : Int) (m : Nat) : Prop where
  hist : runH evs 0 HS.init = .inl s
  ended : ∀ t, s.ended t = false
  clk : 0 ≤ W
  att : ∀ a ∈ s.atts, AttOk a cw W m
  cws : ∀ a, a ∈ cw ↔ a ∈ s.atts ∧ a.kind = 1 ∧ a.writer = true
  inc : cw.Pairwise (fun a b => a.place < b.place)
  real : ∀ a ∈ s.atts, ∀ b ∈ s.atts, a.kind = 1 → a.fin < b.beg → a.place ≤ b.clock

variable {evs : List Ev} {s : HS} {cw : List Att} {W : Int} {m : Nat}

theorem SerH.init (m : Nat) : SerH [] HS.init [] 0 m :=
  ⟨rfl, fun _ => rfl, Int.le_refl _, fun a h => by simp [HS.init] at h, fun a => by simp [HS.init], List.Pairwise.nil, fun a h => by simp [HS.init] at h⟩
theorem SerH.hok (h : SerH evs s cw W m) : HOk s evs.length := by
  have := HOk.init.run evs h.hist
  rwa [Nat.zero_add] at this
theorem SerH.clock (h : SerH evs s cw W m) : SerH evs s cw (W + 1) m :=
  ⟨h.hist, h.ended, by have := h.clk; omega, fun a ha => (h.att a ha).mono (by omega), h.cws, h.inc, h.real⟩
theorem SerH.next (h : SerH evs s cw W m) {e : Ev} {s' : HS} (hs : stepH s e evs.length = some s') : runH (evs ++ [e]) 0 HS.init = .inl s' := by
  rw [runH_append, h.hist]
  simp only [Nat.zero_add, runH, hs]
theorem SerH.place_le (h : SerH evs s cw W m) {a : Att} (ha : a ∈ s.atts) (hk : a.kind = 1) : a.place ≤ W := by
  have h1 := h.att a ha
  cases hw : a.writer with
  | true => exact (h1.writer hk hw).2.1
  | false => rw [(h1.reader hk hw).1]; exact h1.clock1
theorem SerH.cw_le (h : SerH evs s cw W m) : ∀ a ∈ cw, a.place ≤ W := fun a ha => h.place_le ((h.cws a).1 ha).1 ((h.cws a).1 ha).2.1
theorem SerH.all (h : SerH evs s cw W m) : CP cw W = CA cw := CP_all h.cw_le
/-- a thread's open attempt -/
theorem SerH.openAt (h : SerH evs s cw W m) {n j : Nat} (hj : s.opn n = some j) : ∃ b, s.atts[j]? = some b ∧ b.th = n ∧ b.fin = -1 ∧ b.kind = 0 ∧ b.place = 0 ∧ b.writer = false ∧ 0 ≤ b.beg ∧ b.beg < evs.length := by
  obtain ⟨b, hb, h1, h2⟩ := h.hok.opn n j hj
  obtain ⟨a1, a2, a3, a4, a5, a6⟩ := h.hok.att j b hb
  rcases a6 with ⟨q1, q2, q3, q4, q5⟩ | ⟨q1, q2, q3⟩
  · exact ⟨b, hb, h1, h2, q2, q3, q4, a3, a4⟩
  · omega

theorem mem_modify {l : List Att} {j : Nat} {f : Att → Att} {b a : Att} (hb : l[j]? = some b) (ha : a ∈ l.modify j f) : a = f b ∨ a ∈ l := by
  obtain ⟨k, hk⟩ := List.getElem?_of_mem ha
  rw [modify_at] at hk
  cases hc : l[k]? with
  | none => rw [hc] at hk; cases hk
  | some c =>
    rw [hc] at hk
    simp only [Option.map_some, Option.some.injEq] at hk
    by_cases e : k = j
    · subst e
      rw [hb] at hc
      cases hc
      rw [if_pos rfl] at hk
      exact .inl hk.symm
    · rw [if_neg e] at hk
      subst hk
      exact .inr (List.mem_of_getElem? hc)
theorem modify_new {l : List Att} {j : Nat} {f : Att → Att} {b : Att} (hb : l[j]? = some b) : f b ∈ l.modify j f :=
  List.mem_of_getElem? (i := j) (by rw [modify_at, hb]; simp)
theorem modify_old {l : List Att} {j : Nat} {f : Att → Att} {b a : Att} (hb : l[j]? = some b) (ha : a ∈ l) (hne : a ≠ b) : a ∈ l.modify j f := by
  obtain ⟨k, hk⟩ := List.getElem?_of_mem ha
  refine List.mem_of_getElem? (i := k) ?_
  rw [modify_at, hk]
  have : k ≠ j := fun e => by subst e; rw [hb] at hk; cases hk; exact hne rfl
  simp [this]

/-- the open attempt goes on, or ends without a commit -/
theorem SerH.turn (h : SerH evs s cw W m) {n j : Nat} {b : Att} (hj : s.opn n = some j) (hb : s.atts[j]? = some b) {e : Ev} {f : Att → Att} {o' : Nat → Option Nat} (hs : stepH s e evs.length = some ⟨s.atts.modify j f, o', s.ended⟩)
    (hk : (f b).kind ≠ 1) (hok : AttOk (f b) cw W m) (h1 : (f b).beg = b.beg) (h2 : (f b).clock = b.clock) : SerH (evs ++ [e]) ⟨s.atts.modify j f, o', s.ended⟩ cw W m := by
  obtain ⟨b', hb', -, -, hk0, -, hw0, -⟩ := h.openAt hj
  rw [hb] at hb'
  cases hb'
  refine ⟨h.next hs, h.ended, h.clk, fun a ha => ?_, fun a => ?_, h.inc, fun a ha c hc hak hlt => ?_⟩
  · rcases mem_modify hb ha with rfl | ha
    · exact hok
    · exact h.att a ha
  · rw [h.cws]
    constructor
    · rintro ⟨ha, hak, haw⟩
      exact ⟨modify_old hb ha (fun q => by rw [q] at hak; omega), hak, haw⟩
    · rintro ⟨ha, hak, haw⟩
      rcases mem_modify hb ha with rfl | ha
      · exact absurd hak hk
      · exact ⟨ha, hak, haw⟩
  · have ha' : a ∈ s.atts := by
      rcases mem_modify hb ha with rfl | ha
      · exact absurd hak hk
      · exact ha
    rcases mem_modify hb hc with rfl | hc
    · rw [h2]; rw [h1] at hlt; exact h.real a ha' b (List.mem_of_getElem? hb) hak hlt
    · exact h.real a ha' c hc hak hlt

theorem stepH_open {n j i : Nat} {e : Ev} (hn : n < 4) (hth : e.th = n) (hend : s.ended n = false) (hj : s.opn n = some j) :
    (2 ≤ e.k → e.k ≤ 6 → stepH s e i = some ⟨s.atts.modify j (more e), s.opn, s.ended⟩) ∧ (e.k = 7 → stepH s e i = some ⟨s.atts.modify j (committed e i), upd s.opn n none, s.ended⟩) ∧ (e.k = 8 → stepH s e i = some ⟨s.atts.modify j (closed 2 i), upd s.opn n none, s.ended⟩) := by
  have h0 : ¬ (e.th < 0 ∨ 4 ≤ e.th) := by omega
  have h1 : e.th.toNat = n := by omega
  unfold stepH
  rw [if_neg h0, h1, if_neg (by rw [hend]; simp), hj]
  refine ⟨fun q1 q2 => by simp only; rw [if_pos ⟨q1, q2⟩], fun q => by simp only; rw [if_neg (by omega), if_pos q], fun q => by simp only; rw [if_neg (by omega), if_neg (by omega), if_pos q]⟩

/-- one event more of an open attempt -/
theorem SerH.more (h : SerH evs s cw W m) {n j : Nat} {b : Att} (hn : n < 4) (hj : s.opn n = some j) (hb : s.atts[j]? = some b) {e : Ev} (hth : e.th = n) (hk : e.k = 2 ∨ e.k = 3) (ha : 1 ≤ e.a ∧ e.a < m) (hr : e.k = 2 → eff b.done (CP cw b.clock) e.a = e.b) :
    SerH (evs ++ [e]) ⟨s.atts.modify j (Go.Proofs.Ytlphjkgjcfhihaa.more e), s.opn, s.ended⟩ cw W m := by
  obtain ⟨b', hb', -, -, hk0, -, hw0, -⟩ := h.openAt hj
  rw [hb] at hb'
  cases hb'
  have ok := h.att b (List.mem_of_getElem? hb)
  refine h.turn hj hb ((stepH_open hn hth (h.ended n) hj).1 (by omega) (by omega)) (by show b.kind ≠ 1; omega) ⟨ok.clock0, ok.clock1, ?_, fun d hd => ?_, ok.kind, ok.plain, fun q => ?_, fun q => ?_⟩ rfl rfl
  · show okRd (b.done ++ [e]) (CP cw b.clock)
    rw [okRd_app]
    exact ⟨ok.rd, hr, trivial⟩
  · rcases List.mem_append.1 (show d ∈ b.done ++ [e] from hd) with hd | hd
    · exact ok.evs d hd
    · rw [List.mem_singleton.1 hd]; exact ⟨hk, ha⟩
  · have : b.kind = 1 := q
    omega
  · have : b.kind = 1 := q
    omega
/-- the open attempt is given up -/
theorem SerH.abort (h : SerH evs s cw W m) {n j : Nat} (hn : n < 4) (hj : s.opn n = some j) : SerH (evs ++ [⟨n, 8, 0, 0⟩]) ⟨s.atts.modify j (closed 2 evs.length), upd s.opn n none, s.ended⟩ cw W m := by
  obtain ⟨b, hb, -, -, hk0, hp0, hw0, -⟩ := h.openAt hj
  have ok := h.att b (List.mem_of_getElem? hb)
  exact h.turn hj hb ((stepH_open hn rfl (h.ended n) hj).2.2 rfl) (by simp [closed]) ⟨ok.clock0, ok.clock1, ok.rd, ok.evs, .inr (.inr rfl), fun _ => ⟨hp0, hw0⟩, fun q => by simp [closed] at q, fun q => by simp [closed] at q⟩ rfl rfl
/-- an attempt begins -/
theorem SerH.begin (h : SerH evs s cw W m) {n : Nat} (hn : n < 4) (hj : s.opn n = none) : SerH (evs ++ [⟨n, 1, W, 0⟩]) ⟨s.atts ++ [begun ⟨n, 1, W, 0⟩ evs.length], upd s.opn n (some s.atts.length), s.ended⟩ cw W m := by
  have hs : stepH s ⟨n, 1, W, 0⟩ evs.length = some ⟨s.atts ++ [begun ⟨n, 1, W, 0⟩ evs.length], upd s.opn n (some s.atts.length), s.ended⟩ := by
    unfold stepH
    rw [if_neg (by simp only; omega)]
    simp only [Int.toNat_natCast]
    rw [if_neg (by rw [h.ended]; simp), hj]
    simp
  refine ⟨h.next hs, h.ended, h.clk, fun a ha => ?_, fun a => ?_, h.inc, fun a ha c hc hak hlt => ?_⟩
  · rcases List.mem_append.1 (show a ∈ s.atts ++ [begun ⟨n, 1, W, 0⟩ evs.length] from ha) with ha | ha
    · exact h.att a ha
    · rw [List.mem_singleton.1 ha]
      exact ⟨h.clk, Int.le_refl _, trivial, fun e he => by simp [begun] at he, .inl rfl, fun _ => ⟨rfl, rfl⟩, fun q => by simp [begun] at q, fun q => by simp [begun] at q⟩
  · rw [h.cws]
    constructor
    · rintro ⟨ha, q⟩
      exact ⟨List.mem_append_left _ ha, q⟩
    · rintro ⟨ha, hak, haw⟩
      rcases List.mem_append.1 (show a ∈ s.atts ++ [begun ⟨n, 1, W, 0⟩ evs.length] from ha) with ha | ha
      · exact ⟨ha, hak, haw⟩
      · rw [List.mem_singleton.1 ha] at hak; simp [begun] at hak
  · have ha' : a ∈ s.atts := by
      rcases List.mem_append.1 (show a ∈ s.atts ++ [begun ⟨n, 1, W, 0⟩ evs.length] from ha) with ha | ha
      · exact ha
      · rw [List.mem_singleton.1 ha] at hak; simp [begun] at hak
    rcases List.mem_append.1 (show c ∈ s.atts ++ [begun ⟨n, 1, W, 0⟩ evs.length] from hc) with hc | hc
    · exact h.real a ha' c hc hak hlt
    · rw [List.mem_singleton.1 hc]
      exact h.place_le ha' hak
/-- an attempt that has written nothing commits -/
theorem SerH.reader (h : SerH evs s cw W m) {n j : Nat} {b : Att} (hn : n < 4) (hj : s.opn n = some j) (hb : s.atts[j]? = some b) (hw : ∀ e ∈ b.done, e.k ≠ 3) : SerH (evs ++ [⟨n, 7, b.clock, 0⟩]) ⟨s.atts.modify j (committed ⟨n, 7, b.clock, 0⟩ evs.length), upd s.opn n none, s.ended⟩ cw W m := by
  obtain ⟨b', hb', -, -, hk0, hp0, hw0, hb1, hb2⟩ := h.openAt hj
  rw [hb] at hb'
  cases hb'
  have ok := h.att b (List.mem_of_getElem? hb)
  have beg : ∀ c ∈ s.atts, c.beg < evs.length := fun c hc => by
    obtain ⟨k, hk⟩ := List.getElem?_of_mem hc
    exact (h.hok.att k c hk).2.2.2.1
  refine ⟨h.next ((stepH_open hn rfl (h.ended n) hj).2.1 rfl), h.ended, h.clk, fun a ha => ?_, fun a => ?_, h.inc, fun a ha c hc hak hlt => ?_⟩
  · rcases mem_modify hb ha with rfl | ha
    · exact ⟨ok.clock0, ok.clock1, ok.rd, ok.evs, .inr (.inl rfl), fun q => absurd rfl q, fun _ _ => ⟨rfl, hw⟩, fun _ q => by simp [committed] at q⟩
    · exact h.att a ha
  · rw [h.cws]
    constructor
    · rintro ⟨ha, hak, haw⟩
      exact ⟨modify_old hb ha (fun q => by rw [q] at hak; omega), hak, haw⟩
    · rintro ⟨ha, hak, haw⟩
      rcases mem_modify hb ha with rfl | ha
      · simp [committed] at haw
      · exact ⟨ha, hak, haw⟩
  · have hc1 : c.beg < evs.length ∧ ∃ c0 ∈ s.atts, c0.beg = c.beg ∧ c0.clock = c.clock := by
      rcases mem_modify hb hc with rfl | hc
      · exact ⟨hb2, b, List.mem_of_getElem? hb, rfl, rfl⟩
      · exact ⟨beg c hc, c, hc, rfl, rfl⟩
    obtain ⟨hlen, c0, hc0, e1, e2⟩ := hc1
    rcases mem_modify hb ha with rfl | ha
    · have : (evs.length : Int) < c.beg := hlt
      omega
    · rw [← e2]; exact h.real a ha c0 hc0 hak (by omega)
/-- an attempt that has written commits -/
theorem SerH.writer (h : SerH evs s cw W m) {n j : Nat} {b : Att} (hn : n < 4) (hj : s.opn n = some j) (hb : s.atts[j]? = some b) (hr : okRd b.done (CA cw)) :
    SerH (evs ++ [⟨n, 7, W + 1, 1⟩]) ⟨s.atts.modify j (committed ⟨n, 7, W + 1, 1⟩ evs.length), upd s.opn n none, s.ended⟩ (cw ++ [committed ⟨n, 7, W + 1, 1⟩ evs.length b]) (W + 1) m := by
  obtain ⟨b', hb', -, -, hk0, hp0, hw0, hb1, hb2⟩ := h.openAt hj
  rw [hb] at hb'
  cases hb'
  have ok := h.att b (List.mem_of_getElem? hb)
  have beg : ∀ c ∈ s.atts, c.beg < evs.length := fun c hc => by
    obtain ⟨k, hk⟩ := List.getElem?_of_mem hc
    exact (h.hok.att k c hk).2.2.2.1
  have hx : (committed ⟨n, 7, W + 1, 1⟩ evs.length b).place = W + 1 := rfl
  refine ⟨h.next ((stepH_open hn rfl (h.ended n) hj).2.1 rfl), h.ended, by have := h.clk; omega, fun a ha => ?_, fun a => ?_, ?_, fun a ha c hc hak hlt => ?_⟩
  · rcases mem_modify hb ha with rfl | ha
    · refine ⟨ok.clock0, by have := ok.clock1; show b.clock ≤ _; omega, ?_, ok.evs, .inr (.inl rfl), fun q => absurd rfl q, fun _ q => by simp [committed] at q, fun _ _ => ⟨by have := ok.clock1; show b.clock < W + 1; omega, Int.le_refl _, ?_⟩⟩
      · show okRd b.done (CP _ b.clock)
        rw [CP_snoc (by have := ok.clock1; rw [hx]; omega)]
        exact ok.rd
      · show okRd b.done (CP _ (W + 1 - 1))
        rw [CP_snoc (by rw [hx]; omega), show W + 1 - 1 = W from by omega, h.all]
        exact hr
    · exact (h.att a ha).snoc hx
  · rw [List.mem_append, h.cws, List.mem_singleton]
    constructor
    · rintro (⟨ha, hak, haw⟩ | rfl)
      · exact ⟨modify_old hb ha (fun q => by rw [q] at hak; omega), hak, haw⟩
      · exact ⟨modify_new hb, rfl, rfl⟩
    · rintro ⟨ha, hak, haw⟩
      rcases mem_modify hb ha with rfl | ha
      · exact .inr rfl
      · exact .inl ⟨ha, hak, haw⟩
  · rw [List.pairwise_append]
    refine ⟨h.inc, List.pairwise_singleton _ _, fun a ha c hc => ?_⟩
    rw [List.mem_singleton.1 hc, hx]
    have := h.cw_le a ha
    omega
  · have hc1 : c.beg < evs.length ∧ ∃ c0 ∈ s.atts, c0.beg = c.beg ∧ c0.clock = c.clock := by
      rcases mem_modify hb hc with rfl | hc
      · exact ⟨hb2, b, List.mem_of_getElem? hb, rfl, rfl⟩
      · exact ⟨beg c hc, c, hc, rfl, rfl⟩
    obtain ⟨hlen, c0, hc0, e1, e2⟩ := hc1
    rcases mem_modify hb ha with rfl | ha
    · have : (evs.length : Int) < c.beg := hlt
      omega
    · rw [← e2]; exact h.real a ha c0 hc0 hak (by omega)
end

section
/-- a thread that is at it, and its attempt -/
structure Busy (t : Th) (a : Att) : Prop where
  clock : a.clock = t.clock
  log : LogOf a.done t.log
  rdin : RdIn (fun x => t.reads.testBit (stripeN x) = true) a.done
/-- a commit of place p is known by a stripe's lock -/
def Ver (w : TW) (s : Nat) (p : Int) : Prop := (w.locks s % 2 = 0 → p ≤ w.locks s / 2) ∧ ∀ (n : Nat) t, w.ths[n]? = some t → t.held.testBit s = true → (t.phase ≠ 3 → p ≤ t.old s / 2) ∧ (t.phase = 3 → p ≤ t.now)

structure SerT (w : TW) (s : HS) (cw : List Att) (m : Nat) : Prop where
  idle : ∀ (n : Nat) t, w.ths[n]? = some t → t.phase = 0 ∨ t.phase = 3 → s.opn n = none
  busy : ∀ (n : Nat) t, w.ths[n]? = some t → t.phase = 1 ∨ t.phase = 2 → ∃ j a, s.opn n = some j ∧ s.atts[j]? = some a ∧ Busy t a
  last : ∀ (n : Nat) t, w.ths[n]? = some t → t.phase = 3 → (t.log.map Prod.fst).Nodup ∧ ∀ c ∈ t.log, CA cw c.1 = c.2 ∧ t.held.testBit (stripeN c.1) = true
  mem : ∀ x : Nat, x < m → (∀ (n : Nat) t, w.ths[n]? = some t → t.phase = 3 → ∀ c ∈ t.log, c.1 ≠ x) → w.mem.getD x 0 = CA cw x
  ver : ∀ a ∈ cw, ∀ x, Writes a x → Ver w (stripeN x) a.place

/-- all of it: with the attempts of the events -/
def Ser (w : TW) (m : Nat) : Prop := ∃ s cw, SerH w.evs s cw w.clock m ∧ SerT w s cw m

variable {w w' : TW} {s s' : HS} {cw : List Att} {m n : Nat} {t t' : Th}

theorem ths_set {l : List Th} {n : Nat} {t' : Th} {k : Nat} {u : Th} (hu : (l.set n t')[k]? = some u) : k = n ∧ u = t' ∨ k ≠ n ∧ l[k]? = some u := by
  rw [List.getElem?_set] at hu
  split at hu
  · rename_i e
    split at hu
    · cases hu; exact .inl ⟨e.symm, rfl⟩
    · cases hu
  · rename_i e
    exact .inr ⟨fun q => e q.symm, hu⟩
theorem set_self {l : List Th} {n : Nat} {t : Th} (h : l[n]? = some t) : l.set n t = l := by
  refine List.ext_getElem? fun k => ?_
  by_cases e : n = k
  · subst e
    rw [List.getElem?_set_self (List.getElem?_eq_some_iff.1 h).1, h]
  · rw [List.getElem?_set_ne e]

/-- one thread's turn, the commits as they were -/
theorem SerT.turn (h : SerT w s cw m) (hths : w'.ths = w.ths.set n t') (hop : ∀ k, k ≠ n → s'.opn k = s.opn k) (hat : ∀ k j, k ≠ n → s.opn k = some j → s'.atts[j]? = s.atts[j]?)
    (h1 : t'.phase = 0 ∨ t'.phase = 3 → s'.opn n = none) (h2 : t'.phase = 1 ∨ t'.phase = 2 → ∃ j a, s'.opn n = some j ∧ s'.atts[j]? = some a ∧ Busy t' a)
    (h3 : t'.phase = 3 → (t'.log.map Prod.fst).Nodup ∧ ∀ c ∈ t'.log, CA cw c.1 = c.2 ∧ t'.held.testBit (stripeN c.1) = true)
    (h4 : ∀ x : Nat, x < m → (∀ (n : Nat) t, w'.ths[n]? = some t → t.phase = 3 → ∀ c ∈ t.log, c.1 ≠ x) → w'.mem.getD x 0 = CA cw x)
    (h5 : ∀ a ∈ cw, ∀ x, Writes a x → Ver w' (stripeN x) a.place) : SerT w' s' cw m := by
  refine ⟨fun k u hu hp => ?_, fun k u hu hp => ?_, fun k u hu hp => ?_, h4, h5⟩ <;> rw [hths] at hu <;> rcases ths_set hu with ⟨rfl, rfl⟩ | ⟨hk, hu⟩
  · exact h1 hp
  · rw [hop k hk]; exact h.idle k u hu hp
  · exact h2 hp
  · obtain ⟨j, a, q1, q2, q3⟩ := h.busy k u hu hp
    exact ⟨j, a, by rw [hop k hk]; exact q1, by rw [hat k j hk q1]; exact q2, q3⟩
  · exact h3 hp
  · exact h.last k u hu hp
/-- words that did not change -/
theorem SerT.mem_same (h : SerT w s cw m) (ht : w.ths[n]? = some t) (hths : w'.ths = w.ths.set n t') (hm : w'.mem = w.mem) (hp : t.phase = 3 → t.log = []) :
    ∀ x : Nat, x < m → (∀ (n : Nat) t, w'.ths[n]? = some t → t.phase = 3 → ∀ c ∈ t.log, c.1 ≠ x) → w'.mem.getD x 0 = CA cw x := by
  intro x hx hc
  rw [hm]
  refine h.mem x hx fun k u hu hk c hcl => ?_
  by_cases e : k = n
  · subst e
    rw [ht] at hu
    cases hu
    rw [hp hk] at hcl
    cases hcl
  · exact hc k u (by rw [hths, List.getElem?_set_ne (fun q => e q.symm)]; exact hu) hk c hcl
/-- locks that did not change -/
theorem Ver.same {s : Nat} {p : Int} (h : Ver w s p) (ht : w.ths[n]? = some t) (hths : w'.ths = w.ths.set n t') (hl : w'.locks = w.locks) (hh : t'.held.testBit s = true → t.held.testBit s = true ∧ t.phase ≠ 3 ∧ t'.phase ≠ 3 ∧ t'.old = t.old) : Ver w' s p := by
  refine ⟨by rw [hl]; exact h.1, fun k u hu hb => ?_⟩
  rw [hths] at hu
  rcases ths_set hu with ⟨rfl, rfl⟩ | ⟨hk, hu⟩
  · obtain ⟨q1, q2, q3, q4⟩ := hh hb
    exact ⟨fun _ => by rw [q4]; exact (h.2 k t ht q1).1 q2, fun q => absurd q q3⟩
  · exact h.2 k u hu hb
/-- a thread gives its locks back -/
theorem Ver.freed {s : Nat} {p : Int} (h : Ver w s p) (hs : s < 16) (ht : w.ths[n]? = some t) {say : Nat → Int} (hths : w'.ths = w.ths.set n Th.none) (hl : w'.locks = freed t.held say w.locks)
    (hsay : t.held.testBit s = true → p ≤ say s / 2) : Ver w' s p := by
  refine ⟨fun q => ?_, fun k u hu hb => ?_⟩
  · rw [hl] at q ⊢
    unfold Go.Proofs.Ytlphjkgjcfhihaa.freed at q ⊢
    by_cases hb : t.held.testBit s = true
    · rw [if_pos ⟨hs, hb⟩]; exact hsay hb
    · rw [if_neg (fun e => hb e.2)] at q ⊢
      exact h.1 q
  · rw [hths] at hu
    rcases ths_set hu with ⟨rfl, rfl⟩ | ⟨hk, hu⟩
    · simp [Th.none] at hb
    · exact h.2 k u hu hb

theorem bit0 (s : Nat) : (0 : Nat).testBit s = false := by simp
/-- other threads' open attempts are other ones -/
theorem SerH.other {evs : List Ev} {W : Int} (h : SerH evs s cw W m) {n k j i : Nat} (hk : k ≠ n) (hj : s.opn n = some j) (hi : s.opn k = some i) : i ≠ j := by
  obtain ⟨b, hb, e1, -⟩ := h.openAt hj
  obtain ⟨c, hc, e2, -⟩ := h.openAt hi
  rintro rfl
  rw [hb] at hc
  cases hc
  omega
theorem modify_ne {l : List Att} {j k : Nat} {f : Att → Att} (h : k ≠ j) : (l.modify j f)[k]? = l[k]? := by
  rw [modify_at]
  cases l[k]? with
  | none => rfl
  | some a => simp [h]
theorem modify_self {l : List Att} {j : Nat} {f : Att → Att} {b : Att} (h : l[j]? = some b) : (l.modify j f)[j]? = some (f b) := by rw [modify_at, h]; simp
theorem upd_self {α : Type} (f : Nat → α) (i : Nat) (x : α) : upd f i x i = x := by simp [upd_at]
theorem upd_ne {α : Type} (f : Nat → α) {i j : Nat} (x : α) (h : j ≠ i) : upd f i x j = f j := by simp [upd_at, h]

theorem Ser.clock (h : Ser w m) : Ser { w with clock := w.clock + 1 } m := by
  obtain ⟨s, cw, h1, h2⟩ := h
  exact ⟨s, cw, h1.clock, ⟨h2.idle, h2.busy, h2.last, h2.mem, fun a ha x hx => h2.ver a ha x hx⟩⟩

theorem Ser.abort (h : Ser w m) (hn : n < 4) (ht : w.ths[n]? = some t) (hp : t.phase = 1 ∨ t.phase = 2) {t1 : Th} (hh : t1.held = t.held) (ho : t1.old = t.old) : Ser (w.abort n t1) m := by
  obtain ⟨s, cw, h1, h2⟩ := h
  obtain ⟨j, a, q1, q2, q3⟩ := h2.busy n t ht hp
  refine ⟨_, cw, h1.abort hn q1, h2.turn (n := n) (t' := Th.none) rfl (fun k hk => upd_ne _ _ hk) (fun k i hk hi => modify_ne (h1.other hk q1 hi)) (fun _ => upd_self _ _ _) (fun q => by simp [Th.none] at q) (fun q => by simp [Th.none] at q)
    (h2.mem_same ht rfl rfl (fun q => by omega)) (fun b hb x hx => ?_)⟩
  have h3 := h2.ver b hb x hx
  exact h3.freed (stripeN_lt _) ht rfl (by show Go.Proofs.Ytlphjkgjcfhihaa.freed t1.held t1.old w.locks = _; rw [hh]) (fun hb' => by rw [ho]; exact (h3.2 n t ht hb').1 (by omega))

theorem Ser.begin (h : Ser w m) (hlk : LkInv w) (hn : n < 4) (ht : w.ths[n]? = some t) (hp : t.phase = 0) : Ser (w.begin n) m := by
  obtain ⟨s, cw, h1, h2⟩ := h
  have q1 := h2.idle n t ht (.inl hp)
  refine ⟨_, cw, h1.begin hn q1, h2.turn (n := n) (t' := { Th.none with phase := 1, clock := w.clock }) rfl (fun k hk => upd_ne _ _ hk) (fun k i hk hi => ?_) (fun q => by simp at q) (fun _ => ⟨s.atts.length, begun ⟨n, 1, w.clock, 0⟩ w.evs.length, upd_self _ _ _, by simp, ⟨rfl, LogOf.nil, trivial⟩⟩) (fun q => by simp at q)
    (h2.mem_same ht rfl rfl (fun q => by omega)) (fun b hb x hx => (h2.ver b hb x hx).same ht rfl rfl (fun q => by simp [Th.none] at q))⟩
  obtain ⟨c, hc, -⟩ := h1.openAt hi
  exact List.getElem?_append_left (List.getElem?_eq_some_iff.1 hc).1

/-- one event more of the attempt -/
theorem Ser.more (h : SerH w.evs s cw w.clock m) (h2 : SerT w s cw m) (hn : n < 4) (ht : w.ths[n]? = some t) (hp : t.phase = 1) {j : Nat} {a : Att} (q1 : s.opn n = some j) (q2 : s.atts[j]? = some a) {e : Ev} (hth : e.th = n) (hk : e.k = 2 ∨ e.k = 3) (hr : 1 ≤ e.a ∧ e.a < m) (hf : e.k = 2 → eff a.done (CP cw a.clock) e.a = e.b)
    (hp' : t'.phase = 1) (hb : Busy t' (Go.Proofs.Ytlphjkgjcfhihaa.more e a)) (hh : t'.held = t.held) (ho : t'.old = t.old) : Ser { w with ths := w.ths.set n t', evs := w.evs ++ [e] } m := by
  refine ⟨_, cw, h.more hn q1 q2 hth hk hr hf, h2.turn (n := n) (t' := t') rfl (fun k hk => rfl) (fun k i hk hi => modify_ne (h.other hk q1 hi)) (fun q => by omega) (fun _ => ⟨j, _, q1, modify_self q2, hb⟩) (fun q => by omega)
    (h2.mem_same ht rfl rfl (fun q => by omega)) (fun b hb' x hx => (h2.ver b hb' x hx).same ht rfl rfl (fun q => ⟨by rw [← hh]; exact q, by omega, by omega, ho⟩))⟩

theorem stale_no {locks : Nat → Int} {t : Th} {s : Nat} (h : stale locks t s = false) : (if t.held.testBit s = true then t.old s else locks s) % 2 = 0 ∧ (if t.held.testBit s = true then t.old s else locks s) / 2 ≤ t.clock := by
  unfold stale at h
  simp only [Bool.or_eq_false_iff, decide_eq_false_iff_not] at h
  obtain ⟨h1, h2⟩ := h
  generalize (if t.held.testBit s = true then t.old s else locks s) = v at h1 h2
  unfold since at h2
  rw [h1] at h2
  unfold isLocked at h1
  simp at h1 h2
  omega

theorem Ser.read (h : Ser w m) (hlk : LkInv w) (hm : w.mem.length = m) (hn : n < 4) (ht : w.ths[n]? = some t) (hp : t.phase = 1) {x : Int} (hx : 1 ≤ x ∧ x < m) : Ser (w.read n t x) m := by
  have h0 := h
  obtain ⟨s, cw, h1, h2⟩ := h
  obtain ⟨j, a, q1, q2, q3⟩ := h2.busy n t ht (.inl hp)
  unfold TW.read
  cases hpl : t.log[place t.log x]? with
  | some c =>
    obtain ⟨hc, hcx⟩ := place_some hpl
    have key : eff a.done (CP cw a.clock) x = c.2 := by rw [q3.log.eff]; unfold look; rw [hpl]
    have hb : Busy t (Go.Proofs.Ytlphjkgjcfhihaa.more ⟨n, 2, x, c.2⟩ a) := ⟨q3.clock, q3.log.read (e := ⟨n, 2, x, c.2⟩) (by simp), by
      show RdIn _ (a.done ++ [_])
      rw [RdIn_app]
      obtain ⟨e, he, e1, e2⟩ := q3.log.evs c hc
      exact ⟨q3.rdin, fun _ => .inr ⟨e, he, e1, by simp only; rw [e2, hcx]⟩, trivial⟩⟩
    have := Ser.more h1 h2 hn ht hp q1 q2 (e := ⟨n, 2, x, c.2⟩) rfl (.inl rfl) hx (fun _ => key) hp hb rfl rfl
    rw [set_self ht] at this
    exact this
  | none =>
    simp only
    cases hst : stale w.locks t (stripeN x) with
    | true => rw [if_pos rfl]; exact h0.abort hn ht (.inl hp) rfl rfl
    | false =>
      rw [if_neg (by simp)]
      have hh0 := hlk.idle n t ht (.inr hp)
      obtain ⟨v1, v2⟩ := stale_no hst
      rw [hh0, if_neg (by simp)] at v1 v2
      have hsx : stripeN x < 16 := stripeN_lt x
      have e1 : CP cw a.clock x = CA cw x := CP_eq fun b hb hw => by
        have := (h2.ver b hb x hw).1 v1
        rw [q3.clock]; omega
      have e2 : w.mem.getD x.toNat 0 = CA cw x := by
        have hxn : ((x.toNat : Nat) : Int) = x := by omega
        have := h2.mem x.toNat (by omega) (fun k u hu hk c hc hcx => by
          have h3 := ((h2.last k u hu hk).2 c hc).2
          rw [hcx, hxn] at h3
          have := (hlk.held k u _ hu hsx).1 h3
          omega)
        rw [hxn] at this
        exact this
      refine Ser.more h1 h2 hn ht hp q1 q2 (e := ⟨n, 2, x, w.mem.getD x.toNat 0⟩) (t' := { t with reads := t.reads ||| 1 <<< stripeN x }) rfl (.inl rfl) hx (fun _ => ?_) hp ⟨q3.clock, q3.log.read (e := ⟨n, 2, x, w.mem.getD x.toNat 0⟩) (by simp), ?_⟩ rfl rfl
      · rw [q3.log.eff, look_none (place_none hpl), e1, e2]
      · show RdIn _ (a.done ++ [_])
        rw [RdIn_app]
        refine ⟨RdIn_mono (P := fun y => t.reads.testBit (stripeN y) = true) _ (fun y hy => by simp only [testBit_set, hy, Bool.true_or]) q3.rdin, fun _ => .inl (by simp [testBit_set]), trivial⟩

theorem Ser.write (h : Ser w m) (hn : n < 4) (ht : w.ths[n]? = some t) (hp : t.phase = 1) {x v : Int} (hx : 1 ≤ x ∧ x < m) : Ser (w.write n t x v) m := by
  have h0 := h
  obtain ⟨s, cw, h1, h2⟩ := h
  obtain ⟨j, a, q1, q2, q3⟩ := h2.busy n t ht (.inl hp)
  have hrd : RdIn (fun y => t.reads.testBit (stripeN y) = true) (a.done ++ [⟨n, 3, x, v⟩]) := by
    rw [RdIn_app]
    exact ⟨q3.rdin, fun q => by simp at q, trivial⟩
  unfold TW.write
  by_cases hpl : place t.log x < t.log.length
  · rw [if_pos hpl]
    exact Ser.more h1 h2 hn ht hp q1 q2 (e := ⟨n, 3, x, v⟩) (t' := { t with log := t.log.set (place t.log x) (x, v) }) rfl (.inr rfl) hx (fun q => by simp at q) hp ⟨q3.clock, q3.log.set (e := ⟨n, 3, x, v⟩) rfl hpl, hrd⟩ rfl rfl
  · rw [if_neg hpl]
    by_cases hl : t.log.length < 64
    · rw [if_pos hl]
      exact Ser.more h1 h2 hn ht hp q1 q2 (e := ⟨n, 3, x, v⟩) (t' := { t with log := t.log ++ [(x, v)] }) rfl (.inr rfl) hx (fun q => by simp at q) hp ⟨q3.clock, q3.log.more (e := ⟨n, 3, x, v⟩) rfl hpl, hrd⟩ rfl rfl
    · rw [if_neg hl]; exact h0

theorem needs_fold (l : List (Int × Int)) (k : Nat) : ∀ m : Nat, (l.foldl (fun m c => m ||| 1 <<< stripeN c.1) m).testBit k = true ↔ m.testBit k = true ∨ ∃ c ∈ l, stripeN c.1 = k := by
  induction l with
  | nil => intro m; simp
  | cons c l ih =>
    intro m
    rw [List.foldl_cons, ih, testBit_set]
    simp only [Bool.or_eq_true, decide_eq_true_eq, List.mem_cons, exists_eq_or_imp, or_assoc]
    exact or_congr_right (or_congr_left eq_comm)
theorem needs_bit {l : List (Int × Int)} {c : Int × Int} (h : c ∈ l) : (needs l).testBit (stripeN c.1) = true := (needs_fold l _ 0).2 (.inr ⟨c, h, rfl⟩)
theorem wanted_no {t : Th} (h : wanted t = none) {k : Nat} (hk : k < 16) (hn : (needs t.log).testBit k = true) : t.held.testBit k = true := by
  unfold wanted at h
  rw [List.find?_eq_none] at h
  have := h k (by simpa using hk)
  simpa [hn] using this

theorem Ser.lock (h : Ser w m) (hlk : LkInv w) (hn : n < 4) (ht : w.ths[n]? = some t) (hp : t.phase = 1 ∨ t.phase = 2) {t1 : Th} (e1 : t1.clock = t.clock) (e2 : t1.reads = t.reads) (e3 : t1.log = t.log) (e4 : t1.held = t.held) (e5 : t1.old = t.old) (e6 : t1.phase = 2) : Ser (w.lock n t1) m := by
  have h0 := h
  obtain ⟨s, cw, h1, h2⟩ := h
  obtain ⟨j, a, q1, q2, q3⟩ := h2.busy n t ht hp
  unfold TW.lock
  cases hw : wanted t1 with
  | some k =>
    simp only
    have hk16 := wanted_lt hw
    cases hlo : isLocked (w.locks k) with
    | true => rw [if_pos rfl]; exact h0.abort hn ht hp e4 e5
    | false =>
      rw [if_neg (by simp)]
      have hev : w.locks k % 2 = 0 := by unfold isLocked at hlo; simp at hlo; omega
      refine ⟨s, cw, h1, h2.turn (n := n) (t' := { t1 with held := t1.held ||| 1 <<< k, old := upd t1.old k (w.locks k) }) rfl (fun _ _ => rfl) (fun _ _ _ _ => rfl) (fun q => by simp only [e6] at q; omega) (fun _ => ⟨j, a, q1, q2, ⟨by rw [q3.clock]; exact e1.symm, by simp only [e3]; exact q3.log, by simp only [e2]; exact q3.rdin⟩⟩) (fun q => by simp only [e6] at q; omega)
        (h2.mem_same ht rfl rfl (fun q => by omega)) (fun b hb x hx => ?_)⟩
      have h3 := h2.ver b hb x hx
      refine ⟨fun q => ?_, fun i u hu hbit => ?_⟩
      · simp only [upd_at] at q ⊢
        by_cases e : stripeN x = k
        · rw [if_pos e] at q; omega
        · rw [if_neg e] at q ⊢; exact h3.1 q
      · rcases ths_set hu with ⟨rfl, rfl⟩ | ⟨hi, hu⟩
        · refine ⟨fun _ => ?_, fun q => by simp only [e6] at q; omega⟩
          simp only [upd_at]
          by_cases e : stripeN x = k
          · rw [if_pos e, ← e]; exact h3.1 (by rw [e]; exact hev)
          · rw [if_neg e, e5]
            simp only [testBit_set, e, decide_false, Bool.or_false, e4] at hbit
            exact (h3.2 i t ht hbit).1 (by omega)
        · exact h3.2 i u hu hbit
  | none =>
    simp only
    cases hst : (List.range 16).any (fun s => t1.reads.testBit s && stale w.locks t1 s) with
    | true => rw [if_pos rfl]; exact h0.clock.abort (t := t) hn ht hp e4 e5
    | false =>
      rw [if_neg (by simp)]
      have hval : ∀ b ∈ cw, ∀ x, t1.reads.testBit (stripeN x) = true → Writes b x → b.place ≤ t.clock := fun b hb x hx hwr => by
        rw [List.any_eq_false] at hst
        have h4 := hst (stripeN x) (by simpa using stripeN_lt x)
        rw [hx, Bool.true_and] at h4
        obtain ⟨v1, v2⟩ := stale_no (by simpa using h4)
        have h3 := h2.ver b hb x hwr
        rw [e4, e5, e1] at v2
        rw [e4, e5] at v1
        by_cases hb' : t.held.testBit (stripeN x) = true
        · rw [if_pos hb'] at v1 v2
          have := (h3.2 n t ht hb').1 (by omega)
          omega
        · rw [if_neg hb'] at v1 v2
          have := h3.1 v1
          omega
      have hrd : okRd a.done (CA cw) := okRd_agree a.done (h1.att a (List.mem_of_getElem? q2)).rd q3.rdin (fun x hx => CP_eq fun b hb hwr => by rw [q3.clock]; exact hval b hb x (by rw [e2]; exact hx) hwr)
      have hheld : ∀ c ∈ t.log, t.held.testBit (stripeN c.1) = true := fun c hc => by
        rw [← e4]
        exact wanted_no hw (stripeN_lt _) (by rw [e3]; exact needs_bit hc)
      have hnew : ∀ x, CA (cw ++ [committed ⟨n, 7, w.clock + 1, 1⟩ w.evs.length a]) x = look t.log (CA cw) x := fun x => by
        rw [CA_snoc]; exact q3.log.eff (CA cw) x
      have hlocks : ∀ c ∈ t.log, w.locks (stripeN c.1) = 2 * n + 1 := fun c hc => (hlk.held n t _ ht (stripeN_lt _)).1 (hheld c hc)
      have hwx : ∀ x, Writes (committed ⟨n, 7, w.clock + 1, 1⟩ w.evs.length a) x → ∃ c ∈ t.log, c.1 = x := fun x ⟨e, he, r1, r2⟩ => by
        obtain ⟨c, hc, r3⟩ := q3.log.keys e he r1
        exact ⟨c, hc, r3.trans r2⟩
      refine ⟨_, _, h1.writer hn q1 q2 hrd, ⟨fun k u hu hk => ?_, fun k u hu hk => ?_, fun k u hu hk => ?_, fun x hx hc => ?_, fun b hb x hx => ?_⟩⟩
      · rcases ths_set hu with ⟨rfl, rfl⟩ | ⟨hi, hu⟩
        · exact upd_self _ _ _
        · show upd s.opn n none k = none
          rw [upd_ne _ _ hi]; exact h2.idle k u hu hk
      · rcases ths_set hu with ⟨rfl, rfl⟩ | ⟨hi, hu⟩
        · simp at hk
        · obtain ⟨i, b, r1, r2, r3⟩ := h2.busy k u hu hk
          refine ⟨i, b, by show upd s.opn n none k = some i; rw [upd_ne _ _ hi]; exact r1, ?_, r3⟩
          show (s.atts.modify j _)[i]? = some b
          rw [modify_ne (h1.other hi q1 r1)]; exact r2
      · rcases ths_set hu with ⟨rfl, rfl⟩ | ⟨hi, hu⟩
        · refine ⟨by simp only [e3]; exact q3.log.once, fun c hc => ?_⟩
          simp only [e3] at hc
          exact ⟨by rw [hnew]; exact look_mem (once_of q3.log.once) hc _, by simp only [e4]; exact hheld c hc⟩
        · obtain ⟨r1, r2⟩ := h2.last k u hu hk
          refine ⟨r1, fun c hc => ⟨?_, (r2 c hc).2⟩⟩
          rw [hnew, look_none (fun d hd q => ?_)]
          · exact (r2 c hc).1
          · have z1 := hlocks d hd
            have z2 := (hlk.held k u _ hu (stripeN_lt _)).1 (r2 c hc).2
            rw [q] at z1
            omega
      · have hno : ∀ c ∈ t.log, c.1 ≠ x := fun c hcl => hc n _ (by
          show (w.ths.set n _)[n]? = _
          rw [List.getElem?_set_self (List.getElem?_eq_some_iff.1 ht).1]) rfl c (by simp only [e3]; exact hcl)
        rw [hnew, look_none hno]
        refine h2.mem x hx fun k u hu hk c hcl => ?_
        by_cases e : k = n
        · subst e
          rw [ht] at hu
          cases hu
          omega
        · exact hc k u (by show (w.ths.set n _)[k]? = _; rw [List.getElem?_set_ne (fun q => e q.symm)]; exact hu) hk c hcl
      · rcases List.mem_append.1 hb with hb0 | hb
        · have h3 := h2.ver b hb0 x hx
          refine ⟨h3.1, fun k u hu hbit => ?_⟩
          rcases ths_set hu with ⟨rfl, rfl⟩ | ⟨hi, hu⟩
          · exact ⟨fun q => absurd rfl q, fun _ => by have := h1.cw_le b hb0; simp only; omega⟩
          · exact h3.2 k u hu hbit
        · rw [List.mem_singleton.1 hb] at hx ⊢
          obtain ⟨c, hc, hcx⟩ := hwx x hx
          have hl := hlocks c hc
          rw [hcx] at hl
          refine ⟨fun q => by simp only at q; omega, fun k u hu hbit => ?_⟩
          rcases ths_set hu with ⟨rfl, rfl⟩ | ⟨hi, hu⟩
          · exact ⟨fun q => absurd rfl q, fun _ => Int.le_refl _⟩
          · have := (hlk.held k u _ hu (stripeN_lt _)).1 hbit
            omega

theorem Ser.back (h : Ser w m) (hlk : LkInv w) (hm : w.mem.length = m) (ht : w.ths[n]? = some t) (hp : t.phase = 3) (hlog : ∀ c ∈ t.log, 1 ≤ c.1 ∧ c.1 < m) : Ser (w.back n t) m := by
  obtain ⟨s, cw, h1, h2⟩ := h
  have q1 := h2.idle n t ht (.inr hp)
  obtain ⟨r1, r2⟩ := h2.last n t ht hp
  unfold TW.back
  cases hl : t.log with
  | cons c l =>
    simp only
    rw [hl] at r1 r2 hlog
    simp only [List.map_cons, List.nodup_cons] at r1
    have hc := hlog c List.mem_cons_self
    refine ⟨s, cw, h1, h2.turn (n := n) (t' := { t with log := l }) rfl (fun _ _ => rfl) (fun _ _ _ _ => rfl) (fun _ => q1) (fun q => by simp only at q; omega) (fun _ => ⟨r1.2, fun d hd => r2 d (List.mem_cons_of_mem _ hd)⟩) (fun x hx hno => ?_) (fun b hb x hx => ?_)⟩
    · simp only
      by_cases e : c.1.toNat = x
      · subst e
        have hcn : ((c.1.toNat : Nat) : Int) = c.1 := by omega
        rw [List.getD_eq_getElem?_getD, List.getElem?_set_self (by omega), hcn, (r2 c List.mem_cons_self).1]
        rfl
      · rw [List.getD_eq_getElem?_getD, List.getElem?_set_ne e, ← List.getD_eq_getElem?_getD]
        refine h2.mem x hx fun k u hu hk d hd => ?_
        by_cases ek : k = n
        · subst ek
          rw [ht] at hu
          cases hu
          rw [hl] at hd
          rcases List.mem_cons.1 hd with rfl | hd
          · omega
          · exact hno k { t with log := l } (by show (w.ths.set k _)[k]? = _; rw [List.getElem?_set_self (List.getElem?_eq_some_iff.1 ht).1]) hp d hd
        · exact hno k u (by show (w.ths.set n _)[k]? = _; rw [List.getElem?_set_ne (fun q => ek q.symm)]; exact hu) hk d hd
    · have h3 := h2.ver b hb x hx
      refine ⟨h3.1, fun k u hu hbit => ?_⟩
      rcases ths_set hu with ⟨rfl, rfl⟩ | ⟨hi, hu⟩
      · exact h3.2 k t ht hbit
      · exact h3.2 k u hu hbit
  | nil =>
    simp only
    refine ⟨s, cw, h1, h2.turn (n := n) (t' := Th.none) rfl (fun _ _ => rfl) (fun _ _ _ _ => rfl) (fun _ => q1) (fun q => by simp [Th.none] at q) (fun q => by simp [Th.none] at q) (h2.mem_same ht rfl rfl (fun _ => hl)) (fun b hb x hx => ?_)⟩
    have h3 := h2.ver b hb x hx
    exact h3.freed (stripeN_lt _) ht rfl rfl (fun hbit => by
      have := (h3.2 n t ht hbit).2 hp
      omega)

theorem Ser.reader (h : Ser w m) (hlk : LkInv w) (hn : n < 4) (ht : w.ths[n]? = some t) (hp : t.phase = 1) (hl : t.log = []) : Ser { w with ths := w.ths.set n Th.none, evs := w.evs ++ [⟨n, 7, t.clock, 0⟩] } m := by
  obtain ⟨s, cw, h1, h2⟩ := h
  obtain ⟨j, a, q1, q2, q3⟩ := h2.busy n t ht (.inl hp)
  have hno : ∀ e ∈ a.done, e.k ≠ 3 := fun e he hk => by
    obtain ⟨c, hc, -⟩ := q3.log.keys e he hk
    rw [hl] at hc
    cases hc
  have h3 := h1.reader hn q1 q2 hno
  rw [q3.clock] at h3
  refine ⟨_, cw, h3, h2.turn (n := n) (t' := Th.none) rfl (fun k hk => upd_ne _ _ hk) (fun k i hk hi => modify_ne (h1.other hk q1 hi)) (fun _ => upd_self _ _ _) (fun q => by simp [Th.none] at q) (fun q => by simp [Th.none] at q)
    (h2.mem_same ht rfl rfl (fun q => by omega)) (fun b hb x hx => (h2.ver b hb x hx).same ht rfl rfl (fun q => by simp [Th.none] at q))⟩

theorem Ser.step {k i : Nat} (h : Ser w m) (hlk : LkInv w) (hok : TOk w m k i) (hn : n < 4) (ht : w.ths[n]? = some t) : Ser (w.step n t) m := by
  unfold TW.step
  split
  · rename_i hp
    split
    · rename_i hl; exact h.reader hlk hn ht hp hl
    · exact h.lock hlk hn ht (.inl hp) rfl rfl rfl rfl rfl rfl
  · split
    · rename_i hp; exact h.lock hlk hn ht (.inr hp) rfl rfl rfl rfl rfl hp
    · split
      · rename_i hp; exact h.back hlk hok.mem ht hp (hok.th n t ht).log
      · exact h

theorem Ser.doT {k i : Nat} (h : Ser w m) (hlk : LkInv w) (hok : TOk w m k i) (hn : n < 4) (ht : w.ths[n]? = some t) (o : Tx) : Ser (w.doT n t o) m := by
  unfold TW.doT
  split
  · rename_i hc; exact h.begin hlk hn ht hc.2
  split
  · rename_i hc
    have := there_iff.1 hc.2.2
    rw [hok.mem] at this
    exact h.read hlk hok.mem hn ht hc.2.1 this
  split
  · rename_i hc
    have := there_iff.1 hc.2.2
    rw [hok.mem] at this
    exact h.write hn ht hc.2.1 this
  split
  · exact h.step hlk hok hn ht
  split
  · rename_i hc; exact h.abort hn ht hc.2 rfl rfl
  · exact h

theorem Ser.do_ {k i : Nat} (h : Ser w m) (hlk : LkInv w) (hok : TOk w m k i) (hk : k ≤ 4) (o : Tx) : Ser (w.do_ o) m := by
  unfold TW.do_
  split
  · exact h
  · split
    · exact h
    · rename_i t ht
      have := (List.getElem?_eq_some_iff.1 ht).1
      rw [hok.ths] at this
      exact h.doT hlk hok (by omega) ht o
theorem Ser.fold {k : Nat} (hk : k ≤ 4) (l : List Tx) : ∀ {w : TW} {i : Nat}, Ser w m → LkInv w → TOk w m k i → Ser (l.foldl TW.do_ w) m := by
  induction l with
  | nil => intro w i h _ _; exact h
  | cons o l ih =>
    intro w i h h1 h2
    exact ih (h.do_ h1 h2 hk o) (h1.do_ h2 o) (h2.do_ o)
theorem Ser.init (words threads : Nat) : Ser (TW.init words threads) (words + 1) := by
  have key : ∀ (n : Nat) t, (TW.init words threads).ths[n]? = some t → t = Th.none := fun n t h => by
    simp only [TW.init, List.getElem?_replicate] at h
    split at h
    · cases h; rfl
    · cases h
  refine ⟨HS.init, [], SerH.init _, ⟨fun n t h _ => rfl, fun n t h hp => by rw [key n t h] at hp; simp [Th.none] at hp, fun n t h hp => by rw [key n t h] at hp; simp [Th.none] at hp, fun x hx _ => ?_, fun a ha => by cases ha⟩⟩
  simp only [TW.init, CA, List.foldl_nil]
  rw [List.getD_eq_getElem?_getD, List.getElem?_replicate, if_pos hx]
  rfl
theorem Ser.run {words threads : Nat} (h : threads ≤ 4) (l : List Tx) : Ser (runT words threads l) (words + 1) := Ser.fold h l (Ser.init words threads) (LkInv.init words threads) (TOk.init words threads)
end

section
/-- does a stand ahead of b? -/
def ahead (a b : Att) : Bool := if a.place ≠ b.place then decide (a.place < b.place) else if a.writer ≠ b.writer then a.writer else decide (a.fin < b.fin)
theorem ahead_asym {a b : Att} (h : ahead a b = true) : ahead b a = false := by
  unfold ahead at *
  by_cases h1 : a.place = b.place
  · rw [if_neg (by simpa using h1)] at h
    rw [if_neg (by simpa using h1.symm)]
    by_cases h2 : a.writer = b.writer
    · rw [if_neg (by simpa using h2)] at h
      rw [if_neg (by simpa using h2.symm)]
      simp at h ⊢; omega
    · rw [if_pos (by simpa using h2)] at h
      rw [if_pos (fun e => h2 e.symm)]
      cases hb : b.writer with
      | false => rfl
      | true => rw [h, hb] at h2; exact absurd rfl h2
  · rw [if_pos h1] at h
    rw [if_pos (fun e => h1 e.symm)]
    simp at h ⊢; omega
theorem ahead_trans {a b c : Att} (h1 : ahead a b = false) (h2 : ahead b c = false) : ahead a c = false := by
  unfold ahead at *
  by_cases e1 : a.place = b.place <;> by_cases e2 : b.place = c.place
  · have e3 : a.place = c.place := e1.trans e2
    rw [if_neg (by simpa using e1)] at h1
    rw [if_neg (by simpa using e2)] at h2
    rw [if_neg (by simpa using e3)]
    cases ha : a.writer <;> cases hb : b.writer <;> cases hc : c.writer <;> rw [ha, hb] at h1 <;> rw [hb, hc] at h2 <;> simp_all <;> omega
  · rw [if_pos e2] at h2
    rw [if_pos (by rw [e1]; exact e2)]
    simp at h2 ⊢; omega
  · rw [if_pos e1] at h1
    rw [if_pos (by rw [← e2]; exact e1)]
    simp at h1 ⊢; omega
  · rw [if_pos e1] at h1
    rw [if_pos e2] at h2
    simp at h1 h2
    rw [if_pos (by omega)]
    simp; omega

/-- the place for one more, from so many of them on downwards -/
def posTo (a : Att) (sa : List Att) : Nat → Nat
  | 0 => 0
  | k + 1 => match sa[k]? with
    | some b => if ahead a b = true then posTo a sa k else k + 1
    | none => k + 1
theorem posTo_le (a : Att) (sa : List Att) : ∀ k, posTo a sa k ≤ k := by
  intro k
  induction k with
  | zero => exact Nat.le_refl _
  | succ k ih =>
    unfold posTo
    split
    · split
      · omega
      · omega
    · omega
theorem posTo_at (a : Att) (sa : List Att) : ∀ k, k ≤ sa.length → (∀ (j : Nat) b, posTo a sa k ≤ j → j < k → sa[j]? = some b → ahead a b = true) ∧ (∀ b, 0 < posTo a sa k → sa[posTo a sa k - 1]? = some b → ahead a b = false) := by
  intro k
  induction k with
  | zero => intro _; exact ⟨fun j b h1 h2 => by omega, fun b h => by simp [posTo] at h⟩
  | succ k ih =>
    intro hk
    obtain ⟨i1, i2⟩ := ih (by omega)
    unfold posTo
    cases hs : sa[k]? with
    | none => rw [List.getElem?_eq_none_iff] at hs; omega
    | some c =>
      simp only
      by_cases hc : ahead a c = true
      · rw [if_pos hc]
        refine ⟨fun j b h1 h2 hb => ?_, i2⟩
        by_cases e : j = k
        · subst e; rw [hs] at hb; cases hb; exact hc
        · exact i1 j b h1 (by omega) hb
      · rw [if_neg hc]
        refine ⟨fun j b h1 h2 => by omega, fun b _ hb => ?_⟩
        rw [Nat.add_sub_cancel, hs] at hb
        cases hb
        simpa using hc

def OkOrder (sa : List Att) : Prop := sa.Pairwise (fun a b => ahead b a = false)
def insA (a : Att) (sa : List Att) : List Att := sa.take (posTo a sa sa.length) ++ a :: sa.drop (posTo a sa sa.length)
theorem insA_ok {a : Att} {sa : List Att} (h : OkOrder sa) : OkOrder (insA a sa) := by
  obtain ⟨h1, h2⟩ := posTo_at a sa sa.length (Nat.le_refl _)
  have hp := posTo_le a sa sa.length
  unfold insA
  generalize posTo a sa sa.length = p at h1 h2 hp ⊢
  have hall : OkOrder (sa.take p ++ sa.drop p) := by rw [List.take_append_drop]; exact h
  unfold OkOrder at hall ⊢
  rw [List.pairwise_append] at hall ⊢
  obtain ⟨q1, q2, q3⟩ := hall
  have hlow : ∀ b ∈ sa.take p, ahead a b = false := fun b hb => by
    obtain ⟨k, hk⟩ := List.getElem?_of_mem hb
    have hkl := (List.getElem?_eq_some_iff.1 hk).1
    rw [List.length_take] at hkl
    rw [List.getElem?_take_of_lt (by omega)] at hk
    obtain ⟨c, hc⟩ : ∃ c, sa[p - 1]? = some c := ⟨_, List.getElem?_eq_getElem (by omega)⟩
    have h3 := h2 c (by omega) hc
    by_cases e : k = p - 1
    · rw [← e, hk] at hc; cases hc; exact h3
    · have h4 : ahead c b = false := by
        have := List.pairwise_iff_getElem.1 h k (p - 1) (by omega) (by omega) (by omega)
        rw [List.getElem?_eq_getElem (by omega)] at hk hc
        cases hk; cases hc
        exact this
      exact ahead_trans h3 h4
  have hhigh : ∀ b ∈ sa.drop p, ahead b a = false := fun b hb => by
    obtain ⟨k, hk⟩ := List.getElem?_of_mem hb
    rw [List.getElem?_drop] at hk
    exact ahead_asym (h1 (p + k) b (by omega) (List.getElem?_eq_some_iff.1 hk).1 hk)
  refine ⟨q1, List.pairwise_cons.2 ⟨hhigh, q2⟩, fun b hb c hc => ?_⟩
  rcases List.mem_cons.1 hc with rfl | hc
  · exact hlow b hb
  · exact q3 b hb c hc
theorem insA_mem {a b : Att} {sa : List Att} : b ∈ insA a sa ↔ b = a ∨ b ∈ sa := by
  unfold insA
  rw [List.mem_append, List.mem_cons]
  constructor
  · rintro (h | rfl | h)
    · exact .inr (List.mem_of_mem_take h)
    · exact .inl rfl
    · exact .inr (List.mem_of_mem_drop h)
  · rintro (rfl | h)
    · exact .inr (.inl rfl)
    · rw [← List.take_append_drop (posTo a sa sa.length) sa, List.mem_append] at h
      exact h.imp id .inr
theorem insA_nodup {a : Att} {sa : List Att} (h : sa.Nodup) (ha : a ∉ sa) : (insA a sa).Nodup := by
  have h0 : (sa.take (posTo a sa sa.length) ++ sa.drop (posTo a sa sa.length)).Nodup := by rw [List.take_append_drop]; exact h
  unfold insA
  rw [List.nodup_append] at h0 ⊢
  obtain ⟨q1, q2, q3⟩ := h0
  refine ⟨q1, List.nodup_cons.2 ⟨fun e => ha (List.mem_of_mem_drop e), q2⟩, fun b hb c hc => ?_⟩
  rcases List.mem_cons.1 hc with rfl | hc
  · exact fun e => ha (by rw [← e]; exact List.mem_of_mem_take hb)
  · exact q3 b hb c hc

/-- those that committed, in the document's order -/
def stepA (sa : List Att) (a : Att) : List Att := if a.kind = 1 then insA a sa else sa
def sortA (l : List Att) : List Att := l.foldl stepA []
theorem sortA_snoc (l : List Att) (a : Att) : sortA (l ++ [a]) = stepA (sortA l) a := by unfold sortA; rw [List.foldl_append]; rfl
theorem sortA_ok (l : List Att) : OkOrder (sortA l) := by
  have : ∀ (l sa : List Att), OkOrder sa → OkOrder (l.foldl stepA sa) := fun l => by
    induction l with
    | nil => intro sa h; exact h
    | cons a l ih =>
      intro sa h
      refine ih _ ?_
      unfold stepA
      split
      · exact insA_ok h
      · exact h
  exact this l [] List.Pairwise.nil
theorem sortA_mem (l : List Att) (b : Att) : b ∈ sortA l ↔ b ∈ l ∧ b.kind = 1 := by
  have : ∀ (l sa : List Att), b ∈ l.foldl stepA sa ↔ b ∈ sa ∨ b ∈ l ∧ b.kind = 1 := fun l => by
    induction l with
    | nil => intro sa; simp
    | cons a l ih =>
      intro sa
      rw [List.foldl_cons, ih]
      unfold stepA
      by_cases h : a.kind = 1
      · rw [if_pos h, insA_mem, List.mem_cons]
        constructor
        · rintro ((rfl | q) | ⟨q1, q2⟩)
          · exact .inr ⟨.inl rfl, h⟩
          · exact .inl q
          · exact .inr ⟨.inr q1, q2⟩
        · rintro (q | ⟨rfl | q1, q2⟩)
          · exact .inl (.inr q)
          · exact .inl (.inl rfl)
          · exact .inr ⟨q1, q2⟩
      · rw [if_neg h, List.mem_cons]
        constructor
        · rintro (q | ⟨q1, q2⟩)
          · exact .inl q
          · exact .inr ⟨.inr q1, q2⟩
        · rintro (q | ⟨rfl | q1, q2⟩)
          · exact .inl q
          · exact absurd q2 h
          · exact .inr ⟨q1, q2⟩
  rw [sortA, this]; simp
theorem sortA_nodup {l : List Att} (h : l.Nodup) : (sortA l).Nodup := by
  have : ∀ (l sa : List Att), sa.Nodup → l.Nodup → (∀ a ∈ l, a ∉ sa) → (l.foldl stepA sa).Nodup := fun l => by
    induction l with
    | nil => intro sa h _ _; exact h
    | cons a l ih =>
      intro sa h h1 h2
      rw [List.nodup_cons] at h1
      refine ih _ ?_ h1.2 (fun b hb => ?_)
      · unfold stepA
        split
        · exact insA_nodup h (h2 a List.mem_cons_self)
        · exact h
      · unfold stepA
        split
        · rw [insA_mem]
          rintro (rfl | q)
          · exact h1.1 hb
          · exact h2 b (List.mem_cons_of_mem _ hb) q
        · exact h2 b (List.mem_cons_of_mem _ hb)
  exact this l [] List.nodup_nil h (by simp)

theorem eq_of_inc (l : List Att) : ∀ (k : List Att), l.Pairwise (fun a b => a.place < b.place) → k.Pairwise (fun a b => a.place < b.place) → (∀ a, a ∈ l ↔ a ∈ k) → l = k := by
  induction l with
  | nil =>
    intro k _ _ h
    cases k with
    | nil => rfl
    | cons b k => exact absurd ((h b).2 List.mem_cons_self) (by simp)
  | cons a l ih =>
    intro k hl hk h
    cases k with
    | nil => exact absurd ((h a).1 List.mem_cons_self) (by simp)
    | cons b k =>
      rw [List.pairwise_cons] at hl hk
      have hab : a = b := by
        rcases List.mem_cons.1 ((h a).1 List.mem_cons_self) with e | e
        · exact e
        · rcases List.mem_cons.1 ((h b).2 List.mem_cons_self) with q | q
          · exact q.symm
          · have h1 := hk.1 a e
            have h2 := hl.1 b q
            omega
      subst hab
      congr 1
      refine ih k hl.2 hk.2 fun c => ⟨fun hc => ?_, fun hc => ?_⟩
      · rcases List.mem_cons.1 ((h c).1 (List.mem_cons_of_mem _ hc)) with e | e
        · subst e; have := hl.1 c hc; omega
        · exact e
      · rcases List.mem_cons.1 ((h c).2 (List.mem_cons_of_mem _ hc)) with e | e
        · subst e; have := hk.1 c hc; omega
        · exact e

variable {evs : List Ev} {s : HS} {cw : List Att} {W : Int} {m : Nat}

theorem SerH.nodup (h : SerH evs s cw W m) : s.atts.Nodup := by
  rw [List.nodup_iff_pairwise_ne] 
  rw [List.pairwise_iff_getElem]
  intro i j hi hj hij e
  have := (h.hok.order i j _ _ hij (List.getElem?_eq_getElem hi) (List.getElem?_eq_getElem hj)).1
  rw [e] at this
  omega
theorem cw_place {cw : List Att} (h : cw.Pairwise (fun a b => a.place < b.place)) {a b : Att} (ha : a ∈ cw) (hb : b ∈ cw) (hp : a.place = b.place) : a = b := by
  induction cw with
  | nil => cases ha
  | cons c l ih =>
    rw [List.pairwise_cons] at h
    rcases List.mem_cons.1 ha with rfl | ha1
    · rcases List.mem_cons.1 hb with rfl | hb1
      · rfl
      · have := h.1 b hb1; omega
    · rcases List.mem_cons.1 hb with rfl | hb1
      · have := h.1 a ha1; omega
      · exact ih h.2 ha1 hb1

theorem nodup_at {l : List Att} (h : l.Nodup) {i j : Nat} {a : Att} (hi : l[i]? = some a) (hj : l[j]? = some a) : i = j := by
  have h1 := List.pairwise_iff_getElem.1 h
  obtain ⟨li, hi⟩ := List.getElem?_eq_some_iff.1 hi
  obtain ⟨lj, hj⟩ := List.getElem?_eq_some_iff.1 hj
  rcases Nat.lt_trichotomy i j with e | e | e
  · exact absurd (hi.trans hj.symm) (h1 i j li lj e)
  · exact e
  · exact absurd (hj.trans hi.symm) (h1 j i lj li e)

/-- writers among part of the order, as a part of the commits -/
theorem SerH.part (h : SerH evs s cw W m) {k : List Att} {p : Att → Bool} (hk : List.Sublist k (sortA s.atts)) (hp : ∀ a, a ∈ cw → (a ∈ k ↔ p a = true)) : k.filter (fun a => a.writer) = cw.filter p := by
  refine eq_of_inc _ _ ?_ (h.inc.sublist List.filter_sublist) fun a => ?_
  · have h1 : (k.filter (fun a => a.writer)).Pairwise (fun a b => ahead b a = false) := ((sortA_ok s.atts).sublist hk).sublist List.filter_sublist
    have h2 : (k.filter (fun a => a.writer)).Nodup := ((sortA_nodup h.nodup).sublist hk).sublist List.filter_sublist
    have hmem : ∀ a ∈ k.filter (fun a => a.writer), a ∈ cw := fun a ha => by
      rw [List.mem_filter] at ha
      obtain ⟨q1, q2⟩ := (sortA_mem s.atts a).1 (hk.subset ha.1)
      exact (h.cws a).2 ⟨q1, q2, ha.2⟩
    rw [List.pairwise_iff_getElem] at h1 ⊢
    intro i j hi hj hij
    have g1 := h1 i j hi hj hij
    have m1 := hmem _ (List.getElem_mem hi)
    have m2 := hmem _ (List.getElem_mem hj)
    have hne : (k.filter (fun a => a.writer))[i] ≠ (k.filter (fun a => a.writer))[j] := fun e => by
      have := nodup_at h2 (List.getElem?_eq_getElem hi) (by rw [e]; exact List.getElem?_eq_getElem hj)
      omega
    have hpl : (k.filter (fun a => a.writer))[i].place ≠ (k.filter (fun a => a.writer))[j].place := fun e => hne (cw_place h.inc m1 m2 e)
    unfold ahead at g1
    rw [if_pos (fun e => hpl e.symm)] at g1
    simp at g1
    omega
  · rw [List.mem_filter, List.mem_filter]
    constructor
    · rintro ⟨q1, q2⟩
      have q3 := (sortA_mem s.atts a).1 (hk.subset q1)
      have q4 := (h.cws a).2 ⟨q3.1, q3.2, q2⟩
      exact ⟨q4, (hp a q4).1 q1⟩
    · rintro ⟨q1, q2⟩
      exact ⟨(hp a q1).2 q2, ((h.cws a).1 q1).2.2⟩

/-- those that have not written do nothing to words -/
theorem done_readers (k : List Att) : ∀ f, (∀ a ∈ k, a.writer = false → ∀ e ∈ a.done, e.k ≠ 3) → k.foldl done1 f = (k.filter (fun a => a.writer)).foldl done1 f := by
  induction k with
  | nil => intro f _; rfl
  | cons a l ih =>
    intro f h
    have hl : ∀ b ∈ l, b.writer = false → ∀ e ∈ b.done, e.k ≠ 3 := fun b hb => h b (List.mem_cons_of_mem _ hb)
    cases hw : a.writer with
    | true => rw [List.filter_cons_of_pos hw, List.foldl_cons, List.foldl_cons, ih _ hl]
    | false =>
      rw [List.filter_cons_of_neg (by simp [hw]), List.foldl_cons]
      have : done1 f a = f := by
        funext x
        exact eff_stay a.done f (fun e he hk => absurd hk (h a List.mem_cons_self hw e he))
      rw [this]
      exact ih f hl
theorem SerH.quiet (h : SerH evs s cw W m) {a : Att} (ha : a ∈ sortA s.atts) (hw : a.writer = false) : ∀ e ∈ a.done, e.k ≠ 3 := by
  obtain ⟨q1, q2⟩ := (sortA_mem s.atts a).1 ha
  exact ((h.att a q1).reader q2 hw).2

/-- what an attempt finds behind those that stand ahead of it -/
theorem SerH.serial (h : SerH evs s cw W m) {i : Nat} {x : Att} (hx : (sortA s.atts)[i]? = some x) : okRd x.done (((sortA s.atts).take i).foldl done1 (fun _ => 0)) := by
  have hxm := List.mem_of_getElem? hx
  obtain ⟨q1, q2⟩ := (sortA_mem s.atts x).1 hxm
  have ok := h.att x q1
  have hi := (List.getElem?_eq_some_iff.1 hx).1
  have hord : ∀ (j : Nat) b, (sortA s.atts)[j]? = some b → (j < i → ahead x b = false) ∧ (i < j → ahead b x = false) := fun j b hb => by
    have hj := (List.getElem?_eq_some_iff.1 hb).1
    have h1 := List.pairwise_iff_getElem.1 (sortA_ok s.atts)
    rw [List.getElem?_eq_getElem hi] at hx
    rw [List.getElem?_eq_getElem hj] at hb
    cases hx; cases hb
    exact ⟨fun e => h1 j i hj hi e, fun e => h1 i j hi hj e⟩
  rw [done_readers _ _ (fun a ha => h.quiet (List.mem_of_mem_take ha))]
  have key : ∀ c : Int, (∀ a ∈ cw, ahead x a = false → a ≠ x → a.place ≤ c) → (∀ a ∈ cw, ahead a x = false → ¬ a.place ≤ c) → ((sortA s.atts).take i).filter (fun a => a.writer) = cw.filter (fun a => decide (a.place ≤ c)) := fun c hc1 hc2 => by
    refine h.part (List.take_sublist _ _) fun a ha => ?_
    rw [decide_eq_true_eq]
    obtain ⟨r1, r2, r3⟩ := (h.cws a).1 ha
    constructor
    · intro hm
      obtain ⟨j, hj⟩ := List.getElem?_of_mem hm
      have hjl := (List.getElem?_eq_some_iff.1 hj).1
      rw [List.length_take] at hjl
      rw [List.getElem?_take_of_lt (by omega)] at hj
      refine hc1 a ha ((hord j a hj).1 (by omega)) fun e => ?_
      rw [e] at hj
      have := nodup_at (sortA_nodup h.nodup) hj hx
      omega
    · intro hle
      obtain ⟨j, hj⟩ := List.getElem?_of_mem ((sortA_mem s.atts a).2 ⟨r1, r2⟩)
      rcases Nat.lt_or_ge j i with e | e
      · exact List.mem_of_getElem? (i := j) (by rw [List.getElem?_take_of_lt e]; exact hj)
      · refine absurd hle (hc2 a ha ?_)
        rcases Nat.lt_or_ge i j with e2 | e2
        · exact (hord j a hj).2 e2
        · have : j = i := by omega
          subst this
          rw [hx] at hj
          cases hj
          cases hb : ahead x x with
          | false => rfl
          | true => have := ahead_asym hb; rw [hb] at this; cases this
  cases hw : x.writer with
  | true =>
    have h3 := (ok.writer q2 hw).2.2
    have hxc := (h.cws x).2 ⟨q1, q2, hw⟩
    rw [key (x.place - 1) (fun a ha h1 h2 => ?_) (fun a ha h1 => ?_)]
    · exact h3
    · have hne : a.place ≠ x.place := fun e => h2 (cw_place h.inc ha hxc e)
      unfold ahead at h1
      rw [if_pos (fun e => hne e.symm)] at h1
      simp at h1; omega
    · unfold ahead at h1
      by_cases e : a.place = x.place
      · omega
      · rw [if_pos e] at h1
        simp at h1; omega
  | false =>
    have h3 := ok.rd
    have h4 := (ok.reader q2 hw).1
    rw [key x.place (fun a ha h1 h2 => ?_) (fun a ha h1 => ?_)]
    · rw [h4]; exact h3
    · unfold ahead at h1
      by_cases e : x.place = a.place
      · omega
      · rw [if_pos e] at h1
        simp at h1; omega
    · have hwa := ((h.cws a).1 ha).2.2
      unfold ahead at h1
      by_cases e : a.place = x.place
      · rw [if_neg (by simpa using e), if_pos (by rw [hwa, hw]; simp), hwa] at h1
        cases h1
      · rw [if_pos e] at h1
        simp at h1; omega

/-- what stands behind an attempt in the order has not ended ahead of its beginning -/
theorem SerH.later (h : SerH evs s cw W m) {i k : Nat} {x y : Att} (hx : (sortA s.atts)[i]? = some x) (hy : (sortA s.atts)[k]? = some y) (hik : i < k) : ¬ y.fin < x.beg := by
  intro hlt
  obtain ⟨q1, q2⟩ := (sortA_mem s.atts x).1 (List.mem_of_getElem? hx)
  obtain ⟨r1, r2⟩ := (sortA_mem s.atts y).1 (List.mem_of_getElem? hy)
  have hi := (List.getElem?_eq_some_iff.1 hx).1
  have hk := (List.getElem?_eq_some_iff.1 hy).1
  have hord : ahead y x = false := by
    have := List.pairwise_iff_getElem.1 (sortA_ok s.atts) i k hi hk hik
    rw [List.getElem?_eq_getElem hi] at hx
    rw [List.getElem?_eq_getElem hk] at hy
    cases hx; cases hy
    exact this
  have h1 := h.real y r1 x q1 r2 hlt
  have hxf : x.beg < x.fin := by
    obtain ⟨j, hj⟩ := List.getElem?_of_mem q1
    obtain ⟨-, -, -, -, -, a6⟩ := h.hok.att j x hj
    rcases a6 with ⟨z1, z2, -⟩ | ⟨z1, -⟩
    · omega
    · exact z1
  unfold ahead at hord
  by_cases e : y.place = x.place
  · rw [if_neg (by simpa using e)] at hord
    cases hw : x.writer with
    | true => have := ((h.att x q1).writer q2 hw).1; omega
    | false =>
      by_cases e2 : y.writer = x.writer
      · rw [if_neg (by simpa using e2)] at hord
        simp at hord; omega
      · rw [if_pos e2] at hord
        rw [hord, hw] at e2
        exact e2 rfl
  · rw [if_pos e] at hord
    simp at hord
    have hple : x.clock ≤ x.place := by
      cases hw : x.writer with
      | true => have := ((h.att x q1).writer q2 hw).1; omega
      | false => rw [((h.att x q1).reader q2 hw).1]; exact Int.le_refl _
    omega
/-- no two writers have one place -/
theorem SerH.places (h : SerH evs s cw W m) {i : Nat} {x y : Att} (hx : (sortA s.atts)[i]? = some x) (hy : (sortA s.atts)[i + 1]? = some y) (h1 : x.writer = true) (h2 : y.writer = true) : x.place ≠ y.place := by
  intro e
  obtain ⟨q1, q2⟩ := (sortA_mem s.atts x).1 (List.mem_of_getElem? hx)
  obtain ⟨r1, r2⟩ := (sortA_mem s.atts y).1 (List.mem_of_getElem? hy)
  have := cw_place h.inc ((h.cws x).2 ⟨q1, q2, h1⟩) ((h.cws y).2 ⟨r1, r2, h2⟩) e
  subst this
  have := nodup_at (sortA_nodup h.nodup) hx hy
  omega
theorem SerH.placed (h : SerH evs s cw W m) {x : Att} (hx : x ∈ sortA s.atts) : (x.writer = true → x.clock < x.place) ∧ (x.writer = false → x.place = x.clock) := by
  obtain ⟨q1, q2⟩ := (sortA_mem s.atts x).1 hx
  exact ⟨fun e => ((h.att x q1).writer q2 e).1, fun e => ((h.att x q1).reader q2 e).1⟩
/-- all that committed, in the order -/
theorem SerH.final (h : SerH evs s cw W m) : (sortA s.atts).foldl done1 (fun _ => 0) = CA cw := by
  rw [done_readers _ _ (fun a ha => h.quiet ha), h.part (p := fun _ => true) (List.Sublist.refl _) (fun a ha => by
    have := (h.cws a).1 ha
    simp [sortA_mem, this.1, this.2.1])]
  rw [List.filter_eq_self.2 (fun a _ => rfl)]
  rfl
/-- what an attempt has seen: all those whose place is at most its clock (others that have not written may stand there too) -/
theorem SerH.snap (h : SerH evs s cw W m) {x : Att} (hx : x ∈ s.atts) {k : List Att} (hk : List.Sublist k (sortA s.atts)) (hp : ∀ a ∈ cw, a ∈ k ↔ a.place ≤ x.clock) : okRd x.done (k.foldl done1 (fun _ => 0)) := by
  rw [done_readers _ _ (fun a ha => h.quiet (hk.subset ha)), h.part (p := fun a => decide (a.place ≤ x.clock)) hk (fun a ha => by rw [hp a ha, decide_eq_true_eq])]
  exact (h.att x hx).rd
/-- no writer stands at most at its own clock -/
theorem SerH.self (h : SerH evs s cw W m) {x : Att} (hx : x ∈ cw) : ¬ x.place ≤ x.clock := by
  have h1 := (h.cws x).1 hx
  have := ((h.att x h1.1).writer h1.2.1 h1.2.2).1
  omega
end

section
/-! ### to the end -/
theorem doT_other (w : TW) (n : Nat) (t : Th) (o : Tx) {j : Nat} (hj : j ≠ n) : (w.doT n t o).ths[j]? = w.ths[j]? := by
  have hs : ∀ (l : List Th) (x : Th), (l.set n x)[j]? = l[j]? := fun l x => List.getElem?_set_ne (fun e => hj e.symm)
  have hab : ∀ (w : TW) (t : Th), (w.abort n t).ths[j]? = w.ths[j]? := fun w t => hs _ _
  have hlk : ∀ t, (w.lock n t).ths[j]? = w.ths[j]? := fun t => by
    unfold TW.lock
    split
    · split
      · exact hab _ _
      · exact hs _ _
    · split
      · exact hab _ _
      · exact hs _ _
  unfold TW.doT
  split
  · exact hs _ _
  split
  · unfold TW.read
    split
    · rfl
    · split
      · exact hab _ _
      · exact hs _ _
  split
  · unfold TW.write
    split
    · exact hs _ _
    · split
      · exact hs _ _
      · rfl
  split
  · unfold TW.step
    split
    · split
      · exact hs _ _
      · exact hlk _
    · split
      · exact hlk _
      · split
        · unfold TW.back
          split
          · exact hs _ _
          · exact hs _ _
        · rfl
  split
  · exact hab _ _
  · rfl
theorem do_other (w : TW) (n : Nat) (k a v : Int) {j : Nat} (hj : j ≠ n) : (w.do_ ⟨n, k, a, v⟩).ths[j]? = w.ths[j]? := by
  unfold TW.do_
  rw [if_neg (by simp only; omega)]
  simp only [Int.toNat_natCast]
  split
  · rfl
  · exact doT_other w n _ _ hj

/-- a thread is idle, or has fewer than k words left to write back -/
def Left (w : TW) (n k : Nat) : Prop := ∀ t, w.ths[n]? = some t → t.phase = 0 ∨ t.phase = 3 ∧ t.log.length < k
theorem Left.step {w : TW} {n k : Nat} (h : Left w n (k + 1)) : Left (w.do_ ⟨n, 4, 0, 0⟩) n k := by
  intro t ht
  unfold TW.do_ at ht
  rw [if_neg (by simp only; omega)] at ht
  simp only [Int.toNat_natCast] at ht
  cases hw : w.ths[n]? with
  | none => rw [hw] at ht; simp only at ht; rw [hw] at ht; cases ht
  | some u =>
    have hu := (List.getElem?_eq_some_iff.1 hw).1
    rw [hw] at ht
    simp only at ht
    have hd : w.doT n u ⟨n, 4, 0, 0⟩ = w.step n u := by
      unfold TW.doT
      simp
    rw [hd] at ht
    rcases h u hw with hp | ⟨hp, hl⟩
    · have : w.step n u = w := by
        unfold TW.step
        rw [if_neg (by omega), if_neg (by omega), if_neg (by omega)]
      rw [this, hw] at ht
      cases ht
      exact .inl hp
    · have : w.step n u = w.back n u := by
        unfold TW.step
        rw [if_neg (by omega), if_neg (by omega), if_pos hp]
      rw [this] at ht
      unfold TW.back at ht
      cases hlog : u.log with
      | nil =>
        rw [hlog] at ht
        simp only at ht
        rw [List.getElem?_set_self hu] at ht
        cases ht
        exact .inl rfl
      | cons c l =>
        rw [hlog] at ht hl
        simp only at ht
        rw [List.getElem?_set_self hu] at ht
        cases ht
        simp only [List.length_cons] at hl
        exact .inr ⟨hp, by simp only; omega⟩
theorem Left.steps {n : Nat} : ∀ (k : Nat) {w : TW}, Left w n k → Left ((List.replicate k (⟨n, 4, 0, 0⟩ : Tx)).foldl TW.do_ w) n 0 := by
  intro k
  induction k with
  | zero => intro w h; exact h
  | succ k ih => intro w h; exact ih h.step
theorem Left.start {w : TW} {m k i n : Nat} (h : TOk w m k i) : Left (w.do_ ⟨n, 5, 0, 0⟩) n 65 := by
  intro t ht
  unfold TW.do_ at ht
  rw [if_neg (by simp only; omega)] at ht
  simp only [Int.toNat_natCast] at ht
  cases hw : w.ths[n]? with
  | none => rw [hw] at ht; simp only at ht; rw [hw] at ht; cases ht
  | some u =>
    have hu := (List.getElem?_eq_some_iff.1 hw).1
    have ok := h.th n u hw
    rw [hw] at ht
    simp only at ht
    unfold TW.doT at ht
    rw [if_neg (by simp), if_neg (by simp), if_neg (by simp), if_neg (by simp)] at ht
    by_cases hp : u.phase = 1 ∨ u.phase = 2
    · rw [if_pos ⟨rfl, hp⟩] at ht
      unfold TW.abort at ht
      simp only at ht
      rw [List.getElem?_set_self hu] at ht
      cases ht
      exact .inl rfl
    · rw [if_neg (fun e => hp e.2), hw] at ht
      cases ht
      rcases ok.ph with e | e | e | e
      · exact .inl e
      · exact absurd (.inl e) hp
      · exact absurd (.inr e) hp
      · exact .inr ⟨e, by have := ok.len; omega⟩
/-- what is done to bring one thread to its end; all threads (r steps each) -/
def endOf (r n : Nat) : List Tx := (⟨n, 5, 0, 0⟩ : Tx) :: List.replicate r ⟨n, 4, 0, 0⟩
def ends (r k : Nat) : List Tx := (List.range k).flatMap (endOf r)
theorem ends_succ (r k : Nat) : ends r (k + 1) = ends r k ++ endOf r k := by unfold ends; rw [List.range_succ, List.flatMap_append]; simp
theorem fold_other (n : Nat) (l : List Tx) : ∀ (w : TW) {j : Nat}, j ≠ n → (∀ o ∈ l, o.th = n) → (l.foldl TW.do_ w).ths[j]? = w.ths[j]? := by
  induction l with
  | nil => intro w j _ _; rfl
  | cons o l ih =>
    intro w j hj h
    rw [List.foldl_cons, ih _ hj (fun p hp => h p (List.mem_cons_of_mem _ hp))]
    obtain ⟨th, k, a, v⟩ := o
    have := h _ List.mem_cons_self
    simp only at this
    subst this
    exact do_other w n k a v hj
theorem endOf_th {r n : Nat} : ∀ o ∈ endOf r n, o.th = n := fun o ho => by
  unfold endOf at ho
  rcases List.mem_cons.1 ho with rfl | ho
  · rfl
  · rw [(List.mem_replicate.1 ho).2]
theorem ends_idle {m k r : Nat} (hr : 65 ≤ r) (n : Nat) : ∀ {w : TW} {i : Nat}, TOk w m k i → ∀ (j : Nat) t, j < n → ((ends r n).foldl TW.do_ w).ths[j]? = some t → t.phase = 0 := by
  induction n with
  | zero => intro w i _ j t h; omega
  | succ n ih =>
    intro w i h j t hj ht
    rw [ends_succ, List.foldl_append] at ht
    by_cases e : j = n
    · subst e
      have h1 := h.fold (ends r j)
      have h0 : Left (((ends r j).foldl TW.do_ w).do_ ⟨j, 5, 0, 0⟩) j r := fun u hu => (Left.start (n := j) h1 u hu).imp id (fun q => ⟨q.1, by omega⟩)
      unfold endOf at ht
      rw [List.foldl_cons] at ht
      rcases Left.steps r h0 t ht with q | q
      · exact q
      · omega
    · rw [fold_other n _ _ e endOf_th] at ht
      exact ih h j t (by omega) ht
theorem ends_len (r k : Nat) : (ends r k).length = (r + 1) * k := by
  induction k with
  | zero => rfl
  | succ k ih => rw [ends_succ, List.length_append, ih, Nat.mul_succ]; simp [endOf]

variable {s : HS} {cw : List Att}
/-- behind that, words are what the commits have left behind -/
theorem Ser.done {w : TW} {m : Nat} (h : SerT w s cw m) (hidle : ∀ (n : Nat) t, w.ths[n]? = some t → t.phase = 0) : ∀ x : Nat, x < m → w.mem.getD x 0 = CA cw x :=
  fun x hx => h.mem x hx (fun n t ht hp => by have := hidle n t ht; omega)

/-! ### the document's heap: a log of all that was done -/
theorem eff_flat (l : List Att) : ∀ f, eff (l.flatMap Att.done) f = l.foldl done1 f := by
  induction l with
  | nil => intro f; rfl
  | cons a l ih => intro f; rw [List.flatMap_cons, eff_app, List.foldl_cons, ih]; rfl
theorem eff_filter (l : List Ev) : ∀ f, eff (l.filter (fun e => decide (e.k ≠ 2 ∧ e.k ≠ 4))) f = eff l f := by
  induction l with
  | nil => intro f; rfl
  | cons e l ih =>
    intro f
    by_cases h : e.k ≠ 2 ∧ e.k ≠ 4
    · rw [List.filter_cons_of_pos (by simpa using h)]; exact ih _
    · rw [List.filter_cons_of_neg (by simpa using h), ih, eff, wr1_ne (by omega)]

/-! ### may they be? -/
theorem SerH.beg_ge {evs : List Ev} {W : Int} {m : Nat} (h : SerH evs s cw W m) : ∀ (j : Nat) a, s.atts[j]? = some a → (j : Int) ≤ a.beg := by
  intro j
  induction j with
  | zero => intro a ha; exact (h.hok.att 0 a ha).2.2.1
  | succ j ih =>
    intro a ha
    have hl := (List.getElem?_eq_some_iff.1 ha).1
    have h1 := ih _ (List.getElem?_eq_getElem (show j < s.atts.length by omega))
    have := (h.hok.order j (j + 1) _ _ (by omega) (List.getElem?_eq_getElem (show j < s.atts.length by omega)) ha).1
    omega
theorem SerH.few {evs : List Ev} {W : Int} {m : Nat} (h : SerH evs s cw W m) : s.atts.length ≤ evs.length := by
  rcases Nat.eq_zero_or_pos s.atts.length with e | e
  · omega
  · have hl : s.atts.length - 1 < s.atts.length := by omega
    have h1 := h.beg_ge _ _ (List.getElem?_eq_getElem hl)
    have h2 := (h.hok.att _ _ (List.getElem?_eq_getElem hl)).2.2.2.1
    omega
end

end Go.Proofs.Ytlphjkgjcfhihaa

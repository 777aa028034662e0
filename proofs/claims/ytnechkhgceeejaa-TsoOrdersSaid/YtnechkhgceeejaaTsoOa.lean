/- TsoOrders, plain: stores wait in their order and come to memory in it; a load finds the youngest. -/
import Derived.Test.YtnechkhgceeejaaTsoNa
import Derived.Test.YtnechkhgceeejaaTsoLaw
namespace Go.Proofs.Ytnechkhgceeejaa
open Go.RowKit
set_option linter.unusedVariables false
set_option linter.unusedSimpArgs false

def ordPair (c : Int × Int) : List OpD := [oSet 1 c.2, oStore 0 1 c.1]
def ordCode (cs : List (Int × Int)) (ask : Int) : List OpD := cs.flatMap ordPair ++ [oLoad 2 0 ask]
theorem ordPairs_len (cs : List (Int × Int)) : (cs.flatMap ordPair).length = 2 * cs.length := by
  induction cs with
  | nil => rfl
  | cons c cs ih => simp only [List.flatMap_cons, List.length_append, ih, ordPair, List.length_cons, List.length_nil]; omega
theorem ordCode_len (cs : List (Int × Int)) (ask : Int) : (ordCode cs ask).length = 2 * cs.length + 1 := by
  unfold ordCode
  rw [List.length_append, ordPairs_len]
  rfl
theorem ordPairs_at (r : List OpD) : ∀ (cs : List (Int × Int)) (q : Nat) c, cs[q]? = some c → (cs.flatMap ordPair ++ r)[2 * q]? = some (oSet 1 c.2) ∧ (cs.flatMap ordPair ++ r)[2 * q + 1]? = some (oStore 0 1 c.1)
  | [], q, c, h => by simp at h
  | d :: cs, 0, c, h => by
    simp only [List.getElem?_cons_zero, Option.some.injEq] at h
    subst h
    exact ⟨rfl, rfl⟩
  | d :: cs, q + 1, c, h => by
    have := ordPairs_at r cs q c (by simpa using h)
    rw [show 2 * (q + 1) = 2 * q + 1 + 1 from by omega]
    exact this
theorem ordCode_last (cs : List (Int × Int)) (ask : Int) : (ordCode cs ask)[2 * cs.length]? = some (oLoad 2 0 ask) := by
  unfold ordCode
  rw [← ordPairs_len, List.getElem?_append_right (Nat.le_refl _), Nat.sub_self]
  rfl

/-- so many steps are made -/
structure OrdI (cs : List (Int × Int)) (ask : Int) (i : Nat) (m : MM) (t : MT) : Prop where
  ths : m.ths = [t]
  code : t.code = ordCode cs ask
  at_ : t.at_ = i
  wait : t.wait = cs.take (i / 2)
  fin : t.fin = 0
  r0 : t.reg 0 = 0
  r1 : i % 2 = 1 → ∀ c, cs[i / 2]? = some c → t.reg 1 = c.2
  mem : m.mem = List.replicate 8 0

theorem ord_new (cs : List (Int × Int)) (ask : Int) : ∃ t, OrdI cs ask 0 (newM 8 [ordCode cs ask] []) t :=
  ⟨_, rfl, rfl, rfl, rfl, rfl, rfl, fun h => by omega, rfl⟩

theorem ord_step {cs : List (Int × Int)} {ask : Int} {i : Nat} {m : MM} {t : MT} (h : OrdI cs ask i m t) (hi : i < 2 * cs.length) (hn : cs.length ≤ 64) (hc : ∀ c ∈ cs, 0 ≤ c.1 ∧ c.1 < 8) :
    (m.step 0).1 = true ∧ ∃ t', OrdI cs ask (i + 1) (m.step 0).2 t' := by
  obtain ⟨c, hq⟩ := some_at (l := cs) (k := i / 2) (by omega)
  have hcode := ordPairs_at [oLoad 2 0 ask] cs (i / 2) c hq
  have hthr : m.thr 0 = some t := by simp [MM.thr, h.ths]
  have hwait := h.wait
  have hc' := hc c (List.mem_of_getElem? hq)
  unfold MM.step
  rw [hthr]
  simp only [h.fin, ne_eq, not_true_eq_false, if_false]
  unfold MM.go
  rw [h.at_, if_neg (by omega), h.code]
  have hi2 : ((i : Int)).toNat = i := by omega
  rw [hi2]
  by_cases he : i % 2 = 0
  · have hci : (ordCode cs ask)[i]? = some (oSet 1 c.2) := by
      have := hcode.1
      rwa [show 2 * (i / 2) = i from by omega] at this
    rw [hci]
    have hact : m.act (0 : Int).toNat t (oSet 1 c.2) 0 = m.put 0 (t.goes 1 c.2) := rfl
    refine ⟨rfl, t.goes 1 c.2, ?_⟩
    show OrdI cs ask (i + 1) (m.act (0 : Int).toNat t (oSet 1 c.2) 0) (t.goes 1 c.2)
    rw [hact]
    refine ⟨by simp [MM.put, h.ths], h.code, by simp [MT.goes, h.at_], ?_, h.fin, by simp [MT.goes, upd, h.r0], fun _ d hd => ?_, h.mem⟩
    · show t.wait = _
      rw [h.wait, show (i + 1) / 2 = i / 2 from by omega]
    · rw [show (i + 1) / 2 = i / 2 from by omega, hq] at hd
      cases hd
      simp [MT.goes, upd]
  · have hci : (ordCode cs ask)[i]? = some (oStore 0 1 c.1) := by
      have := hcode.2
      rwa [show 2 * (i / 2) + 1 = i from by omega] at this
    rw [hci]
    have h1 := h.r1 (by omega) c hq
    have hword : t.word (oStore 0 1 c.1) = some c.1 := by
      show some (w64 (t.reg 0 + c.1)) = some c.1
      rw [h.r0, Int.zero_add, w64_in (by omega)]
    have hhas : m.has c.1 = true := by simp [MM.has, h.mem]; omega
    have hw : t.waits (oStore 0 1 c.1) = false := by
      show decide (64 ≤ t.wait.length) = false
      rw [h.wait, List.length_take]
      simp
      omega
    have hact : m.act (0 : Int).toNat t (oStore 0 1 c.1) c.1 = m.put 0 { t.next with wait := t.wait ++ [(c.1, t.reg 1)] } := rfl
    simp only [hword, hhas, hw, if_true]
    refine ⟨rfl, { t.next with wait := t.wait ++ [(c.1, t.reg 1)] }, ?_⟩
    show OrdI cs ask (i + 1) (m.act (0 : Int).toNat t (oStore 0 1 c.1) c.1) _
    rw [hact]
    refine ⟨by simp [MM.put, h.ths], h.code, by simp [MT.next, h.at_], ?_, h.fin, h.r0, fun ho => by omega, h.mem⟩
    show t.wait ++ [(c.1, t.reg 1)] = _
    rw [h.wait, h1, show (i + 1) / 2 = i / 2 + 1 from by omega, take_snoc hq]

/-- so many stores have come to memory -/
structure OrdF (cs : List (Int × Int)) (ask : Int) (d : Nat) (m : MM) (t : MT) : Prop where
  ths : m.ths = [t]
  code : t.code = ordCode cs ask
  at_ : t.at_ = 2 * cs.length
  wait : t.wait = cs.drop d
  fin : t.fin = 0
  r0 : t.reg 0 = 0
  mem : m.mem = fillS (cs.take d) (List.replicate 8 0)

theorem ord_full {cs : List (Int × Int)} {ask : Int} {m : MM} {t : MT} (h : OrdI cs ask (2 * cs.length) m t) : OrdF cs ask 0 m t :=
  ⟨h.ths, h.code, by rw [h.at_]; simp, by rw [h.wait, show 2 * cs.length / 2 = cs.length from by omega]; simp, h.fin, h.r0, by rw [h.mem]; rfl⟩
theorem fillS_snoc (cs : List (Int × Int)) (c : Int × Int) (l : List Int) : fillS (cs ++ [c]) l = (fillS cs l).set c.1.toNat c.2 := by simp [fillS]
theorem ord_flush {cs : List (Int × Int)} {ask : Int} {d : Nat} {m : MM} {t : MT} (h : OrdF cs ask d m t) (hd : d < cs.length) : (m.flush 0).1 = true ∧ ∃ t', OrdF cs ask (d + 1) (m.flush 0).2 t' := by
  obtain ⟨c, hq⟩ := some_at (l := cs) (k := d) hd
  have hthr : m.thr 0 = some t := by simp [MM.thr, h.ths]
  have hw : t.wait = c :: cs.drop (d + 1) := by
    rw [h.wait, List.drop_eq_getElem_cons hd]
    rw [List.getElem?_eq_getElem hd] at hq
    cases hq
    rfl
  unfold MM.flush
  rw [hthr]
  simp only [hw]
  refine ⟨trivial, { t with wait := cs.drop (d + 1) }, by simp [MM.put, h.ths], h.code, h.at_, rfl, h.fin, h.r0, ?_⟩
  show m.mem.set c.1.toNat c.2 = _
  rw [h.mem, take_snoc hq, fillS_snoc]
/-- the load -/
theorem ord_load {cs : List (Int × Int)} {ask : Int} {d : Nat} {m : MM} {t : MT} (h : OrdF cs ask d m t) (ha : 0 ≤ ask ∧ ask < 8) :
    (m.step 0).1 = true ∧ ∃ t', (m.step 0).2.ths = [t'] ∧ t'.wait = cs.drop d ∧ t'.reg 2 = (findS (cs.drop d) ask).getD ((fillS (cs.take d) (List.replicate 8 0)).getD ask.toNat 0) := by
  have hthr : m.thr 0 = some t := by simp [MM.thr, h.ths]
  unfold MM.step
  rw [hthr]
  simp only [h.fin, ne_eq, not_true_eq_false, if_false]
  unfold MM.go
  have hi2 : (2 * (cs.length : Int)).toNat = 2 * cs.length := by omega
  rw [h.at_, if_neg (by omega), h.code, hi2, ordCode_last]
  have hword : t.word (oLoad 2 0 ask) = some ask := by
    show some (w64 (t.reg 0 + ask)) = some ask
    rw [h.r0, Int.zero_add, w64_in (by omega)]
  have hlen : ∀ (cs : List (Int × Int)) (l : List Int), (fillS cs l).length = l.length := fun cs => by
    induction cs with
    | nil => intro l; rfl
    | cons c cs ih => intro l; show (fillS cs (l.set _ _)).length = _; rw [ih]; simp
  have hhas : m.has ask = true := by simp [MM.has, h.mem, hlen]; omega
  have hw : t.waits (oLoad 2 0 ask) = false := rfl
  have hact : m.act (0 : Int).toNat t (oLoad 2 0 ask) ask = m.put 0 (t.goes 2 (m.found t ask)) := rfl
  simp only [hword, hhas, hw, if_true]
  refine ⟨rfl, t.goes 2 (m.found t ask), ?_, h.wait, ?_⟩
  · show (m.act (0 : Int).toNat t (oLoad 2 0 ask) ask).ths = _
    rw [hact]
    simp [MM.put, h.ths]
  · show upd t.reg (2 : Int).toNat (m.found t ask) 2 = _
    simp [upd, MM.found, MM.at, h.wait, h.mem]

theorem findS_snoc (q : List (Int × Int)) (c : Int × Int) (a : Int) : findS (q ++ [c]) a = if c.1 = a then some c.2 else findS q a := by
  by_cases h : c.1 = a
  · simp [findS, h]
  · simp [findS, h]
theorem findS_nil (a : Int) : findS [] a = none := rfl
/-- the youngest one among those from d to j -/
def foundS (cs : List (Int × Int)) (d j : Nat) (ask x : Int) : Int := (findS ((cs.take j).drop d) ask).getD x
theorem foundS_start (cs : List (Int × Int)) (d : Nat) (ask x : Int) : foundS cs d d ask x = x := by
  have : (cs.take d).drop d = [] := List.drop_eq_nil_of_le (by simp; omega)
  simp [foundS, this, findS_nil]
theorem foundS_next {cs : List (Int × Int)} {d j : Nat} {c : Int × Int} (hd : d ≤ j) (hj : cs[j]? = some c) (ask x : Int) : foundS cs d (j + 1) ask x = if c.1 = ask then c.2 else foundS cs d j ask x := by
  have hl := (List.getElem?_eq_some_iff.1 hj).1
  have : (cs.take (j + 1)).drop d = (cs.take j).drop d ++ [c] := by
    rw [take_snoc hj, List.drop_append_of_le_length (by simp; omega)]
  unfold foundS
  rw [this, findS_snoc]
  split <;> rfl
theorem foundS_all (cs : List (Int × Int)) (d : Nat) (ask x : Int) : foundS cs d cs.length ask x = (findS (cs.drop d) ask).getD x := by simp [foundS]
end Go.Proofs.Ytnechkhgceeejaa

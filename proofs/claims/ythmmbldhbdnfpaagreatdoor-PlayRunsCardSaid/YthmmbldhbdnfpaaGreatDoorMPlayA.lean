/- Put together by merge.py out of XPlayA.lean.tpl, XPlayB.lean.tpl, XPlayC.lean.tpl, XCutA.lean.tpl, XPickS.lean.tpl. -/
import Derived.Test.YthmmbldhbdnfpaaGreatDoorMBase
import Derived.BigQuiet
import Derived.OwnWalk
namespace Go.Proofs.YthmmbldhbdnfpaaGreatDoor
open Go.RowKit
set_option linter.unusedVariables false
set_option linter.unusedSimpArgs false

section
/-- api.Pick: Kind, Thread, N -/
structure PickD where
  kind : Int
  th : Int
  n : Int
deriving DecidableEq
def encPk (p : PickD) : List Value := [.int .u8 p.kind, .int .i64 p.th, .int .i64 p.n]
theorem encPk_len : ∀ p, (encPk p).length = 3 := fun _ => rfl
/-- a pick's length -/
def plen (p : PickD) : Int := if p.kind = 2 then min p.n 1048577 * 2 else min p.n 1048577
def pbad (p : PickD) : Bool := decide (2 < p.kind) || decide (p.n < 0)
def total (l : List PickD) : Int := (l.map plen).sum
/-- Length: how long, and whether it may be -/
def lengthS (l : List PickD) : Int × Int :=
  if 65536 < l.length then (0, 3) else if l.any pbad = true then (0, 1) else if 1048576 < total l then (0, 3) else (total l, 0)

theorem plen_le (p : PickD) : plen p ≤ 2097154 := by unfold plen; split <;> omega
theorem plen_ge {p : PickD} (h : pbad p = false) : 0 ≤ plen p := by unfold pbad at h; simp at h; unfold plen; split <;> omega
theorem total_snoc (l : List PickD) (p : PickD) : total (l ++ [p]) = total l + plen p := by simp [total]
theorem total_app (l r : List PickD) : total (l ++ r) = total l + total r := by simp [total]
theorem total_ge {l : List PickD} (h : l.any pbad = false) : 0 ≤ total l := by
  induction l with
  | nil => simp [total]
  | cons p r ih =>
    simp only [List.any_cons, Bool.or_eq_false_iff] at h
    have := plen_ge h.1
    have := ih h.2
    simp only [total, List.map_cons, List.sum_cons] at *
    omega

variable {w w' : World}

set_option maxHeartbeats 1000000 in
theorem plen_any (w : World) (p : PickD) (hn : 0 ≤ p.n) :
    Calls Tryz.prog 200 #[.agg #[.int .u8 p.kind, .int .i64 p.th, .int .i64 p.n]] w fun e w' => e = .returned (.int .i64 (plen p)) ∧ Below w.heap.size w w' := by
  go_enter Tryz.func200, Tryz.ntmps200
  by_cases hk : p.kind = 2
  · go_wp2_with fail
    all_goals
      go_ret
      refine ⟨?_, (Below.refl _ _).alloc (Nat.le_refl _) _⟩
      simp [plen, wrap64, hk]
      omega
  · go_wp2_with fail
    all_goals
      go_ret
      refine ⟨?_, (Below.refl _ _).alloc (Nat.le_refl _) _⟩
      simp [plen, hk]
      omega

set_option maxHeartbeats 1000000 in
theorem length_any {ao : Option Addr} {cap : Nat} {l : List PickD} (h : RdT encPk w 3 (.slice ao l.length cap) l) (hm : l.length ≤ 9000000000000) (hn : ∀ p ∈ l, -9223372036854775808 ≤ p.n ∧ 0 ≤ p.kind) :
    Calls Tryz.prog 75 #[.slice ao l.length cap] w fun e w' => e = .returned (.tuple #[.int .i64 (lengthS l).1, .int .i64 (lengthS l).2]) ∧ Below w.heap.size w w' := by
  have H := hidI h
  have HN := hidI hn
  clear h hn
  go_enter Tryz.func75, Tryz.ntmps75
  by_cases hb : 65536 < l.length
  · go_wp2_with fail
    go_ret2
    unfold lengthS
    rw [if_pos hb]
    exact ⟨rfl, Below.refl _ _⟩
  · have h1 : ¬ ((l.length : Int) > 65536) := by omega
    go_wp2_with fail
    go_loopw [14] (fun i w' => ∃ k : Nat, k ≤ l.length ∧ i = .int .i64 (k : Int) ∧ Hid (Below w.heap.size w w') ∧ Hid ((l.take k).any pbad = false)) (fun i _ => ((l.length : Int) - intOf i).toNat)
    case atStart => exact ⟨0, by omega, rfl, hidI (Below.refl _ _), hidI rfl⟩
    case round =>
      obtain ⟨k, hk, rfl, HB, hall⟩ := hrel
      by_cases hlt : k < l.length
      · obtain ⟨x, hx⟩ := some_at hlt
        obtain ⟨b1, o1, rfl, hs1, hc1⟩ := RdT.at encPk_len (Rd.below H.out HB.out) hx
        have x0 := hc1 0 _ rfl
        have x1 := hc1 1 _ rfl
        have x2 := hc1 2 _ rfl
        simp only [Nat.add_zero] at x0
        clear hc1 hs1
        by_cases hbad : pbad x = true
        · have hv : lengthS l = (0, 1) := by unfold lengthS; rw [if_neg hb, if_pos (List.any_eq_true.2 ⟨x, List.mem_of_getElem? hx, hbad⟩)]
          unfold pbad at hbad
          simp only [Bool.or_eq_true, decide_eq_true_eq] at hbad
          have HV := hidI hv
          clear hv hall
          by_cases h2 : x.kind > 2
          · clear hbad
            go_wp2_with fail
            go_ret2
            rw [HV.out]
            exact ⟨rfl, HB.out.alloc HB.out.size _⟩
          · have h3 : x.n < 0 := by omega
            clear hbad
            go_wp2_with fail
            go_ret2
            rw [HV.out]
            exact ⟨rfl, HB.out.alloc HB.out.size _⟩
        · have hk2 : ¬ (x.kind > 2) := by unfold pbad at hbad; simp at hbad; omega
          have hn2 : ¬ (x.n < 0) := by unfold pbad at hbad; simp at hbad; omega
          have HX := hidI hx
          have HBAD := hidI hbad
          clear hbad hx
          go_wp2_with fail
          refine ⟨⟨k + 1, by omega, by go_num, hidI (HB.out.alloc HB.out.size _), hidI ?_⟩, by simp [intOf]; omega⟩
          rw [take_snoc HX.out, List.any_append, hall.out]
          simpa using HBAD.out
      · obtain rfl : k = l.length := by omega
        have hall' := hall.out
        rw [List.take_length] at hall'
        have HA := hidI hall'
        clear hall hall'
        obtain ⟨w1, rfl⟩ : ∃ w1, w1 = wr := ⟨_, rfl⟩
        go_wp2_with fail
        go_loopw [4, 29] (fun nv i w' => ∃ k : Nat, k ≤ l.length ∧ i = .int .i64 (k : Int) ∧ nv = .int .i64 (total (l.take k)) ∧ total (l.take k) ≤ 1048576 ∧ Hid (Below w.heap.size w w')) (fun nv i _ => ((l.length : Int) - intOf i).toNat)
        case atStart => exact ⟨0, by omega, rfl, rfl, by simp [total], HB⟩
        case round =>
          obtain ⟨k, hk, rfl, rfl, htot, HB⟩ := hrel
          by_cases hlt : k < l.length
          · obtain ⟨x, hx⟩ := some_at hlt
            obtain ⟨b1, o1, rfl, hs1, hc1⟩ := RdT.at encPk_len (Rd.below H.out HB.out) hx
            have x0 := hc1 0 _ rfl
            have x1 := hc1 1 _ rfl
            have x2 := hc1 2 _ rfl
            simp only [Nat.add_zero] at x0
            have hbx : pbad x = false := by
              have := List.any_eq_false.1 HA.out x (List.mem_of_getElem? hx)
              simpa using this
            have hng : 0 ≤ x.n := by unfold pbad at hbx; simp at hbx; omega
            have hp0 := plen_ge hbx
            have hp1 := plen_le x
            have ht0 : 0 ≤ total (l.take k) := total_ge (by
              refine List.any_eq_false.2 fun y hy => ?_
              exact List.any_eq_false.1 HA.out y (List.mem_of_mem_take hy))
            have hsn : total (l.take (k + 1)) = total (l.take k) + plen x := by rw [take_snoc hx, total_snoc]
            have hle : total (l.take (k + 1)) ≤ total l := by
              have h1 := total_app (l.take (k + 1)) (l.drop (k + 1))
              rw [List.take_append_drop] at h1
              have : 0 ≤ total (l.drop (k + 1)) := total_ge (by
                refine List.any_eq_false.2 fun y hy => ?_
                exact List.any_eq_false.1 HA.out y (List.mem_of_mem_drop hy))
              omega
            have HLE := hidI hle
            have HX := hidI hx
            clear hc1 hs1 hx hbx hle
            go_wp2_with fail
            refine (plen_any _ x hng).mono ?_
            rintro e w2 ⟨rfl, hb2⟩
            have HB2 := hidI ((HB.out.alloc HB.out.size _).trans (hb2.mono (by have := HB.out.size; simp; omega)))
            clear hb2
            have hs9 := hidI hsn
            clear hsn
            generalize hT : total (l.take k) = T at *
            generalize hP : plen x = pl at *
            clear hT hP
            by_cases hgt : T + pl > 1048576
            · go_wp2_with fail
              go_ret2
              have hv : lengthS l = (0, 3) := by unfold lengthS; rw [if_neg hb, if_neg (by rw [HA.out]; decide), if_pos (by have := HLE.out; have := hs9.out; omega)]
              rw [hv]
              exact ⟨rfl, HB2.out⟩
            · go_wp2_with fail
              exact ⟨⟨k + 1, by omega, by go_num, by rw [hs9.out], by rw [hs9.out]; omega, HB2⟩, by simp [intOf]; omega⟩
          · obtain rfl : k = l.length := by omega
            go_wp2_with fail
            go_ret2
            rw [List.take_length] at htot ⊢
            refine ⟨?_, HB.out⟩
            have hv : lengthS l = (total l, 0) := by unfold lengthS; rw [if_neg hb, if_neg (by rw [HA.out]; decide), if_neg (by omega)]
            rw [hv]
            rfl
end

section
variable {w w' : World} {base : Nat}

theorem pkInfo : (Tryz.prog.info? 169).map (fun i => (i.zero, i.size, i.bytes)) = some (some (.agg #[.int .u8 0, .int .i64 0, .int .i64 0]), 3, 24) := by kernel_rfl
theorem one_pk (p : PickD) : ∀ u ∈ encPk p, u.oneCell' = true := by
  intro u hu
  simp [encPk] at hu
  rcases hu with rfl | rfl | rfl <;> rfl

def putS (l : List PickD) (k th n : Int) : List PickD := if 0 < n then l ++ [⟨k, th, n⟩] else l
theorem putS_len (l : List PickD) (k th n : Int) : l.length ≤ (putS l k th n).length ∧ (putS l k th n).length ≤ l.length + 1 := by unfold putS; split <;> simp

/-- a variable that a slice stands in, of its own -/
structure RowVar (w : World) (base x : Nat) (l : List PickD) (v : Value) : Prop where
  box : w.heap[x]? = some (.cells #[v] 55 (0, 0))
  row : w.ownsRow base 169 3 v l.length (l.flatMap encPk)
  ne : v.ownBlock ≠ some x
theorem RowVar.keep {x : Nat} {l : List PickD} {v : Value} (h : RowVar w base x l v) (hk : ∀ g, g = x ∨ v.ownBlock = some g → g < w.heap.size → w'.heap[g]? = w.heap[g]?) : RowVar w' base x l v :=
  ⟨(hk x (.inl rfl) (lt_of_block h.box)).trans h.box, ownRow_keep h.row fun g hg hl => hk g (.inr hg) hl, h.ne⟩
def PutPk (base x : Nat) (l : List PickD) (v : Value) (w w' : World) : Prop :=
  ∃ v', RowVar w' base x l v' ∧ (∀ g, v'.ownBlock = some g → v.ownBlock = some g ∨ w.heap.size ≤ g)
end

section
variable {w w' : World} {base : Nat}

structure TwoVar (w0 w : World) (xa xb : Nat) (A B : List PickD) (va vb : Value) : Prop where
  a : RowVar w w0.heap.size xa A va
  b : RowVar w w0.heap.size xb B vb
  ab : va.ownBlock ≠ some xb
  ba : vb.ownBlock ≠ some xa
  rows : ∀ g, va.ownBlock = some g → vb.ownBlock ≠ some g
  ne : xa ≠ xb
  la : w0.heap.size ≤ xa
  lb : w0.heap.size ≤ xb
  old : Below w0.heap.size w0 w
theorem TwoVar.swap {w0 w : World} {xa xb : Nat} {A B : List PickD} {va vb : Value} (h : TwoVar w0 w xa xb A B va vb) : TwoVar w0 w xb xa B A vb va :=
  ⟨h.b, h.a, h.ba, h.ab, fun g h1 h2 => h.rows g h2 h1, h.ne.symm, h.lb, h.la, h.old⟩
theorem TwoVar.below {w0 w w' : World} {xa xb : Nat} {A B : List PickD} {va vb : Value} (h : TwoVar w0 w xa xb A B va vb) (hb : Below w.heap.size w w') : TwoVar w0 w' xa xb A B va vb :=
  ⟨h.a.keep fun g _ hl => hb.block g hl, h.b.keep fun g _ hl => hb.block g hl, h.ab, h.ba, h.rows, h.ne, h.la, h.lb, h.old.trans (hb.mono h.old.size)⟩

/-- a block beside them -/
structure Aside (w : World) (P : Nat) (o : Obj) (xa xb : Nat) (va vb : Value) : Prop where
  blk : w.heap[P]? = some o
  na : va.ownBlock ≠ some P
  nb : vb.ownBlock ≠ some P
  n1 : P ≠ xa
  n2 : P ≠ xb
theorem Aside.swap {w : World} {P : Nat} {o : Obj} {xa xb : Nat} {va vb : Value} (h : Aside w P o xa xb va vb) : Aside w P o xb xa vb va := ⟨h.blk, h.nb, h.na, h.n2, h.n1⟩

theorem snoc_ind {α : Type} {P : List α → Prop} (h0 : P []) (h1 : ∀ l x, P l → P (l ++ [x])) (l : List α) : P l := by
  rw [← List.reverse_reverse l]
  induction l.reverse with
  | nil => exact h0
  | cons x r ih => rw [List.reverse_cons]; exact h1 _ _ ih
/-- one pick is parted: so many of it on the first side -/
def tailStep (p : PickD) (here : Int) (A B : List PickD) : List PickD × List PickD :=
  if p.kind = 2 then (putS (putS A 2 p.th (here / 2)) 0 p.th (here % 2), putS (putS B 1 p.th (here % 2)) 2 p.th (p.n - (here + 1) / 2))
  else (putS A p.kind p.th here, putS B p.kind p.th (p.n - here))
def tailNext (p : PickD) (s : Int × List PickD × List PickD) : Int × List PickD × List PickD :=
  (s.1 - min s.1 (plen p), tailStep p (min s.1 (plen p)) s.2.1 s.2.2)
def tailSt (first : Int) (l : List PickD) : Int × List PickD × List PickD := l.foldl (fun s p => tailNext p s) (first, [], [])
theorem tailSt_snoc (first : Int) (l : List PickD) (p : PickD) : tailSt first (l ++ [p]) = tailNext p (tailSt first l) := by simp [tailSt]

theorem tailStep_len (p : PickD) (here : Int) (A B : List PickD) : (tailStep p here A B).1.length ≤ A.length + 2 ∧ (tailStep p here A B).2.length ≤ B.length + 2 := by
  unfold tailStep
  split
  · have h1 := putS_len A 2 p.th (here / 2)
    have h2 := putS_len (putS A 2 p.th (here / 2)) 0 p.th (here % 2)
    have h3 := putS_len B 1 p.th (here % 2)
    have h4 := putS_len (putS B 1 p.th (here % 2)) 2 p.th (p.n - (here + 1) / 2)
    simp only
    omega
  · have h1 := putS_len A p.kind p.th here
    have h2 := putS_len B p.kind p.th (p.n - here)
    simp only
    omega
theorem tailSt_len (first : Int) (l : List PickD) : (tailSt first l).2.1.length ≤ 2 * l.length ∧ (tailSt first l).2.2.length ≤ 2 * l.length := by
  refine snoc_ind (P := fun l => (tailSt first l).2.1.length ≤ 2 * l.length ∧ (tailSt first l).2.2.length ≤ 2 * l.length) (by simp [tailSt]) (fun l p ih => ?_) l
  · rw [tailSt_snoc]
    have := tailStep_len p (min (tailSt first l).1 (plen p)) (tailSt first l).2.1 (tailSt first l).2.2
    simp only [tailNext, List.length_append, List.length_singleton]
    omega
theorem tailSt_first {first : Int} (h0 : 0 ≤ first) (l : List PickD) (hb : l.any pbad = false) : 0 ≤ (tailSt first l).1 ∧ (tailSt first l).1 ≤ first := by
  revert hb
  refine snoc_ind (P := fun l => l.any pbad = false → 0 ≤ (tailSt first l).1 ∧ (tailSt first l).1 ≤ first) (fun _ => by simp [tailSt]; omega) (fun l p ih hb => ?_) l
  · rw [tailSt_snoc]
    rw [List.any_append, Bool.or_eq_false_iff] at hb
    have h1 := ih hb.1
    have h2 : 0 ≤ plen p := plen_ge (by simpa using hb.2)
    simp only [tailNext]
    omega

/-- Tail: both sides, or a refusal -/
def tailE (l : List PickD) (first : Int) : Int := if (lengthS l).2 ≠ 0 then (lengthS l).2 else if first < 0 ∨ (lengthS l).1 < first then 1 else 0

theorem lengthS_ok {l : List PickD} (h : (lengthS l).2 = 0) : l.length ≤ 65536 ∧ l.any pbad = false ∧ total l ≤ 1048576 ∧ (lengthS l).1 = total l := by
  unfold lengthS at h ⊢
  split at h
  · cases h
  split at h
  · cases h
  split at h
  · cases h
  rename_i h1 h2 h3
  rw [if_neg h1, if_neg h2, if_neg h3]
  exact ⟨by omega, by simpa using h2, by omega, rfl⟩
end

section
variable {w w' : World} {base : Nat}

theorem may_any (w : World) (p : PickD) :
    Calls Tryz.prog 201 #[.agg #[.int .u8 p.kind, .int .i64 p.th, .int .i64 p.n]] w fun e w' => e = .returned (.bool (!pbad p)) ∧ Below w.heap.size w w' := by
  have hv : (!pbad p) = (decide (p.kind ≤ 2) && decide (p.n ≥ 0)) := by
    unfold pbad
    rw [Bool.eq_iff_iff]
    simp
  by_cases h1 : p.kind ≤ 2
  · by_cases h2 : p.n ≥ 0
    · have hr : (!pbad p) = true := by rw [hv]; simp [h1]; omega
      have HR := hidI hr
      clear hr hv
      go_enter Tryz.func201, Tryz.ntmps201
      go_wp2_with fail
      go_ret
      rw [HR.out]
      exact ⟨rfl, (Below.refl _ _).alloc (Nat.le_refl _) _⟩
    · have hr : (!pbad p) = false := by rw [hv]; simp; omega
      have HR := hidI hr
      clear hr hv
      go_enter Tryz.func201, Tryz.ntmps201
      go_wp2_with fail
      go_ret
      rw [HR.out]
      exact ⟨rfl, (Below.refl _ _).alloc (Nat.le_refl _) _⟩
  · have hr : (!pbad p) = false := by rw [hv]; simp; omega
    have HR := hidI hr
    clear hr hv
    go_enter Tryz.func201, Tryz.ntmps201
    go_wp2_with fail
    go_ret
    rw [HR.out]
    exact ⟨rfl, (Below.refl _ _).alloc (Nat.le_refl _) _⟩

set_option maxHeartbeats 1000000 in
theorem longR_any (w : World) (p : PickD) (hn : 0 ≤ p.n) :
    Calls Tryz.prog 202 #[.agg #[.int .u8 p.kind, .int .i64 p.th, .int .i64 p.n], .int .i64 1048576] w fun e w' => e = .returned (.int .i64 (min (plen p) 1048577)) ∧ Below w.heap.size w w' := by
  go_enter Tryz.func202, Tryz.ntmps202
  by_cases hk : p.kind = 2
  · go_wp2_with fail
    all_goals
      go_ret
      refine ⟨?_, (Below.refl _ _).alloc (Nat.le_refl _) _⟩
      simp [plen, wrap64, hk] at *
      omega
  · go_wp2_with fail
    all_goals
      go_ret
      refine ⟨?_, (Below.refl _ _).alloc (Nat.le_refl _) _⟩
      simp [plen, hk] at *
      omega

set_option maxHeartbeats 1000000 in
theorem lengthR_any {ao : Option Addr} {cap : Nat} {l : List PickD} (h : RdT encPk w 3 (.slice ao l.length cap) l) (hm : l.length ≤ 9000000000000) :
    Calls Tryz.prog 80 #[.slice ao l.length cap] w fun e w' => e = .returned (.tuple #[.int .i64 (lengthS l).1, .int .i64 (lengthS l).2]) ∧ Below w.heap.size w w' := by
  have H := hidI h
  clear h
  go_enter Tryz.func80, Tryz.ntmps80
  by_cases hb : 65536 < l.length
  · go_wp2_with fail
    go_ret2
    unfold lengthS
    rw [if_pos hb]
    exact ⟨rfl, Below.refl _ _⟩
  · have h1 : ¬ ((l.length : Int) > 65536) := by omega
    go_wp2_with fail
    go_loopw [4] (fun i w' => ∃ k : Nat, k ≤ l.length ∧ i = .int .i64 (k : Int) ∧ Hid (Below w.heap.size w w') ∧ Hid ((l.take k).any pbad = false)) (fun i _ => ((l.length : Int) - intOf i).toNat)
    case atStart => exact ⟨0, by omega, rfl, hidI (Below.refl _ _), hidI rfl⟩
    case round =>
      obtain ⟨k, hk, rfl, HB, hall⟩ := hrel
      by_cases hlt : k < l.length
      · obtain ⟨x, hx⟩ := some_at hlt
        obtain ⟨b1, o1, rfl, hs1, hc1⟩ := RdT.at encPk_len (Rd.below H.out HB.out) hx
        have x0 := hc1 0 _ rfl
        have x1 := hc1 1 _ rfl
        have x2 := hc1 2 _ rfl
        simp only [Nat.add_zero] at x0
        clear hc1 hs1
        have HX := hidI hx
        clear hx
        go_wp2_with fail
        refine (may_any _ x).mono ?_
        rintro e w2 ⟨rfl, hb2⟩
        have HB2 := hidI (bnext HB.out hb2)
        clear hb2
        by_cases hbad : pbad x = true
        · have hv : lengthS l = (0, 1) := by unfold lengthS; rw [if_neg hb, if_pos (List.any_eq_true.2 ⟨x, List.mem_of_getElem? HX.out, hbad⟩)]
          have HV := hidI hv
          rw [hbad]
          clear hv hall hbad
          go_wp2_with fail
          go_ret2
          rw [HV.out]
          exact ⟨rfl, HB2.out⟩
        · have hbad' : pbad x = false := by simpa using hbad
          have HBAD := hidI hbad'
          rw [hbad']
          clear hbad hbad'
          go_wp2_with fail
          refine ⟨⟨k + 1, by omega, by go_num, HB2, hidI ?_⟩, by simp [intOf]; omega⟩
          rw [take_snoc HX.out, List.any_append, hall.out]
          simpa using HBAD.out
      · obtain rfl : k = l.length := by omega
        have hall' := hall.out
        rw [List.take_length] at hall'
        have HA := hidI hall'
        clear hall hall'
        obtain ⟨w1, rfl⟩ : ∃ w1, w1 = wr := ⟨_, rfl⟩
        go_wp2_with fail
        go_loopw [5, 6] (fun nv i w' => ∃ k : Nat, k ≤ l.length ∧ i = .int .i64 (k : Int) ∧ nv = .int .i64 (total (l.take k)) ∧ total (l.take k) ≤ 1048576 ∧ Hid (Below w.heap.size w w')) (fun nv i _ => ((l.length : Int) - intOf i).toNat)
        case atStart => exact ⟨0, by omega, rfl, rfl, by simp [total], HB⟩
        case round =>
          obtain ⟨k, hk, rfl, rfl, htot, HB⟩ := hrel
          by_cases hlt : k < l.length
          · obtain ⟨x, hx⟩ := some_at hlt
            obtain ⟨b1, o1, rfl, hs1, hc1⟩ := RdT.at encPk_len (Rd.below H.out HB.out) hx
            have x0 := hc1 0 _ rfl
            have x1 := hc1 1 _ rfl
            have x2 := hc1 2 _ rfl
            simp only [Nat.add_zero] at x0
            have hbx : pbad x = false := by
              have := List.any_eq_false.1 HA.out x (List.mem_of_getElem? hx)
              simpa using this
            have hng : 0 ≤ x.n := by unfold pbad at hbx; simp at hbx; omega
            have hp0 := plen_ge hbx
            have hp1 := plen_le x
            have ht0 : 0 ≤ total (l.take k) := total_ge (by
              refine List.any_eq_false.2 fun y hy => ?_
              exact List.any_eq_false.1 HA.out y (List.mem_of_mem_take hy))
            have hsn : total (l.take (k + 1)) = total (l.take k) + plen x := by rw [take_snoc hx, total_snoc]
            have hle : total (l.take (k + 1)) ≤ total l := by
              have h1 := total_app (l.take (k + 1)) (l.drop (k + 1))
              rw [List.take_append_drop] at h1
              have : 0 ≤ total (l.drop (k + 1)) := total_ge (by
                refine List.any_eq_false.2 fun y hy => ?_
                exact List.any_eq_false.1 HA.out y (List.mem_of_mem_drop hy))
              omega
            have HLE := hidI hle
            have HX := hidI hx
            clear hc1 hs1 hx hbx hle
            go_wp2_with fail
            refine (longR_any _ x hng).mono ?_
            rintro e w2 ⟨rfl, hb2⟩
            have HB2 := hidI (bnext HB.out hb2)
            clear hb2
            have hs9 := hidI hsn
            clear hsn
            generalize hT : total (l.take k) = T at *
            generalize hP : plen x = pl at *
            obtain ⟨m, hm⟩ : ∃ m, m = min pl 1048577 := ⟨_, rfl⟩
            rw [← hm]
            have hm0 : 0 ≤ m := by omega
            have hm1 : m ≤ 1048577 := by omega
            have HM := hidI hm
            clear hT hP hm
            by_cases hgt : T + m > 1048576
            · go_wp2_with fail
              go_ret2
              have hv : lengthS l = (0, 3) := by unfold lengthS; rw [if_neg hb, if_neg (by rw [HA.out]; decide), if_pos (by have := HLE.out; have := hs9.out; have := HM.out; omega)]
              rw [hv]
              exact ⟨rfl, HB2.out⟩
            · go_wp2_with fail
              exact ⟨⟨k + 1, by omega, by go_num, by rw [hs9.out, show m = pl from by have := HM.out; omega], by have := hs9.out; have := HM.out; omega, HB2⟩, by simp [intOf]; omega⟩
          · obtain rfl : k = l.length := by omega
            go_wp2_with fail
            go_ret2
            rw [List.take_length] at htot ⊢
            refine ⟨?_, HB.out⟩
            have hv : lengthS l = (total l, 0) := by unfold lengthS; rw [if_neg hb, if_neg (by rw [HA.out]; decide), if_neg (by omega)]
            rw [hv]
            rfl
end

section
set_option maxHeartbeats 1000000 in
theorem samePicksE_true {w : World} {ao bo : Option Addr} {n m ca cb : Nat} {l : List PickD} (ha : Rd w 3 (.slice ao n ca) n (l.flatMap encPk)) (hb : Rd w 3 (.slice bo m cb) m (l.flatMap encPk)) (hn : n = l.length) (hm : m = l.length) (hl : l.length ≤ 9223372036854775807) :
    Calls Tryz.prog 162 #[.slice ao n ca, .slice bo m cb] w fun e w' => e = .returned (.bool true) ∧ Below w.heap.size w w' := by
  subst hn; subst hm
  have HA : Hid (RdT encPk w 3 (.slice ao l.length ca) l) := hidI ha
  have HB : Hid (RdT encPk w 3 (.slice bo l.length cb) l) := hidI hb
  clear ha hb
  go_enter Tryz.func162, Tryz.ntmps162
  go_wp2
  go_loopw [13] (fun i wr => ∃ k n : Nat, k ≤ l.length ∧ i = .int .i64 k ∧ wr = w.drewN n) (fun i _ => l.length - (intOf i).toNat)
  case atStart => exact ⟨0, 0, Nat.zero_le _, rfl, rfl⟩
  case round =>
    obtain ⟨k, n, hk, rfl, rfl⟩ := hrel
    by_cases hlt : k < l.length
    · obtain ⟨x, hx⟩ := some_at hlt
      obtain ⟨b1, o1, rfl, hs1, hc1⟩ := HA.out.at encPk_len hx
      obtain ⟨b2, o2, rfl, hs2, hc2⟩ := HB.out.at encPk_len hx
      have x0 := hc1 0 _ rfl
      have x1 := hc1 1 _ rfl
      have x2 := hc1 2 _ rfl
      have y0 := hc2 0 _ rfl
      have y1 := hc2 1 _ rfl
      have y2 := hc2 2 _ rfl
      simp only [Nat.add_zero] at x0 y0
      clear hc1 hc2 hx hs1 hs2
      go_wp2_with fail
      go_quiet (fail)
      go_wp2
      exact ⟨⟨k + 1, _, by omega, by go_num, rfl⟩, by simp [intOf]; omega⟩
    · obtain rfl : k = l.length := by omega
      go_wp2
      go_ret
      exact ⟨rfl, below_drewN (Below.refl _ _) n⟩
theorem samePicksT_true {w : World} {ao bo : Option Addr} {ca cb : Nat} {l : List PickD} (ha : RdT encPk w 3 (.slice ao l.length ca) l) (hb : RdT encPk w 3 (.slice bo l.length cb) l) (hm : l.length ≤ 9223372036854775807) :
    Calls Tryz.prog 162 #[.slice ao l.length ca, .slice bo l.length cb] w fun e w' => e = .returned (.bool true) ∧ Below w.heap.size w w' :=
  samePicksE_true ha hb rfl rfl hm
end

end Go.Proofs.YthmmbldhbdnfpaaGreatDoor

/- TsoOrders, walked. -/
import Derived.Test.YtnechkhgceeejaaTsoOa
import Derived.Test.YtnechkhgceeejaaCellsS
import Derived.Test.YtnechkhgceeejaaTsoEl
import Derived.Deep.CutRange
import Derived.StillTailTactics
import Derived.Deep.RegionHeld3
namespace Go.Proofs.Ytnechkhgceeejaa
open Go.RowKit
set_option linter.unusedVariables false
set_option linter.unusedSimpArgs false

variable {w w' : World} {base b : Nat}

def csOf (za zv : List Int) : List (Int × Int) := ((za.zip zv).take 64).map fun p => (p.1 % 8, p.2)

theorem csOf_len (za zv : List Int) : (csOf za zv).length = min 64 (min za.length zv.length) := by simp [csOf]
theorem csOf_at {za zv : List Int} {k : Nat} (h : k < (csOf za zv).length) : (csOf za zv)[k]? = some (nth za k % 8, nth zv k) := by
  have hl := csOf_len za zv
  have h1 : k < za.length := by omega
  have h2 : k < zv.length := by omega
  simp [csOf, List.getElem?_take, show k < 64 by omega, List.zip, List.getElem?_zipWith, h1, h2, nth]
theorem csOf_ok (za zv : List Int) : ∀ c ∈ csOf za zv, 0 ≤ c.1 ∧ c.1 < 8 := by
  intro c hc
  simp only [csOf, List.mem_map] at hc
  obtain ⟨p, -, rfl⟩ := hc
  simp only
  omega

theorem csOf_val {za zv : List Int} (h : ∀ z ∈ zv, -9223372036854775808 ≤ z ∧ z ≤ 9223372036854775807) : ∀ c ∈ csOf za zv, -9223372036854775808 ≤ c.2 ∧ c.2 ≤ 9223372036854775807 := by
  intro c hc
  simp only [csOf, List.mem_map] at hc
  obtain ⟨p, hp, rfl⟩ := hc
  exact h p.2 (List.of_mem_zip (List.mem_of_mem_take hp)).2

/-- two rows of our own that grow -/
structure Two (w w' : World) (cs : List (Int × Int)) (j k : Nat) (c v : Value) : Prop where
  code : w'.ownsRow w.heap.size 25 6 c (2 * j) (((cs.take j).flatMap ordPair).flatMap encOp)
  want : w'.ownsRow w.heap.size 60 2 v k ((cs.take k).flatMap encCell)
  ne : ∀ g, c.ownBlock = some g → v.ownBlock ≠ some g
  old : Below w.heap.size w w'
theorem Two.below {w0 w w' : World} {cs : List (Int × Int)} {j k : Nat} {c v : Value} (h : Two w0 w cs j k c v) (hb : Below w.heap.size w w') : Two w0 w' cs j k c v :=
  ⟨own_below h.code hb, own_below h.want hb, h.ne, h.old.trans (hb.mono h.old.size)⟩
theorem Two.moreCode {w0 w w' : World} {cs : List (Int × Int)} {j k : Nat} {c v c' : Value} {p : Int × Int} (h : Two w0 w cs j k c v) (hp : cs[j]? = some p) (hg : w.grownBy w' c.ownBlock)
    (ho : w'.ownsRow w0.heap.size 25 6 c' (2 * j + 2) (((cs.take j).flatMap ordPair).flatMap encOp ++ (encOp (oSet 1 p.2) ++ encOp (oStore 0 1 p.1)))) (hf : ∀ g, c'.ownBlock = some g → c.ownBlock = some g ∨ w.heap.size ≤ g) : Two w0 w' cs (j + 1) k c' v := by
  have hc := Chg.grown (S := fun k => c.ownBlock = some k) (Chg.refl _ w) hg (fun k hk => .inl hk)
  refine ⟨?_, ownRow_keep h.want fun g hg' hl => hc.block g hl (fun e => h.ne g e hg'), fun g h1 h2 => ?_, Chg.below h.old h.old.size hc (fun k hk => (rowLt h.code hk).1)⟩
  · rw [take_snoc hp, List.flatMap_append, List.flatMap_append, show 2 * (j + 1) = 2 * j + 2 from by omega]
    have : ([p].flatMap ordPair).flatMap encOp = encOp (oSet 1 p.2) ++ encOp (oStore 0 1 p.1) := by simp [ordPair]
    rw [this]
    exact ho
  · rcases hf g h1 with e | e
    · exact h.ne g e h2
    · have := (rowLt h.want h2).2; omega
theorem Two.moreWant {w0 w w' : World} {cs : List (Int × Int)} {j k : Nat} {c v v' : Value} {p : Int × Int} (h : Two w0 w cs j k c v) (hp : cs[k]? = some p) (hg : w.grownBy w' v.ownBlock)
    (ho : w'.ownsRow w0.heap.size 60 2 v' (k + 1) ((cs.take k).flatMap encCell ++ encCell p)) (hf : ∀ g, v'.ownBlock = some g → v.ownBlock = some g ∨ w.heap.size ≤ g) : Two w0 w' cs j (k + 1) c v' := by
  have hc := Chg.grown (S := fun k => v.ownBlock = some k) (Chg.refl _ w) hg (fun k hk => .inl hk)
  refine ⟨ownRow_keep h.code fun g hg' hl => hc.block g hl (fun e => h.ne g hg' e), ?_, fun g h1 h2 => ?_, Chg.below h.old h.old.size hc (fun k hk => (rowLt h.want hk).1)⟩
  · rw [take_snoc hp, flat_snoc]
    exact ho
  · rcases hf g h2 with e | e
    · exact h.ne g h1 e
    · have := (rowLt h.code h1).2; omega
/-- the code is whole -/
structure Both (w w' : World) (cs : List (Int × Int)) (ask : Int) (c v : Value) : Prop where
  code : w'.ownsRow w.heap.size 25 6 c (2 * cs.length + 1) ((ordCode cs ask).flatMap encOp)
  want : w'.ownsRow w.heap.size 60 2 v cs.length (cs.flatMap encCell)
  old : Below w.heap.size w w'
theorem Both.below {w0 w w' : World} {cs : List (Int × Int)} {ask : Int} {c v : Value} (h : Both w0 w cs ask c v) (hb : Below w.heap.size w w') : Both w0 w' cs ask c v :=
  ⟨own_below h.code hb, own_below h.want hb, h.old.trans (hb.mono h.old.size)⟩
theorem Two.lastCode {w0 w w' : World} {cs : List (Int × Int)} {k : Nat} {c v c' : Value} {ask : Int} (h : Two w0 w cs k k c v) (hk : k = cs.length) (hg : w.grownBy w' c.ownBlock)
    (ho : w'.ownsRow w0.heap.size 25 6 c' (2 * k + 1) (((cs.take k).flatMap ordPair).flatMap encOp ++ encOp (oLoad 2 0 ask))) (hf : ∀ g, c'.ownBlock = some g → c.ownBlock = some g ∨ w.heap.size ≤ g) : Both w0 w' cs ask c' v := by
  have hc := Chg.grown (S := fun k => c.ownBlock = some k) (Chg.refl _ w) hg (fun k hk => .inl hk)
  subst hk
  refine ⟨?_, ?_, Chg.below h.old h.old.size hc (fun k hk => (rowLt h.code hk).1)⟩
  · rw [List.take_length] at ho
    unfold ordCode
    rw [List.flatMap_append]
    simpa using ho
  · have := ownRow_keep h.want fun g hg' hl => hc.block g hl (fun e => h.ne g e hg')
    rwa [List.take_length] at this
theorem one_ops2 (a b : OpD) : ∀ u ∈ encOp a ++ encOp b, u.oneCell' = true := by
  intro u hu
  simp [encOp] at hu
  rcases hu with rfl | rfl | rfl | rfl | rfl | rfl | rfl | rfl | rfl | rfl | rfl | rfl <;> rfl
theorem one_ce (p : Int × Int) : ∀ u ∈ encCell p, u.oneCell' = true := by
  intro u hu
  simp [encCell] at hu
  rcases hu with rfl | rfl <;> rfl
theorem ceInfo : (Try.prog.info? 60).map (fun i => (i.zero, i.size, i.bytes)) = some (some (.agg #[.int .i64 0, .int .i64 0]), 2, 16) := by kernel_rfl

theorem flat_drop {α : Type} {enc : α → List Value} {sz : Nat} (he : ∀ a, (enc a).length = sz) : ∀ (l : List α) (d : Nat), (l.drop d).flatMap enc = (l.flatMap enc).drop (d * sz)
  | l, 0 => by simp
  | [], d + 1 => by simp
  | a :: l, d + 1 => by
    rw [List.drop_succ_cons, flat_drop he l d, List.flatMap_cons, show (d + 1) * sz = (enc a).length + d * sz from by rw [he, Nat.add_mul]; omega, List.drop_length_add_append]
theorem rd_from {vao : Option Addr} {vcap n d : Nat} {l : List (Int × Int)} (h : Rd w 2 (.slice vao n vcap) n (l.flatMap encCell)) (hn : n = l.length) (hd : d ≤ n) :
    Rd w 2 (.slice (if vcap = d then vao else Option.map (fun x => x.add (d * 2)) vao) (n - d) (vcap - d)) (n - d) ((l.drop d).flatMap encCell) := by
  obtain ⟨h1, ao, cap, e, h2, h3⟩ := h
  simp only [Value.slice.injEq, true_and] at e
  obtain ⟨rfl, rfl⟩ := e
  refine ⟨by rw [flat_len encCell_len, List.length_drop, hn], _, _, rfl, by omega, fun hp => ?_⟩
  obtain ⟨b, off, rfl, hb, hc⟩ := h3 (by omega)
  rw [if_neg (by omega)]
  refine ⟨b, off + d * 2, by simp only [Option.map_some, addr_addT], hb, fun j u hj => ?_⟩
  rw [flat_drop encCell_len, List.getElem?_drop] at hj
  rw [Nat.add_assoc]
  exact hc _ u hj
theorem MLive.drew {N : Nat} {mm : MM} (h : MLive w base b mm N) : MLive w.drew base b mm N := h.below (Below.refl w.heap.size w).drew
theorem MLive.base_le {N : Nat} {mm : MM} (h : MLive w base b mm N) : base ≤ w.heap.size := by
  obtain ⟨own, xs, mv, tv, ev, hm, -⟩ := h
  exact hm.base_le
theorem Below.size_le {B N : Nat} {mm : MM} {w0 : World} (h : Below B w0 w) (hm : MLive w base b mm N) (hB : B ≤ base := by exact Nat.le_refl _) : B ≤ w.heap.size := Nat.le_trans hB hm.base_le
theorem setI (l : List Int) (a : Nat) (v : Int) : (l.flatMap encI).toArray.setIfInBounds a (.int .i64 v) = ((l.set a v).flatMap encI).toArray := by
  have h : ∀ l : List Int, l.flatMap encI = l.map (fun z => Value.int .i64 z) := fun l => by
    induction l with
    | nil => rfl
    | cons a l ih => simp only [List.flatMap_cons, List.map_cons, ih, encI, List.singleton_append]
  rw [h, h, List.setIfInBounds_toArray, List.map_set]
theorem fillS_len (cs : List (Int × Int)) : ∀ l : List Int, (fillS cs l).length = l.length := by
  induction cs with
  | nil => intro l; rfl
  | cons c cs ih => intro l; show (fillS cs (l.set _ _)).length = _; rw [ih]; simp
theorem atI {l : List Int} {a : Nat} (h : a < l.length) : (l.flatMap encI).toArray[a]? = some (.int .i64 (l.getD a 0)) := by
  have := flat_at encI_len l (List.getElem?_eq_getElem h) 0 _ rfl
  rw [Nat.mul_one, Nat.add_zero] at this
  rw [List.getElem?_toArray, this]
  simp [List.getD, h]

/-- a machine that lives beside a block Q that is none of its own -/
def MBut (w : World) (base b : Nat) (mm : MM) (N Q : Nat) : Prop :=
  ∃ own xs mv tv ev, MAt w base b own mm xs mv tv ev ∧ (∀ k, own k ≠ 0 → base ≤ k) ∧ MOk N mm ∧ own Q = 0 ∧ Q < w.heap.size
theorem MBut.live {N Q : Nat} {mm : MM} (h : MBut w base b mm N Q) : MLive w base b mm N := by
  obtain ⟨own, xs, mv, tv, ev, hm, hl, hk, -⟩ := h
  exact ⟨own, xs, mv, tv, ev, hm, hl, hk⟩
theorem MLive.but {N : Nat} {mm : MM} (h : MLive w base b mm N) (o : Obj) : MBut (w.alloc o) base b mm N w.heap.size := by
  obtain ⟨own, xs, mv, tv, ev, hm, hl, hk⟩ := h
  exact ⟨own, xs, mv, tv, ev, hm.below ((Below.refl _ _).alloc (Nat.le_refl _) _), hl, hk, hm.fresh _ (Nat.le_refl _), by simp⟩
theorem MBut.poke {N Q : Nat} {mm : MM} (h : MBut w base b mm N Q) (o : Nat) (u : Value) : MBut (w.setCell ⟨Q, o, none⟩ u) base b mm N Q := by
  obtain ⟨own, xs, mv, tv, ev, hm, hl, hk, h0, hq⟩ := h
  exact ⟨own, xs, mv, tv, ev, hm.keep (by simp [World.setCell]) (fun g hg _ => Below.heap_setCell _ _ _ _ (fun e => hg (by rw [e]; exact h0))), hl, hk, h0, by simpa [World.setCell] using hq⟩
theorem MBut.drew {N Q : Nat} {mm : MM} (h : MBut w base b mm N Q) : MBut w.drew base b mm N Q := by
  obtain ⟨own, xs, mv, tv, ev, hm, hl, hk, h0, hq⟩ := h
  exact ⟨own, xs, mv, tv, ev, hm.drew, hl, hk, h0, hq⟩
theorem flush_q {N Q : Nat} {mm : MM} (h : MBut w base b mm N Q) (z : Int) :
    Calls Try.prog 26 #[.pointer (some ⟨b, 0, none⟩), .int .i64 z] w fun r w' => r = .returned (.bool (mm.flush z).1) ∧ MBut w' base b (mm.flush z).2 N Q ∧ w'.heap[Q]? = w.heap[Q]? ∧ Below base w w' := by
  obtain ⟨own, xs, mv, tv, ev, hm, hl, hk, h0, hq⟩ := h
  refine (flush_any hm hk z).mono ?_
  rintro r w' ⟨rfl, ⟨own', xs', mv', tv', ev', h', ho⟩, hc⟩
  refine ⟨rfl, ⟨own', xs', mv', tv', ev', h', fun k hn => ?_, hk.flush z, by rw [ho _ hq]; exact h0, by have := hc.size; omega⟩, hc.block Q hq (fun e => e.1 h0), hc.to_below hm.base_le (fun k e => hl k e.1)⟩
  by_cases e : k < w.heap.size
  · exact hl k (by rw [← ho k e]; exact hn)
  · have := hm.base_le; omega
theorem waiting_l {N n : Nat} {mm : MM} {t : MT} (h : MLive w base b mm N) (ht : mm.ths[n]? = some t) :
    Calls Try.prog 25 #[.pointer (some ⟨b, 0, none⟩), .int .i64 (n : Int)] w (AllPost t.wait w) := by
  obtain ⟨own, xs, mv, tv, ev, hm, hl, hk⟩ := h
  rw [hm.same, List.getElem?_map] at ht
  cases hx : xs[n]? with
  | none => rw [hx] at ht; cases ht
  | some x =>
    rw [hx] at ht
    simp only [Option.map_some, Option.some.injEq] at ht
    subst ht
    obtain ⟨tb, cap, rfl, -⟩ := hm.tslice hx
    exact waiting_yes hm hx
theorem at_l {N n : Nat} {mm : MM} {t : MT} (h : MLive w base b mm N) (ht : mm.ths[n]? = some t) :
    Calls Try.prog 17 #[.pointer (some ⟨b, 0, none⟩), .int .i64 (n : Int)] w fun e w' => e = .returned (.tuple #[.int .i64 t.at_, .bool true]) ∧ w' = w := by
  obtain ⟨own, xs, mv, tv, ev, hm, hl, hk⟩ := h
  rw [hm.same, List.getElem?_map] at ht
  cases hx : xs[n]? with
  | none => rw [hx] at ht; cases ht
  | some x =>
    rw [hx] at ht
    simp only [Option.map_some, Option.some.injEq] at ht
    subst ht
    obtain ⟨tb, cap, rfl, -⟩ := hm.tslice hx
    exact at_yes hm hx

theorem ord_wf {cs : List (Int × Int)} {ask : Int} (hc : ∀ c ∈ cs, 0 ≤ c.1 ∧ c.1 < 8) (hv : ∀ c ∈ cs, -9223372036854775808 ≤ c.2 ∧ c.2 ≤ 9223372036854775807) (ha : 0 ≤ ask ∧ ask < 8) : ∀ o ∈ ordCode cs ask, wfOp o ∧ checkS o = true := by
  intro o ho
  have hset : ∀ n : Int, -9223372036854775808 ≤ n ∧ n ≤ 9223372036854775807 → wfOp (oSet 1 n) ∧ checkS (oSet 1 n) = true := fun n hn => by
    refine ⟨by simp only [wfOp, oSet]; omega, ?_⟩
    have e : checkS (oSet 1 n) = okNum (fm false 1 true) n := rfl
    rw [e]
    unfold okNum fm
    rw [if_pos rfl, Bool.and_eq_true, decide_eq_true_eq, decide_eq_true_eq]
    exact ⟨by show (-9223372036854775808 : Int) ≤ n; omega, by show n ≤ (9223372036854775807 : Int); omega⟩
  have hst : ∀ n : Int, 0 ≤ n ∧ n < 8 → wfOp (oStore 0 1 n) ∧ checkS (oStore 0 1 n) = true := fun n hn => by
    refine ⟨by simp only [wfOp, oStore]; omega, ?_⟩
    have e : checkS (oStore 0 1 n) = okNum (fm false 2 true) n := rfl
    rw [e]
    unfold okNum fm
    rw [if_pos rfl, Bool.and_eq_true, decide_eq_true_eq, decide_eq_true_eq]
    exact ⟨by show (-9223372036854775808 : Int) ≤ n; omega, by show n ≤ (9223372036854775807 : Int); omega⟩
  have hld : ∀ n : Int, 0 ≤ n ∧ n < 8 → wfOp (oLoad 2 0 n) ∧ checkS (oLoad 2 0 n) = true := fun n hn => by
    refine ⟨by simp only [wfOp, oLoad]; omega, ?_⟩
    have e : checkS (oLoad 2 0 n) = okNum (fm false 2 true) n := rfl
    rw [e]
    unfold okNum fm
    rw [if_pos rfl, Bool.and_eq_true, decide_eq_true_eq, decide_eq_true_eq]
    exact ⟨by show (-9223372036854775808 : Int) ≤ n; omega, by show n ≤ (9223372036854775807 : Int); omega⟩
  unfold ordCode at ho
  rcases List.mem_append.1 ho with h | h
  · obtain ⟨c, hcm, ho⟩ := List.mem_flatMap.1 h
    simp only [ordPair, List.mem_cons, List.not_mem_nil, or_false] at ho
    rcases ho with rfl | rfl
    · exact hset _ (hv c hcm)
    · exact hst _ (hc c hcm)
  · rw [List.mem_singleton.1 h]
    exact hld _ ha
theorem ord_check {cs : List (Int × Int)} {ask : Int} {v : Value} (hl : cs.length ≤ 64) (h : ∀ o ∈ ordCode cs ask, wfOp o ∧ checkS o = true) : checkM 8 [(v, ordCode cs ask)] [] = 0 := by
  have h1 : countS [(v, ordCode cs ask)] = 2 * cs.length + 1 := by
    simp only [countS, List.map_cons, List.map_nil, List.sum_cons, List.sum_nil, ordCode_len]
    omega
  have h2 : ([(v, ordCode cs ask)].all fun p => p.2.all checkS) = true := by
    simp only [List.all_cons, List.all_nil, Bool.and_true]
    exact List.all_eq_true.2 fun o ho => (h o ho).2
  unfold checkM
  rw [if_neg (by rw [h1]; simp; omega), if_neg (by decide), if_neg (by rw [h2]; decide), if_neg (by decide)]

set_option maxRecDepth 100000 in
set_option maxHeartbeats 1000000 in
theorem orders_any {ao vo : Option Addr} {ca cv : Nat} {za zv : List Int} (ha : Ints w (.slice ao za.length ca) za) (hv : Ints w (.slice vo zv.length cv) zv) (hma : za.length ≤ 9223372036854775807) (hmv : zv.length ≤ 9223372036854775807) (hwv : ∀ z ∈ zv, -9223372036854775808 ≤ z ∧ z ≤ 9223372036854775807) (ask fl : Int) :
    Calls Try.prog 4 #[.slice ao za.length ca, .slice vo zv.length cv, .int .i64 ask, .int .i64 fl] w fun e w' => e = .returned (.bool true) ∧ Below w.heap.size w w' := by
  have HA := hidI ha
  have HV := hidI hv
  clear ha hv
  go_enter Try.func4, Try.ntmps4
  obtain ⟨n, hn⟩ : ∃ n : Nat, n = (csOf za zv).length := ⟨_, rfl⟩
  have hlen := csOf_len za zv
  rw [← hn] at hlen
  have HN := hidI hn
  have HLEN := hidI hlen
  clear hn hlen
  go_upto_region 1 with fail
  go_cut [9] from 25 to 29 (fun v wx => v = .int .i64 ((min za.length zv.length : Nat) : Int) ∧ w = wx)
  case first =>
    go_wp2_with fail
    all_goals (go_meet; first | (case rel => exact ⟨by congr 1; omega, rfl⟩) | exact ⟨by congr 1; omega, rfl⟩)
  case rest =>
  obtain ⟨rfl, rfl⟩ := hcut
  go_upto_region 2 with fail
  go_cut [9] from 30 to 31 (fun v wx => v = .int .i64 (n : Int) ∧ w = wx)
  case first =>
    go_wp2_with fail
    all_goals (go_meet; first | (case rel => exact ⟨by congr 1; have := HLEN.out; omega, rfl⟩) | exact ⟨by congr 1; have := HLEN.out; omega, rfl⟩)
  case rest =>
  obtain ⟨rfl, rfl⟩ := hcut
  go_wp2_with fail
  go_loopw [10, 11, 12] (fun c v i w' => ∃ k : Nat, k ≤ n ∧ i = .int .i64 (k : Int) ∧ (∃ cao ccap, c = .slice cao (2 * k) ccap) ∧ (∃ vao vcap, v = .slice vao k vcap) ∧ Hid (Two w w' (csOf za zv) k k c v)) (fun c v i _ => ((n : Int) - intOf i).toNat)
  case atStart => exact ⟨0, by omega, rfl, ⟨none, 0, rfl⟩, ⟨none, 0, rfl⟩, ⟨World.ownsRow_nil _ _ _ _, World.ownsRow_nil _ _ _ _, fun g hg => by simp [Value.ownBlock] at hg, Below.refl _ _⟩⟩
  case round =>
    obtain ⟨k, hk, rfl, ⟨cao, ccap, rfl⟩, ⟨vao, vcap, rfl⟩, HT⟩ := hrel
    by_cases hlt : k < n
    · have hka : k < za.length := by have := HLEN.out; omega
      have hkv : k < zv.length := by have := HLEN.out; omega
      obtain ⟨ba, oa, rfl, hba, ia⟩ := HA.out.at hka
      obtain ⟨bv, ov, rfl, hbv, iv⟩ := HV.out.at hkv
      have ia' := (World.cell?_of_block (HT.out.old.block _ hba)).trans ia
      have iv' := (World.cell?_of_block (HT.out.old.block _ hbv)).trans iv
      have hand := and_7 (nth za k)
      go_wp2_with fail
      refine (set_call _ 1 (nth zv k)).mono ?_
      rintro e w1 ⟨rfl, hb1⟩
      simp only [encOp, oSet]
      go_wp2_with fail
      refine (store_call _ 0 1 (nth za k % 8)).mono ?_
      rintro e w2 ⟨rfl, hb2⟩
      simp only [encOp, oStore]
      have HB2 := hidI (bnext hb1 hb2)
      clear hb1 hb2
      obtain ⟨i0, hi, hz0, hz1, hz2⟩ := info_parts opInfo2
      go_wp2_with (at_builtin; refine wpList_append_d _ rfl _ _ 28 rfl w.heap.size 25 i0 _ 6 16 Try.underlying28 hi hz0 hz1 hz2 rfl (by decide) _ (2 * k) _ rfl (own_below HT.out.code (HB2.out.alloc HB2.out.size _)) ⟨w2.heap.size, 0, none⟩ 2 2 (encOp (oSet 1 (nth zv k)) ++ encOp (oStore 0 1 (nth za k % 8))) rfl rfl ?c1 ?c2 ?c3 ?c4 ?c5 ?_)
      case c1 => exact news_at (cs := encOp (oSet 1 (nth zv k)) ++ encOp (oStore 0 1 (nth za k % 8))) (block_new _ _)
      case c2 => exact one_ops2 _ _
      case c3 => unfold maxLen; have := HLEN.out; omega
      case c4 => have := HLEN.out; omega
      case c5 => have := HT.out.old.size; have := HB2.out.size; simp; omega
      intro ao2 cp2 w3 ho3 hf3 hg3
      have hat : (csOf za zv)[k]? = some (nth za k % 8, nth zv k) := csOf_at (by rw [← HN.out]; exact hlt)
      have hT3 := (HT.out.below (HB2.out.alloc HB2.out.size (.cells (encOp (oSet 1 (nth zv k)) ++ encOp (oStore 0 1 (nth za k % 8))).toArray 25))).moreCode hat hg3 ho3 (fun g hg => by
        rcases hf3 g hg with e | e
        · exact .inl e
        · exact .inr (by simpa using e))
      have iv3 := (World.cell?_of_block (hT3.old.block _ hbv)).trans iv
      have HT3 := hidI hT3
      have HAT := hidI hat
      clear hT3 hat hg3 ho3 hf3 hi hz0 hz1 hz2
      obtain ⟨i0, hi, hz0, hz1, hz2⟩ := info_parts ceInfo
      go_wp2_with (at_builtin; refine wpList_append_d _ rfl _ _ 54 rfl w.heap.size 60 i0 _ 2 16 Try.underlying54 hi hz0 hz1 hz2 rfl (by decide) _ k _ rfl (own_below HT3.out.want ((Below.refl _ _).alloc (Nat.le_refl _) _)) ⟨w3.heap.size, 0, none⟩ 1 1 (encCell (nth za k % 8, nth zv k)) rfl rfl ?d1 ?d2 ?d3 ?d4 ?d5 ?_)
      case d1 => exact news_at (cs := encCell (nth za k % 8, nth zv k)) (block_new _ _)
      case d2 => exact one_ce _
      case d3 => unfold maxLen; have := HLEN.out; omega
      case d4 => have := HLEN.out; omega
      case d5 => have := HT3.out.old.size; simp; omega
      intro ao4 cp4 w4 ho4 hf4 hg4
      have hT4 := (HT3.out.below ((Below.refl _ _).alloc (Nat.le_refl _) (.cells (encCell (nth za k % 8, nth zv k)).toArray 60))).moreWant HAT.out hg4 ho4 (fun g hg => by
        rcases hf4 g hg with e | e
        · exact .inl e
        · exact .inr (by simpa using e))
      have HT4 := hidI hT4
      clear hT4 hg4 ho4 hf4 hi hz0 hz1 hz2
      go_wp2_with fail
      exact ⟨⟨k + 1, by omega, by go_num, ⟨ao2, cp2, rfl⟩, ⟨ao4, cp4, rfl⟩, HT4⟩, by simp [intOf]; omega⟩
    · obtain rfl : k = n := by omega
      clear hlt hk
      have hand2 := and_7 ask
      go_wp2_with fail
      refine (load_call _ 2 0 (ask % 8)).mono ?_
      rintro e w2 ⟨rfl, hb2⟩
      simp only [encOp, oLoad]
      have hT2 := HT.out.below hb2
      have HT2 := hidI hT2
      clear hT2 hb2
      obtain ⟨i0, hi, hz0, hz1, hz2⟩ := info_parts opInfo2
      go_wp2_with (at_builtin; refine wpList_append_d _ rfl _ _ 28 rfl w.heap.size 25 i0 _ 6 16 Try.underlying28 hi hz0 hz1 hz2 rfl (by decide) _ (2 * k) _ rfl (own_below HT2.out.code ((Below.refl _ _).alloc (Nat.le_refl _) _)) ⟨w2.heap.size, 0, none⟩ 1 1 (encOp (oLoad 2 0 (ask % 8))) rfl rfl ?c1 ?c2 ?c3 ?c4 ?c5 ?_)
      case c1 => exact news_at (cs := encOp (oLoad 2 0 (ask % 8))) (block_new _ _)
      case c2 => exact fun u hu => one_ops2 _ (oLoad 2 0 (ask % 8)) u (List.mem_append_right (encOp (oLoad 2 0 (ask % 8))) hu)
      case c3 => unfold maxLen; have := HLEN.out; omega
      case c4 => have := HLEN.out; omega
      case c5 => have := HT2.out.old.size; simp; omega
      intro ao3 cp3 w3 ho3 hf3 hg3
      have hT3 := (HT2.out.below ((Below.refl _ _).alloc (Nat.le_refl _) (.cells (encOp (oLoad 2 0 (ask % 8))).toArray 25))).lastCode (by rw [← HN.out]) hg3 ho3 (fun g hg => by
          rcases hf3 g hg with e | e
          · exact .inl e
          · exact .inr (by simpa using e))
      have HT3 := hidI hT3
      clear hT3 hg3 ho3 hf3 hi hz0 hz1 hz2 HT2
      go_wp2_with fail
      have hcs64 : (csOf za zv).length ≤ 64 := by rw [csOf_len]; omega
      have hok := csOf_ok za zv
      have hask : 0 ≤ ask % 8 ∧ ask % 8 < 8 := by omega
      have hcv : ∀ c ∈ csOf za zv, -9223372036854775808 ≤ c.2 ∧ c.2 ≤ 9223372036854775807 := csOf_val hwv
      have hwf := ord_wf hok hcv hask
      have hb3 : Below w3.heap.size w3 (w3.alloc (.cells #[.slice ao3 (2 * k + 1) cp3] 28)) := (Below.refl _ _).alloc (Nat.le_refl _) _
      have hle : (ordCode (csOf za zv) (ask % 8)).length = 2 * k + 1 := by rw [ordCode_len, ← HN.out]
      have hcode : CodeAt (w3.alloc (.cells #[.slice ao3 (2 * k + 1) cp3] 28)) (.slice (some ⟨w3.heap.size, 0, none⟩) 1 1) [(.slice ao3 (2 * k + 1) cp3, ordCode (csOf za zv) (ask % 8))] :=
        lit_code (l := [(.slice ao3 (2 * k + 1) cp3, ordCode (csOf za zv) (ask % 8))]) (block_new _ _) (fun p hp => by
          rw [List.mem_singleton.1 hp]
          have h9 := Rd.of_own (own_below HT3.out.code hb3)
          show Rd _ 6 _ (ordCode (csOf za zv) (ask % 8)).length _
          rw [ordCode_len]
          exact h9) (fun p hp o ho => by
          rw [List.mem_singleton.1 hp] at ho
          exact (hwf o ho).1)
      refine (made_l (l := [(.slice ao3 (2 * k + 1) cp3, ordCode (csOf za zv) (ask % 8))]) hcode 8 (by simp) (ord_check hcs64 hwf)).mono ?_
      rintro e w4 ⟨b, rfl, hm, hb4⟩
      obtain ⟨B, hB⟩ : ∃ B, B = (w3.alloc (.cells #[.slice ao3 (2 * k + 1) cp3] 28)).heap.size := ⟨_, rfl⟩
      have hB1 : w.heap.size ≤ B := by rw [hB]; have := HT3.out.old.size; simp; omega
      obtain ⟨t0, ht0⟩ := ord_new (csOf za zv) (ask % 8)
      have hm0 : MLive w4 B b (newM 8 [ordCode (csOf za zv) (ask % 8)] []) 0 := by rw [hB]; exact hm
      have hT4 : Both w w4 (csOf za zv) (ask % 8) (.slice ao3 (2 * k + 1) cp3) (.slice vao k vcap) := (HT3.out.below hb3).below hb4
      have HWL : ∀ g, (Value.slice vao k vcap).ownBlock = some g → g < B := fun g hg => by rw [hB]; exact (rowLt (own_below HT3.out.want hb3) hg).2
      have HM := hidI hm0
      have HT := hidI hT4
      have HWL := hidI HWL
      have HB1 := hidI hB1
      have HT0 := hidI ht0
      have HOK := hidI hok
      clear hm hm0 hT4 hb4 hcode hb3 hB hB1 ht0 HT3 hwf hcv
      go_wp2_with fail
      have hk64 : k ≤ 64 := by have := HLEN.out; omega
      have hwant : ∀ w', Below B w4 w' → Rd w' 2 (.slice vao k vcap) k ((csOf za zv).flatMap encCell) := fun w' hb => by
        have h1 := Rd.of_own HT.out.want
        rw [← HN.out] at h1
        exact h1.keep fun g hg hl => hb.block g (HWL.out g hg)
      have HWANT := hidI hwant
      clear hwant
      go_loopw [15] (fun i w' => ∃ j : Nat, j ≤ 2 * k ∧ i = .int .i64 (j : Int) ∧ Hid (∃ m t, OrdI (csOf za zv) (ask % 8) j m t ∧ MLive w' B b m j) ∧ Hid (Below B w4 w')) (fun i _ => ((2 * k : Nat) : Int).toNat - (intOf i).toNat)
      case atStart => exact ⟨0, by omega, rfl, ⟨_, _, HT0.out, HM.out⟩, hidI (Below.refl _ _)⟩
      case round =>
        obtain ⟨j, hj, rfl, HR, HBR⟩ := hrel
        by_cases hlt : j < 2 * k
        · obtain ⟨m, t, hI, hm⟩ := HR.out
          have hst := ord_step hI (by have := HN.out; omega) hcs64 HOK.out
          obtain ⟨hs1, t', hI'⟩ := hst
          have HS1 := hidI hs1
          have HI := hidI hI'
          have HM1 := hidI hm
          clear hs1 hI' hI hm HR
          go_wp2_with fail
          refine (step_l HM1.out (by omega) 0).mono ?_
          rintro e w5 ⟨rfl, hm', hb5⟩
          rw [HS1.out]
          have HM2 := hidI hm'
          have HB5 := hidI (HBR.out.trans hb5)
          clear hm' hb5
          go_wp2_with fail
          exact ⟨⟨j + 1, by omega, by go_num, ⟨_, _, HI.out, HM2.out⟩, HB5⟩, by simp [intOf]; omega⟩
        · obtain rfl : j = 2 * k := by omega
          clear hlt hj
          obtain ⟨m, t, hI, hm⟩ := HR.out
          have hF := ord_full (cs := csOf za zv) (ask := ask % 8) (m := m) (t := t) (by rw [← HN.out]; exact hI)
          have HF := hidI hF
          have HM := hidI hm
          clear hI hm hF HR
          go_wp2_with fail
          refine (waiting_l (n := 0) HM.out (t := t) (by rw [HF.out.ths]; rfl)).mono ?_
          rintro e w5 ⟨g, rfl, ho, hb5⟩
          rw [HF.out.wait, List.drop_zero] at ho ⊢
          have hln : (csOf za zv).length = k := HN.out.symm
          rw [hln] at ho ⊢
          have HB5 := hidI (HBR.out.trans (hb5.mono (Below.size_le HBR.out HM.out)))
          have HM5 := hidI (HM.out.below hb5)
          have HO5 := hidI (Rd.of_own ho)
          clear ho hb5
          go_wp2_with fail
          refine (sameCells_eq HO5.out (HWANT.out _ HB5.out) HN.out HN.out (by omega)).mono ?_
          rintro e w6 ⟨rfl, hb6⟩
          have HB6 := hidI (HB5.out.trans (hb6.mono (Below.size_le HB5.out HM5.out)))
          have HM6 := hidI (HM5.out.below hb6)
          clear hb6 HO5
          go_wp2_with fail
          have hq0 : (w6.alloc (.cells #[.int .i64 0, .int .i64 0, .int .i64 0, .int .i64 0, .int .i64 0, .int .i64 0, .int .i64 0, .int .i64 0] 63)).heap[w6.heap.size]? = some (.cells ((fillS ((csOf za zv).take 0) (List.replicate 8 0)).flatMap encI).toArray 63 (0, 0)) := block_new _ _
          have HQ0 := hidI hq0
          have HBQ := hidI (HM6.out.but (.cells #[.int .i64 0, .int .i64 0, .int .i64 0, .int .i64 0, .int .i64 0, .int .i64 0, .int .i64 0, .int .i64 0] 63))
          have HB7 := hidI (HB6.out.alloc (Below.size_le HB6.out HM6.out) (.cells #[.int .i64 0, .int .i64 0, .int .i64 0, .int .i64 0, .int .i64 0, .int .i64 0, .int .i64 0, .int .i64 0] 63))
          clear hq0
          have HF0 := HF
          clear HF
          go_loopw [17] (fun d w' => ∃ d' : Nat, d' ≤ k ∧ d = .int .i64 (d' : Int) ∧ Hid (∃ m t, OrdF (csOf za zv) (ask % 8) d' m t ∧ MBut w' B b m (2 * k) w6.heap.size) ∧ Hid (w'.heap[w6.heap.size]? = some (.cells ((fillS ((csOf za zv).take d') (List.replicate 8 0)).flatMap encI).toArray 63 (0, 0))) ∧ Hid (Below B w4 w')) (fun d _ => k - (intOf d).toNat)
          case atStart => exact ⟨0, by omega, rfl, ⟨_, _, HF0.out, HBQ.out⟩, HQ0, HB7⟩
          case round =>
            obtain ⟨d, hd, rfl, HR, HQ, HBR⟩ := hrel
            by_cases hlt : d < k ∧ (d : Int) < fl
            · obtain ⟨hlt1, hlt2⟩ := hlt
              obtain ⟨m, t, hF, hm⟩ := HR.out
              obtain ⟨hs1, t', hF'⟩ := ord_flush hF (by rw [← HN.out]; exact hlt1)
              have HS1 := hidI hs1
              have HF' := hidI hF'
              have HM1 := hidI hm
              clear hs1 hF' hF hm HR
              go_wp2_with fail
              refine (flush_q HM1.out 0).mono ?_
              rintro e w8 ⟨rfl, hm', hq', hb8⟩
              rw [HS1.out]
              obtain ⟨c, hc⟩ := some_at (l := csOf za zv) (k := d) (by rw [← HN.out]; exact hlt1)
              have hrd : RdT encCell w8 2 (.slice vao (csOf za zv).length vcap) (csOf za zv) := by
                unfold RdT
                rw [← HN.out]
                exact HWANT.out _ (HBR.out.trans hb8)
              rw [← HN.out] at hrd
              obtain ⟨gb, off, hvao, -, hcc⟩ := RdT.at encCell_len hrd hc
              have i0 : w8.cell? ⟨gb, off + d * 2, none⟩ = some (.int .i64 c.1) := hcc 0 _ rfl
              have i1 : w8.cell? ⟨gb, off + d * 2 + 1, none⟩ = some (.int .i64 c.2) := hcc 1 _ rfl
              obtain ⟨hc0, hc8⟩ := HOK.out c (List.mem_of_getElem? hc)
              have hq8 := hq'.trans HQ.out
              have fq := free_of_block (o := c.1.toNat) hq8
              obtain ⟨z9, hz9⟩ : ∃ z9, w8.cell? ⟨w6.heap.size, c.1.toNat, none⟩ = some (.int .i64 z9) := ⟨_, cell_of_block hq8 (atI (by rw [fillS_len]; simp; omega))⟩
              have HQ8 := hidI hq8
              have HM2 := hidI hm'
              have HB8 := hidI (HBR.out.trans hb8)
              have HC := hidI hc
              clear hm' hb8 hq' hq8 hcc hrd hc
              subst hvao
              go_wp2_with fail
              go_still_tail 10, (by kernel_rfl)
              go_wp2_with fail
              have h9 := HQ8.out
              have hq9 := block_setCell (w := w8.drew) (b := w6.heap.size) (o := c.1.toNat) (.int .i64 c.2) h9
              rw [setI, ← fillS_snoc, ← take_snoc HC.out] at hq9
              have hbq : B ≤ w6.heap.size := Below.size_le HB6.out HM6.out
              exact ⟨⟨d + 1, by omega, by go_num, ⟨_, _, HF'.out, HM2.out.drew.poke _ _⟩, hidI hq9, hidI (HB8.out.drew.setCell hbq _)⟩, by simp [intOf]; omega⟩
            · by_cases hnk : (d : Int) < (k : Int)
              · have hfl : ¬ (d : Int) < fl := by omega
                clear hlt
                obtain ⟨w9, rfl⟩ : ∃ x, x = wr := ⟨_, rfl⟩
                go_wp2_with fail
                obtain ⟨m, t, hF, hmb⟩ := HR.out
                have hF8 : m.mem.length = 8 := by rw [hF.mem, fillS_len]; rfl
                have HF := hidI hF
                have HM := hidI hmb
                have HF8 := hidI hF8
                clear hF hmb HR hF8
                go_loopw [18] (fun i w' => ∃ q : Nat, q ≤ 8 ∧ i = .int .i64 (q : Int) ∧ w' = w9) (fun i _ => 8 - (intOf i).toNat)
                case atStart => exact ⟨0, by omega, rfl, rfl⟩
                case round =>
                  obtain ⟨q, hq, rfl, rfl⟩ := hrel
                  by_cases hq8 : q < 8
                  · have hhas : m.has (q : Int) = true := by simp only [MM.has, decide_eq_true_eq, HF8.out]; omega
                    have hat : m.at (q : Int) = (fillS ((csOf za zv).take d) (List.replicate 8 0)).getD q 0 := by unfold MM.at; rw [HF.out.mem]; rfl
                    have iq : wr.cell? ⟨w6.heap.size, q, none⟩ = some (.int .i64 ((fillS ((csOf za zv).take d) (List.replicate 8 0)).getD q 0)) := cell_of_block HQ.out (atI (by rw [fillS_len]; exact hq8))
                    generalize (fillS ((csOf za zv).take d) (List.replicate 8 0)).getD q 0 = x at hat iq
                    have HH := hidI hhas
                    have HAT := hidI hat
                    clear hhas hat
                    go_wp2_with fail
                    refine (word_l HM.out.live (q : Int)).mono ?_
                    rintro e wz ⟨rfl, rfl⟩
                    rw [HH.out, if_pos rfl, HAT.out]
                    go_wp2_with fail
                    exact ⟨⟨q + 1, by omega, by go_num, trivial⟩, by simp [intOf]; omega⟩
                  · obtain rfl : q = 8 := by omega
                    have wa : wr.cell? ⟨w6.heap.size, (ask % 8).toNat, none⟩ = some (.int .i64 ((fillS ((csOf za zv).take d) (List.replicate 8 0)).getD (ask % 8).toNat 0)) := cell_of_block HQ.out (atI (by rw [fillS_len]; simp; omega))
                    obtain ⟨x0, hx0⟩ : ∃ x0, x0 = (fillS ((csOf za zv).take d) (List.replicate 8 0)).getD (ask % 8).toNat 0 := ⟨_, rfl⟩
                    rw [← hx0] at wa
                    have HX0 := hidI hx0
                    clear hx0 hq8 hq
                    obtain ⟨w9, rfl⟩ : ∃ x, x = wr := ⟨_, rfl⟩
                    go_wp2_with fail
                    go_loopw [21, 22] (fun f i w' => ∃ j : Nat, d ≤ j ∧ j ≤ k ∧ i = .int .i64 (j : Int) ∧ f = .int .i64 (foundS (csOf za zv) d j (ask % 8) x0) ∧ w' = w9) (fun f i _ => k - (intOf i).toNat)
                    case atStart => exact ⟨d, Nat.le_refl _, hd, rfl, by rw [foundS_start], rfl⟩
                    case round =>
                      obtain ⟨j, hdj, hjk, rfl, rfl, rfl⟩ := hrel
                      by_cases hlt : j < k
                      · obtain ⟨c, hc⟩ := some_at (l := csOf za zv) (k := j) (by rw [← HN.out]; exact hlt)
                        have hrd : RdT encCell wr 2 (.slice vao (csOf za zv).length vcap) (csOf za zv) := by
                          unfold RdT
                          rw [← HN.out]
                          exact HWANT.out _ HBR.out
                        rw [← HN.out] at hrd
                        obtain ⟨gb, off, rfl, -, hcc⟩ := RdT.at encCell_len hrd hc
                        have i0 : wr.cell? ⟨gb, off + j * 2, none⟩ = some (.int .i64 c.1) := hcc 0 _ rfl
                        have i1 : wr.cell? ⟨gb, off + j * 2 + 1, none⟩ = some (.int .i64 c.2) := hcc 1 _ rfl
                        have hnx := foundS_next hdj hc (ask % 8) x0
                        have HNX := hidI hnx
                        clear hcc hrd hnx hc
                        by_cases he : c.1 = ask % 8
                        · go_wp2_with fail
                          exact ⟨⟨j + 1, by omega, by omega, by go_num, by rw [HNX.out, if_pos he], trivial⟩, by simp [intOf]; omega⟩
                        · go_wp2_with fail
                          exact ⟨⟨j + 1, by omega, by omega, by go_num, by rw [HNX.out, if_neg he], trivial⟩, by simp [intOf]; omega⟩
                      · obtain rfl : j = k := by omega
                        have hvf : foundS (csOf za zv) d j (ask % 8) x0 = (findS ((csOf za zv).drop d) (ask % 8)).getD ((fillS ((csOf za zv).take d) (List.replicate 8 0)).getD (ask % 8).toNat 0) := by rw [HX0.out, HN.out, foundS_all]
                        obtain ⟨hs1, t', hth, hwt, hr2⟩ := ord_load HF.out hask
                        rw [← hvf] at hr2
                        generalize foundS (csOf za zv) d j (ask % 8) x0 = fv at hr2 ⊢
                        have HS1 := hidI hs1
                        have HTH := hidI hth
                        have HWT := hidI hwt
                        have HR2 := hidI hr2
                        clear hs1 hth hwt hr2 hvf
                        go_wp2_with fail
                        refine (step_l HM.out.live (by omega) 0).mono ?_
                        rintro e wA ⟨rfl, hmA, hbA⟩
                        rw [HS1.out]
                        have HMA := hidI hmA
                        have HBA := hidI (HBR.out.trans hbA)
                        clear hmA hbA
                        go_wp2_with fail
                        refine (register_l (n := 0) (r := 2) (t := t') HMA.out (by rw [HTH.out]; rfl) (by decide)).mono ?_
                        rintro e wB ⟨rfl, rfl⟩
                        rw [HR2.out]
                        go_wp2_with fail
                        go_region_held3 (fun w' => True) (exact trivial) (first | (go_at_call 25; refine (waiting_l (n := 0) (t := t') HMA.out.drew (by rw [HTH.out]; rfl)).mono ?_; rintro e wC ⟨gC, rfl, hoC, hbC⟩; have HOC := hidI (Rd.of_own hoC); have HBC := hidI hbC; clear hoC hbC; dsimp only) | (go_at_call 24; refine (sameCells_eq (l := (csOf za zv).drop d) (by have h9 := HOC.out; rw [HWT.out] at h9 ⊢; exact h9) (rd_from (HWANT.out wC (HBA.out.trans (((Below.refl wB.heap.size wB).drew.trans HBC.out).mono (Below.size_le HBA.out HMA.out)))) HN.out hd) (by rw [HWT.out]) (by rw [List.length_drop, ← HN.out]) (by rw [List.length_drop]; omega)).mono ?_; rintro e wD ⟨rfl, hbD⟩; have HBD := hidI hbD; clear hbD; dsimp only) | (go_at_call 23; refine (lives_any _).mono ?_; rintro e wE ⟨rfl, hbE⟩; have HBE := hidI hbE; clear hbE; dsimp only))
                        all_goals (go_wp2_with fail)
                        all_goals (
                          go_ret
                          have h1 : Below wB.heap.size wB wE := bnext ((Below.refl wB.heap.size wB).drew.trans HBC.out) (bnext HBD.out HBE.out)
                          exact ⟨rfl, HT.out.old.trans ((HBA.out.trans (h1.mono (Below.size_le HBA.out HMA.out))).mono HB1.out)⟩)
              · clear hlt
                obtain ⟨w9, rfl⟩ : ∃ x, x = wr := ⟨_, rfl⟩
                go_wp2_with fail
                obtain ⟨m, t, hF, hmb⟩ := HR.out
                have hF8 : m.mem.length = 8 := by rw [hF.mem, fillS_len]; rfl
                have HF := hidI hF
                have HM := hidI hmb
                have HF8 := hidI hF8
                clear hF hmb HR hF8
                go_loopw [18] (fun i w' => ∃ q : Nat, q ≤ 8 ∧ i = .int .i64 (q : Int) ∧ w' = w9) (fun i _ => 8 - (intOf i).toNat)
                case atStart => exact ⟨0, by omega, rfl, rfl⟩
                case round =>
                  obtain ⟨q, hq, rfl, rfl⟩ := hrel
                  by_cases hq8 : q < 8
                  · have hhas : m.has (q : Int) = true := by simp only [MM.has, decide_eq_true_eq, HF8.out]; omega
                    have hat : m.at (q : Int) = (fillS ((csOf za zv).take d) (List.replicate 8 0)).getD q 0 := by unfold MM.at; rw [HF.out.mem]; rfl
                    have iq : wr.cell? ⟨w6.heap.size, q, none⟩ = some (.int .i64 ((fillS ((csOf za zv).take d) (List.replicate 8 0)).getD q 0)) := cell_of_block HQ.out (atI (by rw [fillS_len]; exact hq8))
                    generalize (fillS ((csOf za zv).take d) (List.replicate 8 0)).getD q 0 = x at hat iq
                    have HH := hidI hhas
                    have HAT := hidI hat
                    clear hhas hat
                    go_wp2_with fail
                    refine (word_l HM.out.live (q : Int)).mono ?_
                    rintro e wz ⟨rfl, rfl⟩
                    rw [HH.out, if_pos rfl, HAT.out]
                    go_wp2_with fail
                    exact ⟨⟨q + 1, by omega, by go_num, trivial⟩, by simp [intOf]; omega⟩
                  · obtain rfl : q = 8 := by omega
                    have wa : wr.cell? ⟨w6.heap.size, (ask % 8).toNat, none⟩ = some (.int .i64 ((fillS ((csOf za zv).take d) (List.replicate 8 0)).getD (ask % 8).toNat 0)) := cell_of_block HQ.out (atI (by rw [fillS_len]; simp; omega))
                    obtain ⟨x0, hx0⟩ : ∃ x0, x0 = (fillS ((csOf za zv).take d) (List.replicate 8 0)).getD (ask % 8).toNat 0 := ⟨_, rfl⟩
                    rw [← hx0] at wa
                    have HX0 := hidI hx0
                    clear hx0 hq8 hq
                    obtain ⟨w9, rfl⟩ : ∃ x, x = wr := ⟨_, rfl⟩
                    go_wp2_with fail
                    go_loopw [21, 22] (fun f i w' => ∃ j : Nat, d ≤ j ∧ j ≤ k ∧ i = .int .i64 (j : Int) ∧ f = .int .i64 (foundS (csOf za zv) d j (ask % 8) x0) ∧ w' = w9) (fun f i _ => k - (intOf i).toNat)
                    case atStart => exact ⟨d, Nat.le_refl _, hd, rfl, by rw [foundS_start], rfl⟩
                    case round =>
                      obtain ⟨j, hdj, hjk, rfl, rfl, rfl⟩ := hrel
                      by_cases hlt : j < k
                      · exfalso; omega
                      · obtain rfl : j = k := by omega
                        have hvf : foundS (csOf za zv) d j (ask % 8) x0 = (findS ((csOf za zv).drop d) (ask % 8)).getD ((fillS ((csOf za zv).take d) (List.replicate 8 0)).getD (ask % 8).toNat 0) := by rw [HX0.out, HN.out, foundS_all]
                        obtain ⟨hs1, t', hth, hwt, hr2⟩ := ord_load HF.out hask
                        rw [← hvf] at hr2
                        generalize foundS (csOf za zv) d j (ask % 8) x0 = fv at hr2 ⊢
                        have HS1 := hidI hs1
                        have HTH := hidI hth
                        have HWT := hidI hwt
                        have HR2 := hidI hr2
                        clear hs1 hth hwt hr2 hvf
                        go_wp2_with fail
                        refine (step_l HM.out.live (by omega) 0).mono ?_
                        rintro e wA ⟨rfl, hmA, hbA⟩
                        rw [HS1.out]
                        have HMA := hidI hmA
                        have HBA := hidI (HBR.out.trans hbA)
                        clear hmA hbA
                        go_wp2_with fail
                        refine (register_l (n := 0) (r := 2) (t := t') HMA.out (by rw [HTH.out]; rfl) (by decide)).mono ?_
                        rintro e wB ⟨rfl, rfl⟩
                        rw [HR2.out]
                        go_wp2_with fail
                        go_region_held3 (fun w' => True) (exact trivial) (first | (go_at_call 25; refine (waiting_l (n := 0) (t := t') HMA.out.drew (by rw [HTH.out]; rfl)).mono ?_; rintro e wC ⟨gC, rfl, hoC, hbC⟩; have HOC := hidI (Rd.of_own hoC); have HBC := hidI hbC; clear hoC hbC; dsimp only) | (go_at_call 24; refine (sameCells_eq (l := (csOf za zv).drop d) (by have h9 := HOC.out; rw [HWT.out] at h9 ⊢; exact h9) (rd_from (HWANT.out wC (HBA.out.trans (((Below.refl wB.heap.size wB).drew.trans HBC.out).mono (Below.size_le HBA.out HMA.out)))) HN.out hd) (by rw [HWT.out]) (by rw [List.length_drop, ← HN.out]) (by rw [List.length_drop]; omega)).mono ?_; rintro e wD ⟨rfl, hbD⟩; have HBD := hidI hbD; clear hbD; dsimp only) | (go_at_call 23; refine (lives_any _).mono ?_; rintro e wE ⟨rfl, hbE⟩; have HBE := hidI hbE; clear hbE; dsimp only))
                        all_goals (go_wp2_with fail)
                        all_goals (
                          go_ret
                          have h1 : Below wB.heap.size wB wE := bnext ((Below.refl wB.heap.size wB).drew.trans HBC.out) (bnext HBD.out HBE.out)
                          exact ⟨rfl, HT.out.old.trans ((HBA.out.trans (h1.mono (Below.size_le HBA.out HMA.out))).mono HB1.out)⟩)
end Go.Proofs.Ytnechkhgceeejaa

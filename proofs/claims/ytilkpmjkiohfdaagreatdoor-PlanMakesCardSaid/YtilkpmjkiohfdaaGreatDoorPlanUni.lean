/- What Make answers, in one form for plan.Make and the document's; SamePlaces, SamePlan; Book.Plan. -/
import Derived.Test.YtilkpmjkiohfdaaGreatDoorPlanSum
import Derived.Test.YtilkpmjkiohfdaaGreatDoorBookApartPlace
namespace Go.Proofs.YtilkpmjkiohfdaaGreatDoor
open Go.RowKit
set_option linter.unusedVariables false
set_option linter.unusedSimpArgs false

structure PlaceD where
  a : Int
  b : Int
  c : Int
  d : Int
  e : Int
def encP (p : PlaceD) : List Value := [.int .i64 p.a, .int .i64 p.b, .int .i64 p.c, .int .i64 p.d, .int .i64 p.e]
theorem encP_len : ∀ p, (encP p).length = 5 := fun _ => rfl
def placesOf : List Int → Int × Bool → List PlaceD
  | [], _ => []
  | n :: l, s => ⟨s.1, (tk n s).1, (tk 128 (tk n s)).1, (tk 64 (tk 128 (tk n s))).1, (tk 4096 (tk 64 (tk 128 (tk n s)))).1⟩ :: placesOf l (adv n s)
theorem places_rows : ∀ (l : List Int) s, (placesOf l s).flatMap encP = rows l s
  | [], _ => rfl
  | n :: l, s => by rw [placesOf, List.flatMap_cons, places_rows l]; rfl
theorem places_len : ∀ (l : List Int) s, (placesOf l s).length = l.length
  | [], _ => rfl
  | n :: l, s => by rw [placesOf, List.length_cons, places_len l]; rfl

def mkP (words : Int) (zs : List Int) : List PlaceD := if mkErr words zs = 0 then placesOf zs (s0 words) else []
def mkW (words : Int) (zs : List Int) : Int := if mkErr words zs = 0 then words else 0
def mkS (words : Int) (zs : List Int) : Int := if mkErr words zs = 0 then (fin zs (s0 words)).1 else 0
theorem mkP_len (words : Int) (zs : List Int) : (mkP words zs).length ≤ 4 := by
  unfold mkP
  split
  · rename_i h
    rw [places_len]
    unfold mkErr at h
    split at h
    · omega
    · split at h
      · omega
      · split at h
        · omega
        · omega
  · simp

/-- what Make answers, however it goes -/
def MkU (words : Int) (zs : List Int) (w : World) (e : Ending) (w' : World) : Prop :=
  ∃ ao c, e = .returned (.tuple #[.agg #[.int .i64 (mkW words zs), .slice ao (mkP words zs).length c, .int .i64 (mkS words zs)], .int .i64 (mkErr words zs)]) ∧
    w'.ownsRow w.heap.size 110 5 (.slice ao (mkP words zs).length c) (mkP words zs).length ((mkP words zs).flatMap encP) ∧ Below w.heap.size w w'
theorem MkU.of {words : Int} {zs : List Int} {w : World} {e : Ending} {w' : World} (h : MkPost words zs w e w') : MkU words zs w e w' := by
  obtain ⟨v, rfl, h1, h2, h3⟩ := h
  by_cases h0 : mkErr words zs = 0
  · have ho := h2 h0
    obtain ⟨ao, c, rfl⟩ := ownsRow_shape ho
    have e1 : mkP words zs = placesOf zs (s0 words) := if_pos h0
    have e2 : mkW words zs = words := if_pos h0
    have e3 : mkS words zs = (fin zs (s0 words)).1 := if_pos h0
    refine ⟨ao, c, ?_, ?_, h3⟩
    · rw [e1, e2, e3, places_len, if_pos h0, if_pos h0]
    · rw [e1, places_len, places_rows]; exact ho
  · obtain rfl := h1 h0
    have e1 : mkP words zs = [] := if_neg h0
    have e2 : mkW words zs = 0 := if_neg h0
    have e3 : mkS words zs = 0 := if_neg h0
    refine ⟨none, 0, ?_, ?_, h3⟩
    · rw [e1, e2, e3, if_neg h0, if_neg h0]; rfl
    · rw [e1]; exact World.ownsRow_nil _ _ _ _

set_option maxHeartbeats 1000000 in
theorem samePlaces_true {w : World} {ao bo : Option Addr} {ca cb : Nat} {l : List PlaceD} (ha : RdT encP w 5 (.slice ao l.length ca) l) (hb : RdT encP w 5 (.slice bo l.length cb) l) (hm : l.length ≤ 9223372036854775807) :
    Calls Tryz.prog 51 #[.slice ao l.length ca, .slice bo l.length cb] w fun e w' => e = .returned (.bool true) ∧ Below w.heap.size w w' := by
  have HA := hidI ha
  have HB := hidI hb
  clear ha hb
  go_enter Tryz.func51, Tryz.ntmps51
  go_wp2
  go_loopw [13] (fun i wr => ∃ k n : Nat, k ≤ l.length ∧ i = .int .i64 k ∧ wr = w.drewN n) (fun i _ => l.length - (intOf i).toNat)
  case atStart => exact ⟨0, 0, Nat.zero_le _, rfl, rfl⟩
  case round =>
    obtain ⟨k, n, hk, rfl, rfl⟩ := hrel
    by_cases hlt : k < l.length
    · obtain ⟨x, hx⟩ := some_at hlt
      obtain ⟨b1, o1, rfl, hs1, hc1⟩ := HA.out.at encP_len hx
      obtain ⟨b2, o2, rfl, hs2, hc2⟩ := HB.out.at encP_len hx
      have x0 := hc1 0 _ rfl
      have y0 := hc2 0 _ rfl
      have x1 := hc1 1 _ rfl
      have y1 := hc2 1 _ rfl
      have x2 := hc1 2 _ rfl
      have y2 := hc2 2 _ rfl
      have x3 := hc1 3 _ rfl
      have y3 := hc2 3 _ rfl
      have x4 := hc1 4 _ rfl
      have y4 := hc2 4 _ rfl
      simp only [Nat.add_zero] at x0 y0
      clear hc1 hc2 hx hs1 hs2
      go_wp2_with fail
      go_quiet (fail)
      go_wp2
      exact ⟨⟨k + 1, _, by omega, by go_num, rfl⟩, by simp [intOf]; omega⟩
    · obtain rfl : k = l.length := by omega
      go_wp2
      go_ret
      exact ⟨rfl, below_drewN (Below.refl _ _) n⟩

set_option maxHeartbeats 1000000 in
theorem samePlan_true {w : World} {ao bo : Option Addr} {ca cb : Nat} {x y : Int} {l : List PlaceD} (ha : RdT encP w 5 (.slice ao l.length ca) l) (hb : RdT encP w 5 (.slice bo l.length cb) l) (hm : l.length ≤ 9223372036854775807) :
    Calls Tryz.prog 11 #[.agg #[.int .i64 x, .slice ao l.length ca, .int .i64 y], .agg #[.int .i64 x, .slice bo l.length cb, .int .i64 y]] w fun e w' => e = .returned (.bool true) ∧ Below w.heap.size w w' := by
  have HA := hidI ha
  have HB := hidI hb
  clear ha hb
  go_enter Tryz.func11, Tryz.ntmps11
  go_wp2_with fail
  refine (samePlaces_true (l := l) ((HA.out.alloc _).alloc _) ((HB.out.alloc _).alloc _) hm).mono ?_
  rintro e w1 ⟨rfl, hb1⟩
  have HB1 := hidI hb1
  clear hb1
  go_wp2_with fail
  go_ret
  exact ⟨rfl, bnextAA (Below.refl _ _) HB1.out⟩

set_option maxHeartbeats 1000000 in
theorem planKeep_any {w : World} {base kb : Nat} {hv : Value} {es : List EntPlace} {C : Array Value} {cnt x y : Int} {lo : Option Addr} {n lc : Nat} {cs : List Value} (h : KindPlace w base kb hv es) (hb : w.heap[kb]? = some (.cells C 60 (0, 0))) (hc : C[10]? = some hv) (h0 : C[0]? = some (.int .i64 cnt))
    (hcnt : 0 ≤ cnt ∧ cnt ≤ 1000000) (hl : es.length ≤ 1000000) (hown : w.ownsRow base 110 5 (.slice lo n lc) n cs) (hne : ∀ g, (Value.slice lo n lc).ownBlock = some g → hv.ownBlock ≠ some g ∧ g ≠ kb)
    (hlg : ∀ (i g : Nat) e, es[i]? = some e → e.lv.ownBlock = some g → (Value.slice lo n lc).ownBlock ≠ some g) (hbase : base ≤ w.heap.size) :
    Calls Tryz.prog 12 #[.pointer (some ⟨kb, 0, none⟩), .agg #[.int .i64 x, .slice lo n lc, .int .i64 y]] w fun r w' => r = .returned (.tuple #[]) ∧ KeptPlace w w' base kb C cnt hv (es ++ [⟨.slice lo n lc, cnt, n⟩]) := by
  have hal : ∀ o : Obj, Below w.heap.size w (w.alloc o) := fun o => (Below.refl _ _).alloc (Nat.le_refl _) o
  have HK := hidI (fun o => keepPlace_any (h.below (hal o)) (blk (hal o) hb) hc h0 hcnt hl (ownsRow_chg hown (Chg.of_below (S := fun _ => False) (hal o)) (fun _ _ => id)) hne hlg (Nat.le_trans hbase (hal o).size))
  clear h hb hc h0 hcnt hl hown hne hlg hbase
  go_enter Tryz.func12, Tryz.ntmps12
  go_wp2_with fail
  refine (HK.out _).mono ?_
  rintro e w1 ⟨rfl, hv', h1, h2, h3, h4⟩
  have HK1 := hidI (show KeptPlace w w1 base kb C cnt hv (es ++ [⟨.slice lo n lc, cnt, n⟩]) from ⟨hv', h1, h2, (Chg.of_below (hal _)).trans h3, fun g hg => (h4 g hg).imp id (fun q => Nat.le_trans (hal _).size q)⟩)
  clear h1 h2 h3 h4
  go_wp2_with fail
  go_end0
  exact ⟨rfl, HK1.out⟩

end Go.Proofs.YtilkpmjkiohfdaaGreatDoor

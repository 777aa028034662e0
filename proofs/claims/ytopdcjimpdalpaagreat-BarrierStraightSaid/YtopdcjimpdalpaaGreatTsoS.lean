/- Package tso: what New's loop over code wants. -/
import Derived.Test.YtopdcjimpdalpaaGreatTsoQ
namespace Go.Proofs.YtopdcjimpdalpaaGreat
open Go.RowKit
set_option linter.unusedVariables false
set_option linter.unusedSimpArgs false

variable {w w' : World} {base b : Nat} {own own' : Nat → Nat} {mm : MM} {xs : List TX} {mv tv ev : Value}

theorem thInfo2 : (Tryz.prog.info? 184).map (fun i => (i.zero, i.size, i.bytes)) = some (some (.agg #[.slice none 0 0, .int .i64 0, .int .i64 0, .int .i64 0, .int .i64 0, .int .i64 0, .int .i64 0, .int .i64 0, .int .i64 0, .int .i64 0, .pointer none, .slice none 0 0, .int .u8 0]), 13, 136) := by kernel_rfl
/-- a buffer that is new, wherever it lies -/
theorem new_l (w : World) : Calls Tryz.prog 98 #[] w fun e w' => ∃ rb c f, e = .returned (.pointer (some ⟨rb, 0, none⟩)) ∧ Ring w' rb [] c f ∧ Below w.heap.size w w' ∧ w.heap.size ≤ rb := by
  refine (new_any w).mono ?_
  rintro e w' ⟨rfl, rfl⟩
  exact ⟨_, _, _, rfl, ring_new _, (Below.refl _ _).alloc (Nat.le_refl _) _, Nat.le_refl _⟩
/-- Clone of code, as New asks it -/
theorem clone_l {ao : Option Addr} {cap : Nat} {l : List OpD} (h : RdT encOp w 6 (.slice ao l.length cap) l) (hl : l.length ≤ 1000000000) :
    Calls Tryz.prog 97 #[.slice ao l.length cap] w fun e w' => ∃ ao' cp, e = .returned (.slice ao' l.length cp) ∧ RdT encOp w' 6 (.slice ao' l.length cp) l ∧ (∀ g, (Value.slice ao' l.length cp).ownBlock = some g → w.heap.size ≤ g) ∧ Below w.heap.size w w' := by
  refine (cloneOps_any h hl).mono ?_
  rintro e w' ⟨cv, rfl, ho, hb⟩
  obtain ⟨ao', cp, rfl⟩ := ownsRow_shape ho
  exact ⟨_, _, rfl, Rd.of_own ho, fun g hg => (rowLt ho hg).1, hb⟩
theorem own_below {e : TypeId} {sz n : Nat} {v : Value} {l : List Value} (h : w.ownsRow base e sz v n l) (hb : Below w.heap.size w w') : w'.ownsRow base e sz v n l := ownRow_keep h fun g hg hl => hb.block g hl
theorem one_newX (code : List OpD) (ao : Option Addr) (n cp rb : Nat) : ∀ u ∈ encX (newX code (.slice ao n cp) rb), u.oneCell' = true := by
  intro u hu
  simp [encX, newX] at hu
  rcases hu with rfl | rfl | rfl | rfl | rfl | rfl | rfl | rfl | rfl | rfl | rfl | rfl | rfl <;> rfl
/-- what lies ready for a new thread -/
structure Ready (w : World) (x : World) (code : List OpD) (cv : Value) (rb : Nat) : Prop where
  rd : RdT encOp x 6 cv code
  ring : ∃ c f, Ring x rb [] c f
  below : Below w.heap.size w x
  fresh : ∀ g, code ≠ [] → cv.ownBlock = some g → w.heap.size ≤ g ∧ g ≠ rb ∧ g < x.heap.size
  rfresh : w.heap.size ≤ rb
theorem Ready.codeFirst {w a x : World} {code : List OpD} {cv : Value} {rb f : Nat} {c : Array Value} (hs : w.heap.size ≤ a.heap.size) (hcv : RdT encOp a 6 cv code) (hfr : ∀ g, cv.ownBlock = some g → w.heap.size ≤ g) (hb : Below a.heap.size a x) (hr : Ring x rb [] c f) (hge : a.heap.size ≤ rb) (hbx : Below w.heap.size w x) : Ready w x code cv rb :=
  ⟨Rd.below hcv hb, ⟨c, f, hr⟩, hbx, fun g hn hg => ⟨hfr g hg, by have := rdt_lt hcv hn hg; omega, by have := rdt_lt hcv hn hg; have := hb.size; omega⟩, by omega⟩
theorem Ready.ringFirst {w a x : World} {code : List OpD} {cv : Value} {rb f : Nat} {c : Array Value} (hr : Ring a rb [] c f) (hge : w.heap.size ≤ rb) (hs : w.heap.size ≤ a.heap.size) (hcv : RdT encOp x 6 cv code) (hfr : ∀ g, cv.ownBlock = some g → a.heap.size ≤ g) (hb : Below a.heap.size a x) (hbx : Below w.heap.size w x) : Ready w x code cv rb :=
  ⟨hcv, ⟨c, f, hr.keep (hb.block _ hr.lt)⟩, hbx, fun g hn hg => ⟨by have := hfr g hg; omega, by have := hfr g hg; have := hr.lt; omega, rdt_lt hcv hn hg⟩, hge⟩
/-- what New's loop has behind a round -/
theorem MAt.pushed (h : MAt w base b own mm xs mv tv ev) {x w9 : World} {code : List OpD} {ao ao9 : Option Addr} {n cp cp9 rb : Nat} {o : Obj} (hr : Ready w x code (.slice ao n cp) rb)
    (h1 : w9.ownsRow base 184 13 (.slice ao9 (xs.length + 1) cp9) (xs.length + 1) (xs.flatMap encX ++ encX (newX code (.slice ao n cp) rb)))
    (h2 : ∀ g, (Value.slice ao9 (xs.length + 1) cp9).ownBlock = some g → tv.ownBlock = some g ∨ (x.alloc o).heap.size ≤ g) (h3 : (x.alloc o).grownBy w9 tv.ownBlock) :
    MAt (w9.setCell ⟨b, 2, none⟩ (.slice ao9 (xs.length + 1) cp9)) base b (pushT own (.slice ao9 (xs.length + 1) cp9) (.slice ao n cp) code rb xs.length w.heap.size) { mm with ths := mm.ths ++ [MT.new code] } (xs ++ [newX code (.slice ao n cp) rb]) mv (.slice ao9 (xs.length + 1) cp9) ev ∧
      Chg (fun k => k = b ∨ tv.ownBlock = some k) w (w9.setCell ⟨b, 2, none⟩ (.slice ao9 (xs.length + 1) cp9)) := by
  have hsx := hr.below.size
  have hxs : (x.alloc o).heap.size = x.heap.size + 1 := World.size_alloc _ _
  have hg0 : Chg (fun k => tv.ownBlock = some k) w w9 := Chg.grown (S := fun k => tv.ownBlock = some k) ((Chg.of_below hr.below).alloc o) h3 (fun k hk => .inl hk)
  have hgx : Chg (fun k => tv.ownBlock = some k) x w9 := Chg.grown (S := fun k => tv.ownBlock = some k) ((Chg.refl _ x).alloc o) h3 (fun k hk => .inl hk)
  obtain ⟨c, f, hring⟩ := hr.ring
  have htl : ∀ g, tv.ownBlock = some g → g < w.heap.size := fun g hg => (rowLt h.ths hg).2
  refine ⟨h.push hg0 (hr.rd.keepN fun g hn hg hl => hgx.block g hl (fun e => ?_)) (fun g hn hg => (hr.fresh g hn hg).1) (hring.keep (hgx.block _ hring.lt (fun e => ?_))) hr.rfresh ?_ (fun g hg => ?_) (fun g hn hg => ⟨(hr.fresh g hn hg).2.1, fun e => ?_⟩) (fun e => ?_), ?_⟩
  · have := htl g e; have := (hr.fresh g hn hg).1; omega
  · have := htl _ e; have := hr.rfresh; omega
  · rw [List.flatMap_append]
    simpa using h1
  · rcases h2 g hg with e | e
    · exact .inl e
    · exact .inr (by omega)
  · have h5 := hr.fresh g hn hg
    rcases h2 g e with e' | e'
    · have := htl g e'; omega
    · omega
  · have h5 := hring.lt
    have h6 := hr.rfresh
    rcases h2 _ e with e' | e'
    · have := htl _ e'; omega
    · omega
  · exact (hg0.imp (T := fun k => k = b ∨ tv.ownBlock = some k) (fun k _ e => .inr e)).setCell (p := ⟨b, 2, none⟩) (.inl (.inl rfl)) _
end Go.Proofs.YtopdcjimpdalpaaGreat

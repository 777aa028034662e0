/- Package tso: a machine that lives, and its calls, each by one contract. -/
import Derived.Test.YtopdcjimpdalpaaGreatTsoH
import Derived.Test.YtopdcjimpdalpaaGreatTsoR
import Derived.Test.YtopdcjimpdalpaaGreatTsoU
namespace Go.Proofs.YtopdcjimpdalpaaGreat
open Go.RowKit
set_option linter.unusedVariables false
set_option linter.unusedSimpArgs false

variable {w w' : World} {base b : Nat} {own own' : Nat → Nat} {mm : MM} {xs : List TX} {mv tv ev : Value}

def lowT (own : Nat → Nat) (base : Nat) (k : Nat) : Nat := if k < base then 0 else own k
theorem lowT_eq {k : Nat} (h : base ≤ k) : lowT own base k = own k := if_neg (by omega)
theorem MAt.low (h : MAt w base b own mm xs mv tv ev) : MAt w base b (lowT own base) mm xs mv tv ev :=
  ⟨h.blk, ⟨h.bT.1, by rw [lowT_eq h.bT.1]; exact h.bT.2⟩, h.mem, fun g hg => by rw [lowT_eq (rowLt h.mem hg).1]; exact h.memT g hg, h.ths, fun g hg => by rw [lowT_eq (rowLt h.ths hg).1]; exact h.thsT g hg,
    h.evs, fun g hg => by rw [lowT_eq (rowLt h.evs hg).1]; exact h.evsT g hg, h.same, fun i x hx => by
      have ht := h.th i x hx
      exact ⟨ht.code, fun g hn hg => ⟨(ht.codeT g hn hg).1, by rw [lowT_eq (ht.codeT g hn hg).1]; exact (ht.codeT g hn hg).2⟩, ht.ring, ⟨ht.ringT.1, by rw [lowT_eq ht.ringT.1]; exact ht.ringT.2⟩, ht.out, fun g hg => by rw [lowT_eq (rowLt ht.out hg).1]; exact ht.outT g hg⟩,
    fun k hk => by unfold lowT; split <;> first | rfl | exact h.fresh k hk⟩

/-- a machine that lives at b, all its memory at base or above; N steps at most are behind it -/
def MLive (w : World) (base b : Nat) (mm : MM) (N : Nat) : Prop :=
  ∃ own xs mv tv ev, MAt w base b own mm xs mv tv ev ∧ (∀ k, own k ≠ 0 → base ≤ k) ∧ MOk N mm
theorem MLive.of {N : Nat} (h : MAt w base b own mm xs mv tv ev) (hk : MOk N mm) : MLive w base b mm N :=
  ⟨_, _, _, _, _, h.low, fun k hn => by
    rcases Nat.lt_or_ge k base with e | e
    · exact absurd (if_pos e) hn
    · exact e, hk⟩
theorem MLive.below {N : Nat} (h : MLive w base b mm N) (hb : Below w.heap.size w w') : MLive w' base b mm N := by
  obtain ⟨own, xs, mv, tv, ev, hm, hl, hk⟩ := h
  exact ⟨own, xs, mv, tv, ev, hm.below hb, hl, hk⟩
theorem MLive.goes {N' : Nat} {mm' : MM} (hm : MAt w base b own mm xs mv tv ev) (hl : ∀ k, own k ≠ 0 → base ≤ k) (hg : MGoes w base b own mm' w') (hk : MOk N' mm') : MLive w' base b mm' N' ∧ Below base w w' := by
  obtain ⟨⟨own', xs', mv', tv', ev', h', ho⟩, hc⟩ := hg
  refine ⟨⟨own', xs', mv', tv', ev', h', fun k hn => ?_, hk⟩, hc.to_below hm.base_le (fun k e => hl k e.1)⟩
  by_cases e : k < w.heap.size
  · exact hl k (by rw [← ho k e]; exact hn)
  · have := hm.base_le; omega

theorem step_l {N : Nat} (h : MLive w base b mm N) (hN : N < 1000000000) (z : Int) :
    Calls Tryz.prog 63 #[.pointer (some ⟨b, 0, none⟩), .int .i64 z] w fun r w' => r = .returned (.bool (mm.step z).1) ∧ MLive w' base b (mm.step z).2 (N + 1) ∧ Below base w w' := by
  obtain ⟨own, xs, mv, tv, ev, hm, hl, hk⟩ := h
  refine (step_any hm hk hN z).mono ?_
  rintro r w' ⟨rfl, hg⟩
  exact ⟨rfl, MLive.goes hm hl hg (hk.step z)⟩
theorem flush_l {N : Nat} (h : MLive w base b mm N) (z : Int) :
    Calls Tryz.prog 66 #[.pointer (some ⟨b, 0, none⟩), .int .i64 z] w fun r w' => r = .returned (.bool (mm.flush z).1) ∧ MLive w' base b (mm.flush z).2 N ∧ Below base w w' := by
  obtain ⟨own, xs, mv, tv, ev, hm, hl, hk⟩ := h
  refine (flush_any hm hk z).mono ?_
  rintro r w' ⟨rfl, hg⟩
  exact ⟨rfl, MLive.goes hm hl hg (hk.flush z)⟩
theorem seen_l {N : Nat} (h : MLive w base b mm N) (hN : N ≤ 1000000000) :
    Calls Tryz.prog 68 #[.pointer (some ⟨b, 0, none⟩)] w (SeenPost mm w) := by
  obtain ⟨own, xs, mv, tv, ev, hm, hl, hk⟩ := h
  refine seen_any hm (by rw [← ths_len hm.same]; exact hk.four) fun x hx => ?_
  have := hk.th x.th (by rw [hm.same]; exact List.mem_map_of_mem hx)
  exact Nat.le_trans this.out hN
/-- the machine that New makes -/
theorem newM_ok {v : Value} {mem : Int} {l : List (Value × List OpD)} {cs : List (Int × Int)} (h : CodeAt w v l) (hk : checkM mem l cs = 0) : MOk 0 (newM mem (l.map (·.2)) cs) := by
  have h1 := mem_of_check hk
  have h2 := len_of_check hk
  have h3 := ops_of_check hk
  have hlen : (newM mem (l.map (·.2)) cs).mem.length = mem.toNat := by
    show (fillS cs (List.replicate mem.toNat 0)).length = _
    rw [fill_len]; simp
  refine ⟨by rw [hlen]; omega, by simp only [newM, List.length_map]; omega, Nat.le_refl _, fun t ht => ?_⟩
  simp only [newM, List.map_map, List.mem_map, Function.comp] at ht
  obtain ⟨p, hp, rfl⟩ := ht
  refine ⟨by have := count_each h2.2 p hp; simpa [MT.new] using this, fun o ho => ?_, fun c hc => by simp [MT.new] at hc, by simp [MT.new], by simp [MT.new], by simp [MT.new]⟩
  exact OpOk.of (List.all_eq_true.1 (h3.1 p hp) o ho) (h.wf p hp o ho)
end Go.Proofs.YtopdcjimpdalpaaGreat

/- The contract of (*thread).take: an event within an attempt. -/
import Derived.Test.YtilkpmjkiohfdaaGreatDoorHistC
import Derived.Deep.CutRange
import Derived.Deep.RegionLaw
namespace Go.Proofs.YtilkpmjkiohfdaaGreatDoor
set_option linter.unusedVariables false
set_option linter.unusedSimpArgs false
open Go.RowKit

/-- the post of an event within an attempt -/
def TakeMore (x : Ev) (t : Att) (base g : Nat) (dv : Value) (w : World) (e : Ending) (w' : World) : Prop := e = .returned (.tuple #[.pointer none, .bool true]) ∧
  ∃ dv', AttAt w' base g dv' (more x t) ∧ (∀ d, dv'.ownBlock = some d → dv.ownBlock = some d ∨ w.heap.size ≤ d) ∧ Chg (fun j => j = g ∨ dv.ownBlock = some j) w w'

theorem cell_other {w : World} {a p : Addr} {u v : Value} (h : w.cell? a = some v) (hn : a.block ≠ p.block) : (w.setCell p u).cell? a = some v := by
  rw [World.cell?_of_block (w := w) (Below.heap_setCell _ _ _ _ hn)]; exact h

theorem one_ev (x : Ev) : ∀ u ∈ encEv x, u.oneCell' = true := by
  intro u hu
  simp [encEv] at hu
  rcases hu with rfl | rfl | rfl | rfl <;> rfl

set_option maxRecDepth 100000 in
set_option maxHeartbeats 4000000 in
theorem take_in {w : World} {bt o g base : Nat} {T : TypeId} {tc : Array Value} {t : Att} {dv : Value} (x : Ev) (at_ : Nat)
    (hb : w.heap[bt]? = some (.cells tc T (0, 0))) (he : tc[o + 1]? = some (.bool false)) (ho : tc[o]? = some (.pointer (some ⟨g, 0, none⟩))) (hk : 2 ≤ x.k ∧ x.k ≤ 6)
    (hat : AttAt w base g dv t) (_hn : bt ≠ g) (hd : ∀ d, dv.ownBlock = some d → d ≠ g ∧ d ≠ bt) (hlen : t.done.length < 2 ^ 20) (hbase : base ≤ w.heap.size) :
    Calls Tryz.prog 139 #[.pointer (some ⟨bt, o, none⟩), evAgg x, .int .i64 (at_ : Int)] w (TakeMore x t base g dv w) := by
  obtain ⟨hg, hbg, hown⟩ := hat
  have de : (w.alloc (.cells #[.int .i64 x.th, .int .u8 x.k, .int .i64 x.a, .int .i64 x.b] 126)).cell? ⟨bt, o + 1, none⟩ = some (.bool false) := cell_of_block (block_alloc hb) he
  have fe : (w.alloc (.cells #[.int .i64 x.th, .int .u8 x.k, .int .i64 x.a, .int .i64 x.b] 126)).frozen? ⟨bt, o + 1, none⟩ = false := free_of_block (block_alloc hb)
  have dp : (w.alloc (.cells #[.int .i64 x.th, .int .u8 x.k, .int .i64 x.a, .int .i64 x.b] 126)).cell? ⟨bt, o, none⟩ = some (.pointer (some ⟨g, 0, none⟩)) := cell_of_block (block_alloc hb) ho
  have fp : (w.alloc (.cells #[.int .i64 x.th, .int .u8 x.k, .int .i64 x.a, .int .i64 x.b] 126)).frozen? ⟨bt, o, none⟩ = false := free_of_block (block_alloc hb)
  have e7 : (w.alloc (.cells #[.int .i64 x.th, .int .u8 x.k, .int .i64 x.a, .int .i64 x.b] 126)).cell? ⟨g, 7, none⟩ = some dv := cell_of_block (block_alloc hg) rfl
  have e8 : (w.alloc (.cells #[.int .i64 x.th, .int .u8 x.k, .int .i64 x.a, .int .i64 x.b] 126)).frozen? ⟨g, 7, none⟩ = false := free_of_block (block_alloc hg)
  have dp2 : ((w.alloc (.cells #[.int .i64 x.th, .int .u8 x.k, .int .i64 x.a, .int .i64 x.b] 126)).alloc (.cells #[.int .i64 x.th, .int .u8 x.k, .int .i64 x.a, .int .i64 x.b] 126)).cell? ⟨bt, o, none⟩ = some (.pointer (some ⟨g, 0, none⟩)) := cell_of_block (block_alloc (block_alloc hb)) ho
  have e72 : ((w.alloc (.cells #[.int .i64 x.th, .int .u8 x.k, .int .i64 x.a, .int .i64 x.b] 126)).alloc (.cells #[.int .i64 x.th, .int .u8 x.k, .int .i64 x.a, .int .i64 x.b] 126)).cell? ⟨g, 7, none⟩ = some dv := cell_of_block (block_alloc (block_alloc hg)) rfl
  obtain ⟨i0, hi, hz0, hz1, hz2⟩ := info_parts evInfo
  have HB := hidI hb
  have HG := hidI hg
  have HO := hidI ho
  have HW := hidI hown
  clear hb he ho hg hown
  have hlt := lt_of_block HB.out
  have hltg := lt_of_block HG.out
  have hne2 : w.heap.size ≠ g := by omega
  obtain ⟨th, k, a, b⟩ := x
  simp only at hk
  have k1 : (k == 1) = false := by simp; omega
  have k11 : (k != 11) = true := by simp; omega
  have kk : 2 ≤ k := hk.1
  have kk8 : k ≤ 8 := by omega
  have kd : decide (k ≤ 8) = true := decide_eq_true kk8
  have kd2 : decide (2 ≤ k) = true := decide_eq_true kk
  unfold evAgg
  go_enter Tryz.func139, Tryz.ntmps139
  go_upto_if 39 with fail
  go_cut [39] from 41 to 44 (fun v wx => v = .bool true ∧ wx = (w.alloc (.cells #[.int .i64 th, .int .u8 k, .int .i64 a, .int .i64 b] 126)))
  case first =>
    rcases (by omega : k = 2 ∨ k = 3 ∨ k = 4 ∨ k = 5 ∨ k = 6) with rfl | rfl | rfl | rfl | rfl
    all_goals go_wp2_with fail
    all_goals go_meet
    all_goals exact ⟨rfl, rfl⟩
  case rest =>
  obtain ⟨rfl, rfl⟩ := hcut
  go_upto_region 18 with fail
  go_cut [] from 69 to 84 (fun wx => ∃ w2 ao cp, wx = w2.setCell ⟨g, 7, none⟩ (.slice ao (t.done.length + 1) cp) ∧ Hid (w2.heap[g]? = some (.cells (encAtt t dv).toArray 138 (0, 0))) ∧
    Hid (w2.ownsRow base 126 4 (.slice ao (t.done.length + 1) cp) (t.done.length + 1) (t.done.flatMap encEv ++ encEv ⟨th, k, a, b⟩)) ∧
    Hid (∀ d, (Value.slice ao (t.done.length + 1) cp).ownBlock = some d → dv.ownBlock = some d ∨ w.heap.size + 1 + 1 ≤ d) ∧
    Hid (Chg (fun j => dv.ownBlock = some j) w w2))
  case first =>
    go_region_law
    (first | (refine step_append_d (by rfl) (.tmp 79) (.tmp 81) 86 (by rfl) base 126 i0 _ 4 32 Tryz.underlying86 hi hz0 hz1 hz2 rfl (by decide) dv t.done.length (t.done.flatMap encEv) (by simp [Act.eval]) (by exact ownsRow_chg HW.out (((Chg.refl (fun _ => False) w).alloc _).alloc _).drew (fun _ _ => id)) ⟨w.heap.size + 1, 0, none⟩ 1 1 (by decide) (encEv ⟨th, k, a, b⟩) (by simp [Act.eval]) rfl (by exact news_at (block_new2 _ _ _)) (one_ev _) (by unfold maxLen; omega) (by omega) (by simp [World.drew]; omega) ?_; intro ao cp w2 h1 h2 h3; have hgr := hidI (Chg.grown (S := fun k => dv.ownBlock = some k) (Chg.refl _ _) h3 (fun k hk => .inl hk)); have b1 := chgblk hgr.out (block_alloc (block_alloc HB.out)) (fun hk => (hd bt hk).2 rfl); have b2 := chgblk hgr.out (block_alloc (block_alloc HG.out)) (fun hk => (hd g hk).1 rfl); have b3 := chgblk hgr.out (block_alloc (block_new w _)) (fun hk => absurd (HW.out.lt _ hk).2 (Nat.lt_irrefl _)); have s1 := cell_of_block b1 HO.out; have s2 := cell_of_block (o := 0) b3 rfl; have s3 := cell_of_block (o := 1) b3 rfl; have s4 := cell_of_block (o := 2) b3 rfl; have s5 := cell_of_block (o := 3) b3 rfl; have s6 := free_of_block (o := 7) b2; have s7 := cell_of_block (o := 7) b2 rfl; have B2 := hidI b2; have H1 := hidI h1; have H2 := hidI h2; clear b1 b2 b3 h1 h2 h3))
    all_goals go_wp2_with fail
    all_goals go_meet
    all_goals exact ⟨w2, ao, cp, rfl, B2, H1, hidI (fun d hd2 => by
      rcases H2.out d hd2 with h | h
      · exact .inl h
      · exact .inr (by simpa [World.drew] using h)), hidI ((((Chg.refl _ w).alloc _).alloc _).drew.trans hgr.out)⟩
  case rest =>
  obtain ⟨w2, ao, cp, rfl, B2, H1, H2, hgr⟩ := hcut
  go_wp2_with fail
  go_ret2
  have hb2 := block_setCell (o := 7) (.slice ao (t.done.length + 1) cp) B2.out
  refine ⟨rfl, .slice ao (t.done.length + 1) cp, ⟨hb2, hbg, ?_⟩, ?_, ?_⟩
  · have e1 : (more ⟨th, k, a, b⟩ t).done = t.done ++ [⟨th, k, a, b⟩] := rfl
    rw [e1, List.length_append, flat_snoc]
    refine ownsRow_chg H1.out ((Chg.refl (fun j => j = g) w2).setCell (p := ⟨g, 7, none⟩) (.inl rfl) _) (fun d hd2 e => ?_)
    rcases H2.out d hd2 with h | h
    · exact (hd d h).1 e
    · omega
  · intro d hd2
    rcases H2.out d hd2 with h | h
    · exact .inl h
    · exact .inr (by omega)
  · exact ((hgr.out).then_ (Chg.refl (fun _ => False) w2) (fun k _ hk => hk.elim) |>.then_ (Chg.refl (fun _ => False) w2) (fun k _ hk => hk.elim)
      |> fun c => Chg.setCell (p := ⟨g, 7, none⟩) ((Chg.refl (fun j => j = g ∨ dv.ownBlock = some j) w).then_ c (fun k _ hk => .inr hk)) (.inl (.inl rfl)) _)

end Go.Proofs.YtilkpmjkiohfdaaGreatDoor

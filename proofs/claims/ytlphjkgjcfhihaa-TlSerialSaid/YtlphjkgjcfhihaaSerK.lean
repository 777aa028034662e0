/- turnstileref29: Heap.Done. (Written by mkserk.py.) -/
import Derived.Test.YtlphjkgjcfhihaaSerJ
namespace Go.Proofs.Ytlphjkgjcfhihaa
open Go.RowKit
set_option linter.unusedVariables false
set_option linter.unusedSimpArgs false

variable {w w' : World} {base hb : Nat} {v : Value} {cells : List (Int × Int)}

theorem okRd_at {l : List Ev} {f : Int → Int} (h : okRd l f) {k : Nat} {e : Ev} (he : l[k]? = some e) (hk : e.k = 2) : eff (l.take k) f e.a = e.b := by
  have h1 : l = l.take k ++ ([e] ++ l.drop (k + 1)) := by
    rw [← List.append_assoc, ← take_snoc he, List.take_append_drop]
  rw [h1, okRd_app, okRd_app] at h
  exact h.2.1.1 hk
theorem LogOf.put {done : List Ev} (h : LogOf done cells) {e : Ev} (he : e.k = 3) : LogOf (done ++ [e]) (putC cells e.a e.b) := by
  unfold putC
  by_cases hp : place cells e.a < cells.length
  · rw [if_pos hp]; exact h.set he hp
  · rw [if_neg hp]; exact h.more he hp
theorem putC_len (cells : List (Int × Int)) (x y : Int) : (putC cells x y).length ≤ cells.length + 1 := by
  unfold putC
  split
  · rw [List.length_set]; omega
  · rw [List.length_append]; exact Nat.le_refl _

/-- what Done leaves -/
def DonePost (base hb : Nat) (v : Value) (evs : List Ev) (n : Nat) (w w' : World) : Prop := ∃ v' cells, HeapAt w' base hb v' cells ∧ LogOf evs cells ∧ cells.length ≤ n ∧ Chg (fun k => k = hb ∨ v.ownBlock = some k) w w' ∧ ∀ g, v'.ownBlock = some g → v.ownBlock = some g ∨ w.heap.size ≤ g
theorem HeapAt.ge (h : HeapAt w base hb v cells) : ∀ k, (k = hb ∨ v.ownBlock = some k) → base ≤ k := fun k hk => by
  rcases hk with rfl | e
  · exact h.low
  · exact (rowLt h.row e).1

set_option maxRecDepth 100000 in
set_option maxHeartbeats 4000000 in
theorem hdone_any {evs0 done : List Ev} {ao : Option Addr} {cap : Nat} (th kind beg fin clock place' : Int) (wri : Bool) (h : HeapAt w base hb v cells) (hlog : LogOf evs0 cells) (hd : ∀ W, Chg (fun k => k = hb ∨ v.ownBlock = some k) w W → RdT encEv W 4 (.slice ao done.length cap) done)
    (hk : ∀ e ∈ done, e.k = 2 ∨ e.k = 3) (hok : okRd done (eff evs0 (fun _ => 0))) (hlen : cells.length + done.length ≤ 262144) (hbase : base ≤ w.heap.size) :
    Calls Try.prog 23 #[.pointer (some ⟨hb, 0, none⟩), .agg #[.int .i64 th, .int .u8 kind, .int .i64 beg, .int .i64 fin, .int .i64 clock, .int .i64 place', .bool wri, .slice ao done.length cap]] w fun e w' => e = .returned (.bool true) ∧ DonePost base hb v (evs0 ++ done) (cells.length + done.length) w w' := by
  have H := hidI h
  have HLOG := hidI hlog
  have HD := hidI hd
  have HK := hidI hk
  have HOK := hidI hok
  have HLEN := hidI hlen
  have hb0 : Below w.heap.size w (w.alloc (.cells #[.int .i64 th, .int .u8 kind, .int .i64 beg, .int .i64 fin, .int .i64 clock, .int .i64 place', .bool wri, .slice ao done.length cap] 73)) := (Below.refl _ _).alloc (Nat.le_refl _) _
  have HB0 := hidI hb0
  have HX0 := hidI (block_new w (.cells #[.int .i64 th, .int .u8 kind, .int .i64 beg, .int .i64 fin, .int .i64 clock, .int .i64 place', .bool wri, .slice ao done.length cap] 73))
  have HH0 := hidI (h.below hb0)
  have HNS := hidI (show ¬ (w.heap.size = hb ∨ v.ownBlock = some w.heap.size) from by
    rintro (e | e)
    · have := lt_of_block h.blk; omega
    · have := (rowLt h.row e).2; omega)
  have HSB := hidI (show ∀ k, (k = hb ∨ v.ownBlock = some k) → base ≤ k from fun k hk => by
    rcases hk with rfl | e
    · exact h.low
    · exact (rowLt h.row e).1)
  clear h hlog hd hk hok hb0
  go_enter Try.func23, Try.ntmps23
  go_wp2_with fail
  obtain ⟨w1, hw1⟩ : ∃ w1, w1 = w.alloc (.cells #[.int .i64 th, .int .u8 kind, .int .i64 beg, .int .i64 fin, .int .i64 clock, .int .i64 place', .bool wri, .slice ao done.length cap] 73) := ⟨_, rfl⟩
  rw [← hw1] at HB0 HX0 HH0 ⊢
  clear hw1
  have HBB : Hid (∀ W, Chg (fun k => k = hb ∨ v.ownBlock = some k) w1 W → Chg (fun k => k = hb ∨ v.ownBlock = some k) w W) := hidI (fun W hc => Chg.then_ (Chg.of_below HB0.out) hc (fun k _ hk => hk))
  go_loopw [5] (fun i wr => ∃ (k : Nat) (v' : Value) (cs : List (Int × Int)), k ≤ done.length ∧ i = .int .i64 (k : Int) ∧ Hid (HeapAt wr base hb v' cs) ∧ Hid (LogOf (evs0 ++ done.take k) cs ∧ cs.length ≤ cells.length + k) ∧ Hid (Chg (fun k => k = hb ∨ v.ownBlock = some k) w1 wr) ∧ Hid (∀ g, v'.ownBlock = some g → v.ownBlock = some g ∨ w1.heap.size ≤ g)) (fun i _ => ((done.length : Int) - intOf i).toNat)
  case atStart => exact ⟨0, v, cells, by omega, rfl, HH0, hidI ⟨by simpa using HLOG.out, by omega⟩, hidI (Chg.refl _ _), hidI (fun g hg => .inl hg)⟩
  case round =>
    obtain ⟨k, v', cs, hk, rfl, HH, HL, HC, HV⟩ := hrel
    have hx := chgblk HC.out HX0.out HNS.out
    have p7 : wr.cell? ⟨w.heap.size, 7, none⟩ = some (.slice ao done.length cap) := cell_of_block hx rfl
    clear hx
    by_cases hlt : k < done.length
    · obtain ⟨⟨eth, ek, ea, eb⟩, he⟩ := some_at hlt
      obtain ⟨b, off, rfl, hs1, hc⟩ := RdT.at encEv_len (HD.out wr (HBB.out wr HC.out)) he
      have x0 := hc 0 _ rfl
      have x1 := hc 1 _ rfl
      have x2 := hc 2 _ rfl
      have x3 := hc 3 _ rfl
      simp only [Nat.add_zero] at x0
      have hbe : Below wr.heap.size wr (wr.alloc (.cells #[.int .i64 eth, .int .u8 ek, .int .i64 ea, .int .i64 eb] 57)) := (Below.refl _ _).alloc (Nat.le_refl _) _
      have HE := hidI he
      have HTK := hidI (show evs0 ++ done.take (k + 1) = (evs0 ++ done.take k) ++ [⟨eth, ek, ea, eb⟩] from by rw [take_snoc he, List.append_assoc])
      have HHE := hidI (HH.out.below hbe)
      have HCE := hidI (Chg.then_ (S := fun k => k = hb ∨ v.ownBlock = some k) HC.out (Chg.of_below (S := fun k => k = hb ∨ v.ownBlock = some k) hbe) (fun k _ hk => hk))
      have hkk := HK.out _ (List.mem_of_getElem? he)
      simp only at hkk
      have hcl : cs.length ≤ 262144 := by have := HL.out.2; omega
      have hcl2 : cs.length < 262144 := by have := HL.out.2; omega
      clear hc hs1 he
      rcases hkk with rfl | rfl
      · have HY := hidI (show look cs (fun _ => 0) ea = eb from by
          have h1 := okRd_at HOK.out HE.out rfl
          simp only at h1
          rw [← HL.out.1.eff, eff_app]
          exact h1)
        have e2 := fun t => ext_cell (cell_of_block (o := 2) (block_new wr (.cells #[.int .i64 eth, .int .u8 2, .int .i64 ea, .int .i64 eb] 57)) rfl) t
        have e3 := fun t => ext_cell (cell_of_block (o := 3) (block_new wr (.cells #[.int .i64 eth, .int .u8 2, .int .i64 ea, .int .i64 eb] 57)) rfl) t
        have hbz : (eb != eb) = false := by simp
        have HCL := hidI hcl
        clear hbe hcl hcl2
        go_wp2_with fail
        refine wp_region_grow (by kernel_rfl) (by kernel_rfl) ?_
        repeat (go_big_quiet_step ((first | (go_at_call 36; exact grow_of_same (hget_any (HHE.out.below (ext_below _ _)) HCL.out _ HY.out)))))
        refine wpQuiet_nil ?_
        intro wU hbU
        have HHU := hidI (HHE.out.below hbU)
        have HCU := hidI (Chg.then_ (S := fun k => k = hb ∨ v.ownBlock = some k) HCE.out (Chg.of_below (S := fun k => k = hb ∨ v.ownBlock = some k) hbU) (fun k _ hk => hk))
        clear hbU x0 x1 x2 x3 e2 e3 p7
        go_wp2_with fail
        exact ⟨⟨k + 1, v', cs, by omega, by go_num, HHU, hidI ⟨by rw [HTK.out]; exact HL.out.1.read (e := ⟨eth, 2, ea, eb⟩) (by simp), by have := HL.out.2; omega⟩, HCU, HV⟩, by simp [intOf]; omega⟩
      · have HCL := hidI hcl2
        clear hbe hcl hcl2
        go_wp2_with fail
        refine (hput_any HHE.out HCL.out ea eb).mono ?_
        rintro e w2 ⟨rfl, v2, hh2, hc2, hv2⟩
        have HH2 := hidI hh2
        have HC2 := hidI (Chg.then_ (S := fun k => k = hb ∨ v.ownBlock = some k) HCE.out hc2 (fun k hlt hk => by
          rcases hk with e | e
          · exact .inl e
          · rcases HV.out k e with q | q
            · exact .inr q
            · omega))
        have HV2 := hidI (show ∀ g, v2.ownBlock = some g → v.ownBlock = some g ∨ w1.heap.size ≤ g from fun g hg => by
          rcases hv2 g hg with e | e
          · exact HV.out g e
          · have := HCE.out.size; exact .inr (by omega))
        clear hh2 hc2 hv2 x0 x1 x2 x3 p7
        go_wp2_with fail
        exact ⟨⟨k + 1, v2, _, by omega, by go_num, HH2, hidI ⟨by rw [HTK.out]; exact HL.out.1.put (e := ⟨eth, 3, ea, eb⟩) rfl, by have := HL.out.2; have := putC_len cs ea eb; omega⟩, HC2, HV2⟩, by simp [intOf]; omega⟩
    · obtain rfl : k = done.length := by omega
      go_wp2_with fail
      go_ret
      have hl := HL.out
      rw [List.take_length] at hl
      exact ⟨rfl, v', cs, HH.out, hl.1, hl.2, HBB.out _ HC.out, fun g hg => (HV.out g hg).imp id (fun e => by have := HB0.out.size; omega)⟩
end Go.Proofs.Ytlphjkgjcfhihaa

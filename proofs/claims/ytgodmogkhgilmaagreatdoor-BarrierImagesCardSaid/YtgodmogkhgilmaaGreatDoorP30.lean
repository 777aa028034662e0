/- Part of the proof: TsoG5 -/
import Derived.Test.YtgodmogkhgilmaaGreatDoorP27
namespace Go.Proofs.YtgodmogkhgilmaaGreatDoor
open Go.RowKit
set_option linter.unusedVariables false
set_option linter.unusedSimpArgs false
set_option maxHeartbeats 2000000
set_option maxRecDepth 100000
variable {w w' : World} {base b : Nat} {own own' : Nat → Nat} {mm : MM} {xs : List TX} {mv ev : Value} {tb cap n : Nat} {x : TX}
theorem step_dies (h : MAt w base b own mm xs mv (.slice (some ⟨tb, 0, none⟩) xs.length cap) ev) (hx : xs[n]? = some x) (hmem : mm.mem.length ≤ 262144) (hf : x.th.fin = 0) {o : OpD} (hat : 0 ≤ x.th.at_ ∧ x.th.at_ ≤ 262144) (hop : x.th.code[x.th.at_.toNat]? = some o) (hok : OpOk o) (hol : x.th.out.length < 1000000000) (hmo : ¬ ∃ a, x.th.word o = some a ∧ mm.has a = false) (hwt : x.th.waits o = false) (hst : ∃ k, x.th.stops o = some k) (hev : mm.evs.length < 1000000000) (h4 : xs.length ≤ 4) :
    Calls Tryz.prog 194 #[.pointer (some ⟨b, 0, none⟩), .int .i64 (n : Int)] w fun r w' => r = .returned (.bool (mm.go n x.th).1) ∧ MGoes w base b own (mm.go n x.th).2 w' := by
  have hb2 : Below w.heap.size w ((w.alloc (.cells #[.pointer (some ⟨b, 0, none⟩)] 334)).alloc (.cells #[.bool false] 4)) := (((Below.refl w.heap.size w).alloc (Nat.le_refl _) _).alloc (by simp) _)
  have hb3 : Below w.heap.size w (((w.alloc (.cells #[.pointer (some ⟨b, 0, none⟩)] 334)).alloc (.cells #[.bool false] 4)).alloc (.cells #[.pointer (some ⟨tb, n * 13, none⟩)] 363)) := hb2.alloc (by simp; omega) _
  have h2 := h.below hb2
  have h3 := h.below hb3
  have hw0 : own w.heap.size = 0 := h.fresh _ (Nat.le_refl _)
  have hw1 : own (w.heap.size + 1) = 0 := h.fresh _ (by omega)
  have hw2 : own (w.heap.size + 1 + 1) = 0 := h.fresh _ (by omega)
  have kB := block_new ((w.alloc (.cells #[.pointer (some ⟨b, 0, none⟩)] 334)).alloc (.cells #[.bool false] 4)) (.cells #[.pointer (some ⟨tb, n * 13, none⟩)] 363)
  have kA := heap_alloc_new (w.alloc (.cells #[.pointer (some ⟨b, 0, none⟩)] 334)) (.cells #[.bool false] 4)
  simp only [World.size_alloc] at kA kB
  have kA' := (heap_alloc_old ((w.alloc (.cells #[.pointer (some ⟨b, 0, none⟩)] 334)).alloc (.cells #[.bool false] 4)) (.cells #[.pointer (some ⟨tb, n * 13, none⟩)] 363) (show w.heap.size + 1 < _ by simp)).trans kA
  have kC := (heap_alloc_old ((w.alloc (.cells #[.pointer (some ⟨b, 0, none⟩)] 334)).alloc (.cells #[.bool false] 4)) (.cells #[.pointer (some ⟨tb, n * 13, none⟩)] 363) (show w.heap.size < _ by simp; omega)).trans ((heap_alloc_old (w.alloc (.cells #[.pointer (some ⟨b, 0, none⟩)] 334)) (.cells #[.bool false] 4) (show w.heap.size < _ by simp)).trans (heap_alloc_new w (.cells #[.pointer (some ⟨b, 0, none⟩)] 334)))
  have ct : (((w.alloc (.cells #[.pointer (some ⟨b, 0, none⟩)] 334)).alloc (.cells #[.bool false] 4)).alloc (.cells #[.pointer (some ⟨tb, n * 13, none⟩)] 363)).cell? ⟨w.heap.size + 1 + 1, 0, none⟩ = some (.pointer (some ⟨tb, n * 13, none⟩)) := cell_of_block kB rfl
  have cd : (((w.alloc (.cells #[.pointer (some ⟨b, 0, none⟩)] 334)).alloc (.cells #[.bool false] 4)).alloc (.cells #[.pointer (some ⟨tb, n * 13, none⟩)] 363)).cell? ⟨w.heap.size + 1, 0, none⟩ = some (.bool false) := cell_of_block kA' rfl
  have fd : (((w.alloc (.cells #[.pointer (some ⟨b, 0, none⟩)] 334)).alloc (.cells #[.bool false] 4)).alloc (.cells #[.pointer (some ⟨tb, n * 13, none⟩)] 363)).frozen? ⟨w.heap.size + 1, 0, none⟩ = false := free_of_block kA'
  have cm : (((w.alloc (.cells #[.pointer (some ⟨b, 0, none⟩)] 334)).alloc (.cells #[.bool false] 4)).alloc (.cells #[.pointer (some ⟨tb, n * 13, none⟩)] 363)).cell? ⟨w.heap.size, 0, none⟩ = some (.pointer (some ⟨b, 0, none⟩)) := cell_of_block kC rfl
  have e0 := h3.cell hx 0 _ rfl
  rw [Nat.add_zero] at e0
  have e9 := h3.cell hx 9 _ rfl
  have e12 := h3.cell hx 12 _ rfl
  have e12' := h3.cell hx 12 _ rfl
  have HX := hidI hx
  have H := hidI h
  have H2 := hidI h2
  have H3 := hidI h3
  have HB := hidI hb3
  have HW := hidI (And.intro hw0 (And.intro hw1 hw2))
  have HE := hidI hev
  have H4 := hidI h4
  clear hev h4
  have HMO := hidI hmo
  have HWT := hidI hwt
  have HST := hidI hst
  clear hmo hwt hst
  have HO := hidI hol
  clear hol
  have HM := hidI hmem
  clear hmem
  obtain ⟨pl, hpl⟩ := Int.eq_ofNat_of_zero_le hat.1
  rw [hpl] at e9 hop
  simp only [Int.toNat_natCast] at hop
  have hpn := (List.getElem?_eq_some_iff.1 hop).1
  have hcode := (h3.th n x hx).code
  obtain ⟨ao, ccap, hcv⟩ := hcode.shape
  rw [hcv] at e0 hcode
  obtain ⟨cb, co, rfl, hcb, hcc⟩ := RdT.at encOp_len hcode hop
  obtain ⟨ki, cal, ra, rb, rc, num⟩ := o
  have i0 := hcc 0 _ rfl
  have i1 := hcc 1 _ rfl
  have i2 := hcc 2 _ rfl
  have i3 := hcc 3 _ rfl
  have i4 := hcc 4 _ rfl
  have i5 := hcc 5 _ rfl
  rw [Nat.add_zero] at i0
  rw [hf] at e12
  have hd0 : decide ((pl : Int) < 0) = false := decide_eq_false (by omega)
  have hd1 : decide ((x.th.code.length : Int) ≤ (pl : Int)) = false := decide_eq_false (by omega)
  have HPL := hidI hpl
  have HOK := hidI hok
  have HAT := hidI hat
  have HOP := hidI hop
  have HCV := hidI hcv
  clear hcc hcv hcode hcb hpl hok hat hop
  have hmf : ∀ (fn : Fn) (first cap : Array Value) (w : World), (Instr.makeFunc fn first cap).run Tryz.prog w = .ok (.func fn first cap) w := fun _ _ _ _ => rfl
  clear hx h h2 h3 hb2 hb3 kA kB kA' kC hw0 hw1 hw2
  go_enter_defers Tryz.func194, Tryz.ntmps194
  go_wp2_with fail
  refine (of_yes H2.out HX.out).mono ?_
  rintro e w1 ⟨rfl, rfl⟩
  go_wp2_with fail
  generalize (((w.alloc (.cells #[.pointer (some ⟨b, 0, none⟩)] 334)).alloc (.cells #[.bool false] 4)).alloc (.cells #[.pointer (some ⟨tb, n * 13, none⟩)] 363)) = w3 at H3 HB ct cd fd cm e0 e9 e12 e12' i0 i1 i2 i3 i4 i5 ⊢
  go_quiet (fail)
  go_wp2_with fail
  have ct' : (w3.drewN nq).cell? ⟨w.heap.size + 1 + 1, 0, none⟩ = some (.pointer (some ⟨tb, n * 13, none⟩)) := ct
  have cd' : (w3.drewN nq).cell? ⟨w.heap.size + 1, 0, none⟩ = some (.bool false) := cd
  have cm' : (w3.drewN nq).cell? ⟨w.heap.size, 0, none⟩ = some (.pointer (some ⟨b, 0, none⟩)) := cm
  have e0' : (w3.drewN nq).cell? ⟨tb, n * 13, none⟩ = some (.slice (some ⟨cb, co, none⟩) x.th.code.length ccap) := e0
  have e9' : (w3.drewN nq).cell? ⟨tb, n * 13 + 9, none⟩ = some (.int .i64 (pl : Int)) := e9
  have i0' : (w3.drewN nq).cell? ⟨cb, co + pl * 6, none⟩ = some (.int .u8 ki) := i0
  have i1' : (w3.drewN nq).cell? ⟨cb, co + pl * 6 + 1, none⟩ = some (.int .u8 cal) := i1
  have i2' : (w3.drewN nq).cell? ⟨cb, co + pl * 6 + 2, none⟩ = some (.int .u8 ra) := i2
  have i3' : (w3.drewN nq).cell? ⟨cb, co + pl * 6 + 3, none⟩ = some (.int .u8 rb) := i3
  have i4' : (w3.drewN nq).cell? ⟨cb, co + pl * 6 + 4, none⟩ = some (.int .u8 rc) := i4
  have i5' : (w3.drewN nq).cell? ⟨cb, co + pl * 6 + 5, none⟩ = some (.int .i64 num) := i5
  have fd' : (w3.drewN nq).frozen? ⟨w.heap.size + 1, 0, none⟩ = false := fd
  have H5 := hidI (H3.out.drewN nq)
  have HB5 := hidI (below_drewN HB.out nq)
  clear hd0 hd1 fd H3 HB e12 e12' ct cd cm e0 e9 i0 i1 i2 i3 i4 i5
  generalize w3.drewN nq = w5 at H5 HB5 fd' ct' cd' cm' e0' e9' i0' i1' i2' i3' i4' i5' ⊢
  have ct := fun o => cell_allocT ct' o
  have cd := fun o => cell_allocT cd' o
  have cm := fun o => cell_allocT cm' o
  have e0 := fun o => cell_allocT e0' o
  have e9 := fun o => cell_allocT e9' o
  have i0 := fun o => cell_allocT i0' o
  have i1 := fun o => cell_allocT i1' o
  have i2 := fun o => cell_allocT i2' o
  have i3 := fun o => cell_allocT i3' o
  have i4 := fun o => cell_allocT i4' o
  have i5 := fun o => cell_allocT i5' o
  go_region
  go_wp2_with fail
  have f7 : ∀ {a u}, w5.cell? a = some u → ((w5.alloc (.cells #[.int .u8 ki, .int .u8 cal, .int .u8 ra, .int .u8 rb, .int .u8 rc, .int .i64 num] 101)).drew).cell? a = some u := fun h => cell_allocT h _
  have kO := heap_alloc_new w5 (.cells #[.int .u8 ki, .int .u8 cal, .int .u8 ra, .int .u8 rb, .int .u8 rc, .int .i64 num] 101)
  have ct7 := f7 ct'
  have cd7 := f7 cd'
  have cm7 := f7 cm'
  have e97 := f7 e9'
  have fd7 : ((w5.alloc (.cells #[.int .u8 ki, .int .u8 cal, .int .u8 ra, .int .u8 rb, .int .u8 rc, .int .i64 num] 101)).drew).frozen? ⟨w.heap.size + 1, 0, none⟩ = false := frozen_alloc fd' (World.block_lt_of_cell? _ _ cd')
  have hb7 : Below w.heap.size w ((w5.alloc (.cells #[.int .u8 ki, .int .u8 cal, .int .u8 ra, .int .u8 rb, .int .u8 rc, .int .i64 num] 101)).drew) := below_drewN (HB5.out.alloc HB5.out.size _) 1
  have H7 := hidI (H5.out.below ((Below.refl _ _).alloc (Nat.le_refl _) (.cells #[.int .u8 ki, .int .u8 cal, .int .u8 ra, .int .u8 rb, .int .u8 rc, .int .i64 num] 101))).drew
  have HB7 := hidI hb7
  have hpo : w.heap.size + 1 + 1 < w5.heap.size := World.block_lt_of_cell? _ _ ct'
  clear f7 hb7 H5 HB5 fd' ct' cd' cm' e0' e9' i0' i1' i2' i3' i4' i5' ct cd cm e0 e9 i0 i1 i2 i3 i4 i5
  obtain ⟨po, hpo'⟩ : ∃ po, po = w5.heap.size := ⟨_, rfl⟩
  have kO7 : ((w5.alloc (.cells #[.int .u8 ki, .int .u8 cal, .int .u8 ra, .int .u8 rb, .int .u8 rc, .int .i64 num] 101)).drew).heap[po]? = some (.cells #[.int .u8 ki, .int .u8 cal, .int .u8 ra, .int .u8 rb, .int .u8 rc, .int .i64 num] 101) := by rw [hpo']; exact kO
  clear kO
  rw [← hpo'] at hpo ⊢
  generalize (w5.alloc (.cells #[.int .u8 ki, .int .u8 cal, .int .u8 ra, .int .u8 rb, .int .u8 rc, .int .i64 num] 101)).drew = w7 at ct7 cd7 cm7 e97 fd7 H7 HB7 kO7 ⊢
  clear hpo'
  refine (named_any H7.out HX.out HM.out _ HOK.out).mono ?_
  rintro r w8 ⟨hb8, hr⟩
  have f8 : ∀ {a u}, w7.cell? a = some u → w8.cell? a = some u := fun h => (World.cell?_of_block (hb8.block _ (World.block_lt_of_cell? _ _ h))).trans h
  have ct8 := f8 ct7
  have cd8 := f8 cd7
  have cm8 := f8 cm7
  have e98 := f8 e97
  have fd8 : w8.frozen? ⟨w.heap.size + 1, 0, none⟩ = false := frozen_below hb8 (World.block_lt_of_cell? _ _ cd7) fd7
  have kO8 := (hb8.block po (lt_of_block kO7)).trans kO7
  have o0 := cell_of_block (o := 0) kO8 rfl
  have o1 := cell_of_block (o := 1) kO8 rfl
  have o2 := cell_of_block (o := 2) kO8 rfl
  have o3 := cell_of_block (o := 3) kO8 rfl
  have o4 := cell_of_block (o := 4) kO8 rfl
  have o5 := cell_of_block (o := 5) kO8 rfl
  have H8 := hidI (H7.out.below hb8)
  have HB8 := hidI (HB7.out.trans (hb8.mono HB7.out.size))
  clear f8 hb8 ct7 cd7 cm7 e97 fd7 kO7 H7 HB7
  have hr' : (∃ a, r = .returned (.int .i64 a) ∧ (x.th.word ⟨ki, cal, ra, rb, rc, num⟩ = none ∧ a = 0 ∨ x.th.word ⟨ki, cal, ra, rb, rc, num⟩ = some a ∧ mm.has a = true)) ∨ (∃ a, r = .panicked [tfault 8] ∧ x.th.word ⟨ki, cal, ra, rb, rc, num⟩ = some a ∧ mm.has a = false) := by
    rcases hr with ⟨h1, h2⟩ | ⟨a, h1, ⟨h2, h3⟩ | ⟨h2, h3⟩⟩
    · exact .inl ⟨0, h2, .inl ⟨h1, rfl⟩⟩
    · exact .inl ⟨a, h3, .inr ⟨h1, h2⟩⟩
    · exact .inr ⟨a, h3, h1, h2⟩
  clear hr
  rcases hr' with ⟨a, rfl, hwd⟩ | ⟨a, rfl, hwd⟩
  · have HGO := hidI (go_ok (n := n) (t := x.th) (o := ⟨ki, cal, ra, rb, rc, num⟩) (mm := mm) HAT.out.1 (by rw [HPL.out]; exact HOP.out) hwd)
    have HHAS := hidI (word_has hwd)
    clear hwd
    go_wp2_with fail
    refine (waits_any H8.out HX.out _ HOK.out).mono ?_
    rintro r w9 ⟨rfl, hb9⟩
    clear o0 o1 o2 o3 o4 o5
    have f9 : ∀ {a u}, w8.cell? a = some u → w9.cell? a = some u := fun h => (World.cell?_of_block (hb9.block _ (World.block_lt_of_cell? _ _ h))).trans h
    have ct9 := f9 ct8
    have cd9 := f9 cd8
    have cm9 := f9 cm8
    have e99 := f9 e98
    have fd9 : w9.frozen? ⟨w.heap.size + 1, 0, none⟩ = false := frozen_below hb9 (World.block_lt_of_cell? _ _ cd8) fd8
    have kO9 := (hb9.block po (lt_of_block kO8)).trans kO8
    have o0 := cell_of_block (o := 0) kO9 rfl
    have o1 := cell_of_block (o := 1) kO9 rfl
    have o2 := cell_of_block (o := 2) kO9 rfl
    have o3 := cell_of_block (o := 3) kO9 rfl
    have o4 := cell_of_block (o := 4) kO9 rfl
    have o5 := cell_of_block (o := 5) kO9 rfl
    have H9 := hidI (H8.out.below hb9)
    have HB9 := hidI (HB8.out.trans (hb9.mono HB8.out.size))
    clear f9 hb9 ct8 cd8 cm8 e98 fd8 kO8 H8 HB8
    have hwt := HWT.out
    rw [hwt]
    rw [hwt] at HGO
    go_wp2_with fail
    obtain ⟨F, hF, hcf, hdo⟩ := work_fn _ HOK.out
    have HDO := hidI hdo
    have g0 := fun t => ext_cell o0 t
    have hix := index_works HOK.out.kind hF
    clear hdo
    refine wp_region_grow (by kernel_rfl) (by kernel_rfl) ?_
    repeat (go_big_quiet_step ((first | (go_at_call 232; exact grow_of (works_any _)))))
    refine wpQuiet_nil ?_
    intro w10 hb10
    clear o0 o1 o2 o3 o4 o5 g0 hix
    have f10 : ∀ {a u}, w9.cell? a = some u → w10.cell? a = some u := fun h => (World.cell?_of_block (hb10.block _ (World.block_lt_of_cell? _ _ h))).trans h
    have ct10 := f10 ct9
    have cd10 := f10 cd9
    have cm10 := f10 cm9
    have e9q := f10 e99
    have fd10 : w10.frozen? ⟨w.heap.size + 1, 0, none⟩ = false := frozen_below hb10 (World.block_lt_of_cell? _ _ cd9) fd9
    have kO10 := (hb10.block po (lt_of_block kO9)).trans kO9
    have o0 := cell_of_block (o := 0) kO10 rfl
    have o1 := cell_of_block (o := 1) kO10 rfl
    have o2 := cell_of_block (o := 2) kO10 rfl
    have o3 := cell_of_block (o := 3) kO10 rfl
    have o4 := cell_of_block (o := 4) kO10 rfl
    have o5 := cell_of_block (o := 5) kO10 rfl
    have H10 := hidI (H9.out.below hb10)
    have HB10 := hidI (HB9.out.trans (hb10.mono HB9.out.size))
    clear f10 hb10 ct9 cd9 cm9 e99 fd9 kO9 H9 HB9
    go_wp2_with fail
    have CD10 := hidI cd10
    have HAT10 := hidI H10.out.drew
    have FD10 := hidI fd10
    have hop : own po = 0 := H.out.fresh po (by omega)
    have htd : ¬ w.heap.size + 1 = tb := fun e => by
      have h1 := HW.out.2.1
      rw [e, H.out.thsT tb rfl] at h1; cases h1
    have HTD := hidI htd
    clear htd
    obtain ⟨k, hst⟩ := HST.out
    have HP : ∀ (tm : Array Value) (w11 : World), tm.getD 4 undef = .pointer (some ⟨w.heap.size + 1, 0, none⟩) → Below w10.drew.heap.size w10.drew w11 → mm.act n x.th ⟨ki, cal, ra, rb, rc, num⟩ a = mm.stop n x.th k → 1 ≤ k ∧ k < 256 →
        bodyPostD Tryz.prog Tryz.f194 (fun r w' => r = .returned (.bool (mm.go n x.th).1) ∧ MGoes w base b own (mm.go n x.th).2 w') (.panic [tfault k]) { tmps := tm, defers := [{ target := .fn (.func 228) #[.pointer (some ⟨w.heap.size + 1 + 1, 0, none⟩), .pointer (some ⟨w.heap.size + 1, 0, none⟩), .pointer (some ⟨w.heap.size, 0, none⟩)], args := #[] }] } w11 := by
      intro tm w11 htm hb11 hact hk1
      have H11 := H10.out.drew.below hb11
      have HB11 := (HB10.out.drew).trans (hb11.mono HB10.out.size)
      have q11 : ∀ {p u}, w10.cell? ⟨p, 0, none⟩ = some u → w11.cell? ⟨p, 0, none⟩ = some u := fun h => (World.cell?_of_block (w := w10) (hb11.block _ (World.block_lt_of_cell? w10 _ h))).trans h
      have fd11 : w11.frozen? ⟨w.heap.size + 1, 0, none⟩ = false := frozen_below hb11 (World.block_lt_of_cell? w10 _ cd10) fd10
      have HGO2 : mm.go n x.th = (true, mm.stop n x.th k) := HGO.out.trans (by rw [if_neg (by simp), hact])
      refine leaves_cons (f := 228) (args := #[.pointer (some ⟨w.heap.size + 1 + 1, 0, none⟩), .pointer (some ⟨w.heap.size + 1, 0, none⟩), .pointer (some ⟨w.heap.size, 0, none⟩)]) (by simp) (by simp [go_sem]) ?_
      refine (catch_ends (w := w11) H11 HX.out HE.out H4.out k hk1 (q11 ct10) (q11 cd10) fd11 (q11 cm10) HW.out.2.2 HW.out.2.1 HW.out.1 (by omega) (by omega)).mono ?_
      rintro e u' w4 ⟨rfl, rfl, hd, ⟨own2, ev2, hm, ho⟩, hc⟩
      have hs := HB11.size
      refine ⟨.bool true, ?_, by rw [HGO2], ⟨own2, _, mv, _, ev2, by rw [HGO2]; exact hm, fun k hk => ho k (by omega)⟩, Chg.then_ (Chg.of_below HB11) hc (fun k hk e => by
        rcases e with e | e
        · omega
        · exact e)⟩
      have htm' : tm[4]?.getD undef = .pointer (some ⟨w.heap.size + 1, 0, none⟩) := by simpa using htm
      simp [results, Tryz.results194, htm', hd, go_sem]
    have HP := hidI HP
    clear cd10 fd10 kO10 e9q HGO H10 HB10 hop
    refine wp_region_held_drew (S := fun w' => w' = w10.drew) (by kernel_rfl) rfl (fun hHeld => ?_)
    refine wpAnyH_take (i := 0) (v := ?_) rfl (by kernel_rfl) (by kernel_rfl) (by kernel_rfl) (calm (by decide)) (Or.inl ⟨by rfl, ?_⟩) hHeld ?_
    rotate_left
    · intro w' hSw
      subst hSw
      go_simp
      try with_reducible rfl
    try simp only [Act.put, List.setIfInBounds_toArray, List.set_cons_zero, List.set_cons_succ]
    refine wpAnyH_take (i := 1) (v := ?_) rfl (by kernel_rfl) (by kernel_rfl) (by kernel_rfl) (calm (by decide)) (Or.inl ⟨by rfl, ?_⟩) hHeld ?_
    rotate_left
    · intro w' hSw
      subst hSw
      go_simp
      try with_reducible rfl
    try simp only [Act.put, List.setIfInBounds_toArray, List.set_cons_zero, List.set_cons_succ]
    refine wpAnyH_take (i := 2) (v := ?_) rfl (by kernel_rfl) (by kernel_rfl) (by kernel_rfl) (calm (by decide)) (Or.inl ⟨by rfl, ?_⟩) hHeld ?_
    rotate_left
    · intro w' hSw
      subst hSw
      go_simp
      try with_reducible rfl
    try simp only [Act.put, List.setIfInBounds_toArray, List.set_cons_zero, List.set_cons_succ]
    refine wpAnyH_take (i := 3) (v := ?_) rfl (by kernel_rfl) (by kernel_rfl) (by kernel_rfl) (calm (by decide)) (Or.inl ⟨by rfl, ?_⟩) hHeld ?_
    rotate_left
    · intro w' hSw
      subst hSw
      go_simp
      try with_reducible rfl
    try simp only [Act.put, List.setIfInBounds_toArray, List.set_cons_zero, List.set_cons_succ]
    refine wpAnyH_take (i := 4) (v := ?_) rfl (by kernel_rfl) (by kernel_rfl) (by kernel_rfl) (calm (by decide)) (Or.inl ⟨by rfl, ?_⟩) hHeld ?_
    rotate_left
    · intro w' hSw
      subst hSw
      go_simp
      try with_reducible rfl
    try simp only [Act.put, List.setIfInBounds_toArray, List.set_cons_zero, List.set_cons_succ]
    refine wpAnyH_take (i := 5) (v := ?_) rfl (by kernel_rfl) (by kernel_rfl) (by kernel_rfl) (calm (by decide)) (Or.inl ⟨by rfl, ?_⟩) hHeld ?_
    rotate_left
    · intro w' hSw
      subst hSw
      go_simp
      try with_reducible rfl
    try simp only [Act.put, List.setIfInBounds_toArray, List.set_cons_zero, List.set_cons_succ]
    refine wpAnyH_ready (rs := [6]) (by kernel_rfl) (by simp) ?_
    refine AllReadyH.cons rfl (fun K hK => ?_) AllReadyH.nil
    go_simp
    refine (HDO.out w10.drew base b own mm xs mv ev tb cap n x a ⟨HAT10.out, HX.out, HAT.out, HHAS.out, fun hk => wait_room hk hwt, HO.out, HE.out, H4.out⟩).mono ?_
    rintro r w11 hp
    rcases hp with ⟨h0, -⟩ | ⟨k', hk, rfl, hb11, hact, hk1⟩
    · cases hst.symm.trans h0
    · cases hst.symm.trans hk
      exact HP.out _ _ rfl hb11 hact hk1
  · exact absurd ⟨a, hwd⟩ HMO.out
end Go.Proofs.YtgodmogkhgilmaaGreatDoor

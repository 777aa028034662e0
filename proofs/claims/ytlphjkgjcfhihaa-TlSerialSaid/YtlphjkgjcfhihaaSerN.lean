/- turnstileref30: Check. (Written by mksern.py.) -/
import Derived.Test.YtlphjkgjcfhihaaSerM
import Derived.Deep.RegionHeld3
namespace Go.Proofs.Ytlphjkgjcfhihaa
open Go.RowKit
set_option linter.unusedVariables false
set_option linter.unusedSimpArgs false

variable {w w' : World}

set_option maxRecDepth 100000 in
set_option maxHeartbeats 16000000 in
theorem check30_any {ao : Option Addr} {cap : Nat} {ps : List (Att × Value)} (h : AttsR w (.slice ao ps.length cap) ps) (hf : ∀ p ∈ ps, AttFine p.1) (hinc : ∀ (j : Nat) a b, ps[j]? = some a → ps[j + 1]? = some b → a.1.beg < b.1.beg) (hlen : ps.length ≤ 262144) (htot : dsum ps ≤ 131072) (hok : OkSnap (ps.map Prod.fst)) :
    Calls Try.prog 9 #[.slice ao ps.length cap] w fun e w' => e = .returned (.tuple #[.int .i64 0, .int .i64 0]) ∧ Below w.heap.size w w' := by
  have H := hidI h
  have HOK := hidI hok
  have HF := hidI hf
  have HI := hidI hinc
  have HT := hidI htot
  have HLEN := hidI hlen
  have HKS := hidI (show ∀ p ∈ ps, ∀ e ∈ p.1.done, e.k = 2 ∨ e.k = 3 from fun p hp e he => ((hf p hp).evs e he).2.2.2)
  have HAS := hidI (show asum (ps.map Prod.fst) ≤ 131072 from by
    have : asum (ps.map Prod.fst) = dsum ps := by unfold asum dsum; rw [List.map_map]; rfl
    omega)
  clear h hok hf hinc htot
  go_enter Try.func9, Try.ntmps9
  go_wp2_with fail
  refine (may_any H.out HF.out HI.out hlen (by have := HT.out; omega)).mono ?_
  rintro e w1 ⟨rfl, hb⟩
  have HB1 := hidI hb
  clear hb
  go_wp2_with fail
  refine (sorted_any (H.out.below HB1.out) hlen).mono ?_
  rintro e w2 ⟨oo, oc, rfl, ho, hb⟩
  have HORD := hidI (show RdT encZ w2 1 (.slice oo (sortI (ps.map Prod.fst)).length oc) (zs (sortI (ps.map Prod.fst))) from by have := ho.rd; rw [zs_len] at this; exact this)
  have HB2 := hidI (bnext HB1.out hb)
  have hnl := sortN_len (ps.map Prod.fst) (ps.map Prod.fst).length
  rw [List.length_map] at hnl
  have HN2 := hidI (show (sortI (ps.map Prod.fst)).length ≤ 262144 from by unfold sortI; rw [List.length_map]; omega)
  have HIN := hidI (show ∀ j ∈ sortI (ps.map Prod.fst), j < ps.length from fun j hj => by have := sortN_lt _ _ j hj; rw [List.length_map] at this; exact this)
  have HSS := hidI (show asum ((sortI (ps.map Prod.fst)).map (attN (ps.map Prod.fst))) ≤ 131072 from by rw [sortI_map]; exact Nat.le_trans (asum_sort _) HAS.out)
  obtain ⟨ord, hord⟩ : ∃ ord, ord = sortI (ps.map Prod.fst) := ⟨_, rfl⟩
  have HORDE := hidI hord
  rw [← hord] at HORD HN2 HIN HSS ⊢
  clear ho hb hnl hord
  go_wp2_with fail
  go_loopw [6] (fun i wr => ∃ n : Nat, n ≤ ps.length ∧ i = .int .i64 (n : Int) ∧ Hid (Below w2.heap.size w2 wr)) (fun i _ => ((ps.length : Int) - intOf i).toNat)
  case atStart => exact ⟨0, by omega, rfl, hidI (Below.refl _ _)⟩
  case round =>
    obtain ⟨n, hn, rfl, HW⟩ := hrel
    by_cases hlt : n < ps.length
    · obtain ⟨⟨x, dv⟩, hx⟩ := some_at hlt
      have HX := hidI hx
      have HAW := hidI (H.out.below (HB2.out.trans (HW.out.mono HB2.out.size)))
      have HOW := hidI (Rd.below HORD.out HW.out)
      obtain ⟨dao, dcap, hdv⟩ := Rd.shape (HAW.out.evs _ (List.mem_of_getElem? hx))
      simp only at hdv
      subst hdv
      have HEV := hidI (show ∀ W, Below wr.heap.size wr W → RdT encEv W 4 (.slice dao x.done.length dcap) x.done from fun W hW => Rd.below (HAW.out.evs _ (List.mem_of_getElem? hx)) hW)
      have HKI := hidI (HKS.out _ (List.mem_of_getElem? hx))
      have hmem : x ∈ ps.map Prod.fst := List.mem_map_of_mem (List.mem_of_getElem? hx)
      have HRE := hidI (show ∀ p ∈ ps, p.1.kind = 1 → p.1.fin < x.beg → p.1.place ≤ x.clock from fun p hp h1 h2 => HOK.out.real _ (List.mem_map_of_mem hp) x hmem h1 h2)
      have hsn := HOK.out.snap n x (by rw [List.getElem?_map, hx]; rfl)
      rw [← HORDE.out] at hsn
      have HSN := hidI hsn
      have hdl : x.done.length ≤ 131072 := by
        obtain ⟨l1, l2, e⟩ := List.append_of_mem hmem
        have := HAS.out
        rw [e, asum_app, asum_cons] at this
        omega
      have HDL := hidI hdl
      obtain ⟨b, off, rfl, hs1, hc⟩ := RdT.at (enc := enc2) enc2_len HAW.out.row hx
      have HCE := hidI hc
      obtain ⟨th, kind, beg, fin, clock, place', wri, done⟩ := x
      simp only at HEV HKI HRE HSN HDL hdl
      have HFA : Hid (∀ W, Below wr.heap.size wr W → W.cell? ⟨b, off + n * 8, none⟩ = some (.int .i64 th) ∧ W.cell? ⟨b, off + n * 8 + 1, none⟩ = some (.int .u8 kind) ∧ W.cell? ⟨b, off + n * 8 + 2, none⟩ = some (.int .i64 beg) ∧ W.cell? ⟨b, off + n * 8 + 3, none⟩ = some (.int .i64 fin) ∧ W.cell? ⟨b, off + n * 8 + 4, none⟩ = some (.int .i64 clock) ∧ W.cell? ⟨b, off + n * 8 + 5, none⟩ = some (.int .i64 place') ∧ W.cell? ⟨b, off + n * 8 + 6, none⟩ = some (.bool wri) ∧ W.cell? ⟨b, off + n * 8 + 7, none⟩ = some (.slice dao done.length dcap)) := hidI (fun W hW => ⟨cell_later hW (by have := HCE.out 0 _ rfl; rw [Nat.add_zero] at this; exact this), cell_later hW (HCE.out 1 _ rfl), cell_later hW (HCE.out 2 _ rfl), cell_later hW (HCE.out 3 _ rfl), cell_later hW (HCE.out 4 _ rfl), cell_later hW (HCE.out 5 _ rfl), cell_later hW (HCE.out 6 _ rfl), cell_later hW (HCE.out 7 _ rfl)⟩)
      have HU := hidI (Below.refl wr.heap.size wr)
      clear hc hs1 hx hmem hdl hsn
      go_wp2_with fail
      go_region_held3 (fun W => W.cell? ⟨b, off + n * 8, none⟩ = some (.int .i64 th) ∧ W.cell? ⟨b, off + n * 8 + 1, none⟩ = some (.int .u8 kind) ∧ W.cell? ⟨b, off + n * 8 + 2, none⟩ = some (.int .i64 beg) ∧ W.cell? ⟨b, off + n * 8 + 3, none⟩ = some (.int .i64 fin) ∧ W.cell? ⟨b, off + n * 8 + 4, none⟩ = some (.int .i64 clock) ∧ W.cell? ⟨b, off + n * 8 + 5, none⟩ = some (.int .i64 place') ∧ W.cell? ⟨b, off + n * 8 + 6, none⟩ = some (.bool wri) ∧ W.cell? ⟨b, off + n * 8 + 7, none⟩ = some (.slice dao done.length dcap)) (refine HFA.out _ ?_ <;> first | exact HU3.out | exact HU2.out | exact HU1.out | exact HU.out.drew | exact HU.out) (first
        | (go_at_call 23; refine (hdone_any th kind beg fin clock place' wri HH2.out HL2.out.1 (fun W hW => HEV.out W (HU2.out.trans ((hW.to_below HU12.out.size HH2.out.ge).mono HU1.out.size))) HKI.out HSN.out (by have := HL2.out.2; have := HSS.out; have := HDL.out; omega) HU12.out.size).mono ?_; rintro e u3 ⟨rfl, v3, c3, hh3, hl3, hn3, hc3, hv3⟩; have HU3 : Hid (Below wr.heap.size wr u3) := hidI (HU2.out.trans ((hc3.to_below HU12.out.size HH2.out.ge).mono HU1.out.size)); clear hh3 hl3 hn3 hc3 hv3; dsimp only)
        | (go_at_call 25; refine (before_any (HAW.out.below HU1.out) (Rd.below HOW.out HU1.out) HX.out HLEN.out HN2.out HIN.out HKS.out HSS.out).mono ?_; rintro e u2 ⟨hb2, v2, c2, rfl, hh2, hl2, hn2, hb9⟩; have HH2 := hidI hh2; have HL2 := hidI (And.intro hl2 hn2); have HU12 := hidI hb9; have HU2 : Hid (Below wr.heap.size wr u2) := hidI (HU1.out.trans (hb9.mono HU1.out.size)); clear hh2 hl2 hn2 hb9; dsimp only)
        | (go_at_call 24; refine (fresh_any (HAW.out.below (Below.refl wr.heap.size wr).drew) HX.out HLEN.out HRE.out).mono ?_; rintro e u1 ⟨rfl, hb9⟩; have HU1 : Hid (Below wr.heap.size wr u1) := hidI ((Below.refl wr.heap.size wr).drew.trans hb9); clear hb9; dsimp only))
      go_wp2_with fail
      exact ⟨⟨n + 1, by omega, by go_num, hidI (HW.out.trans (HU3.out.mono HW.out.size))⟩, by simp [intOf]; omega⟩
    · obtain rfl : n = ps.length := by omega
      go_wp2_with fail
      go_ret2
      exact ⟨rfl, HB2.out.trans (HW.out.mono HB2.out.size)⟩
end Go.Proofs.Ytlphjkgjcfhihaa

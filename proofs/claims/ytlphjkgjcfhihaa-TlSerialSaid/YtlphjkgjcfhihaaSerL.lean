/- turnstileref29: Check. (Written by mkserl.py.) -/
import Derived.Test.YtlphjkgjcfhihaaSerI
import Derived.Test.YtlphjkgjcfhihaaSerK
namespace Go.Proofs.Ytlphjkgjcfhihaa
open Go.RowKit
set_option linter.unusedVariables false
set_option linter.unusedSimpArgs false

variable {w w' : World}

def asum (l : List Att) : Nat := (l.map (fun a => a.done.length)).sum
theorem asum_app (l m : List Att) : asum (l ++ m) = asum l + asum m := by unfold asum; rw [List.map_append, List.sum_append]
theorem asum_cons (a : Att) (l : List Att) : asum (a :: l) = a.done.length + asum l := by simp [asum]
theorem asum_ins (a : Att) (l : List Att) : asum (insA a l) = a.done.length + asum l := by
  unfold insA
  rw [asum_app, asum_cons]
  conv => rhs; rw [← List.take_append_drop (posTo a l l.length) l, asum_app]
  omega
theorem asum_sort (l : List Att) : asum (sortA l) ≤ asum l := by
  have : ∀ (l sa : List Att), asum (l.foldl stepA sa) ≤ asum sa + asum l := fun l => by
    induction l with
    | nil => intro sa; exact Nat.le_add_right _ _
    | cons a l ih =>
      intro sa
      rw [List.foldl_cons, asum_cons]
      have h1 := ih (stepA sa a)
      have h2 : asum (stepA sa a) ≤ asum sa + a.done.length := by
        unfold stepA
        split
        · rw [asum_ins]; omega
        · omega
      omega
  have := this l []
  simpa [sortA, asum] using this
theorem asum_take (l : List Att) (k : Nat) : asum (l.take k) ≤ asum l := by
  conv => rhs; rw [← List.take_append_drop k l, asum_app]
  omega
theorem asum_next {l : List Att} {k : Nat} {a : Att} (h : l[k]? = some a) : asum (l.take (k + 1)) = asum (l.take k) + a.done.length := by
  rw [take_snoc h, asum_app]
  simp [asum]

theorem placed29 (th kind beg fin clock place' : Int) (wri : Bool) (da : Value) (h1 : wri = true → clock < place') (h2 : wri = false → place' = clock) :
    Calls Try.prog 22 #[.agg #[.int .i64 th, .int .u8 kind, .int .i64 beg, .int .i64 fin, .int .i64 clock, .int .i64 place', .bool wri, da]] w fun e w' => e = .returned (.bool true) ∧ Below w.heap.size w w' :=
  placed_any ⟨th, kind, beg, fin, clock, place', wri, []⟩ da h1 h2

/-- what the document asks of the order -/
structure OkSer (l : List Att) : Prop where
  placed : ∀ (i : Nat) x, (sortA l)[i]? = some x → (x.writer = true → x.clock < x.place) ∧ (x.writer = false → x.place = x.clock)
  places : ∀ (i : Nat) x y, (sortA l)[i]? = some x → (sortA l)[i + 1]? = some y → x.writer = true → y.writer = true → x.place ≠ y.place
  later : ∀ (i k : Nat) x y, (sortA l)[i]? = some x → (sortA l)[k]? = some y → i < k → ¬ y.fin < x.beg
  reads : ∀ (i : Nat) x, (sortA l)[i]? = some x → okRd x.done (((sortA l).take i).foldl done1 (fun _ => 0))
  kinds : ∀ a ∈ l, ∀ e ∈ a.done, e.k = 2 ∨ e.k = 3
  sum : asum l ≤ 262144
theorem SerH.okSer {evs : List Ev} {s : HS} {cw : List Att} {W : Int} {m : Nat} (h : SerH evs s cw W m) (hs : asum s.atts ≤ 262144) : OkSer s.atts :=
  ⟨fun i x hx => h.placed (List.mem_of_getElem? hx), fun i x y hx hy h1 h2 => h.places hx hy h1 h2, fun i k x y hx hy hik => h.later hx hy hik, fun i x hx => h.serial hx, fun a ha e he => ((h.att a ha).evs e he).1, hs⟩

/-- an attempt of the order, where it lies -/
theorem ord_at {ps : List (Att × Value)} {i j : Nat} (hj : (sortI (ps.map Prod.fst))[i]? = some j) : ∃ p, ps[j]? = some p ∧ (sortA (ps.map Prod.fst))[i]? = some p.1 := by
  have hlt : j < (ps.map Prod.fst).length := sortN_lt _ _ j (List.mem_of_getElem? hj)
  rw [List.length_map] at hlt
  obtain ⟨p, hp⟩ := some_at hlt
  refine ⟨p, hp, ?_⟩
  rw [← sortI_map, List.getElem?_map, hj]
  unfold attN
  rw [Option.map_some, List.getElem?_map, hp]
  rfl

set_option maxRecDepth 100000 in
set_option maxHeartbeats 16000000 in
theorem check29_any {ao : Option Addr} {cap : Nat} {ps : List (Att × Value)} (h : AttsR w (.slice ao ps.length cap) ps) (hf : ∀ p ∈ ps, AttFine p.1) (hinc : ∀ (j : Nat) a b, ps[j]? = some a → ps[j + 1]? = some b → a.1.beg < b.1.beg) (hlen : ps.length ≤ 262144) (htot : dsum ps ≤ 262144) (hok : OkSer (ps.map Prod.fst)) :
    Calls Try.prog 8 #[.slice ao ps.length cap] w fun e w' => e = .returned (.tuple #[.int .i64 0, .int .i64 0]) ∧ Below w.heap.size w w' := by
  have H := hidI h
  have HOK := hidI hok
  have HF := hidI hf
  have HI := hidI hinc
  have HT := hidI htot
  have HLEN := hidI hlen
  clear h hok hf hinc htot
  go_enter Try.func8, Try.ntmps8
  go_wp2_with fail
  refine (may_any H.out HF.out HI.out hlen HT.out).mono ?_
  rintro e w1 ⟨rfl, hb⟩
  have HB1 := hidI hb
  clear hb
  go_wp2_with fail
  refine (sorted_any (H.out.below HB1.out) hlen).mono ?_
  rintro e w2 ⟨oo, oc, rfl, ho, hb⟩
  have HORD := hidI ho.rd
  have HB2 := hidI (bnext HB1.out hb)
  have hnl := sortN_len (ps.map Prod.fst) (ps.map Prod.fst).length
  rw [List.length_map] at hnl
  obtain ⟨n, hn⟩ : ∃ n, n = (sortI (ps.map Prod.fst)).length := ⟨_, rfl⟩
  have hn2 : n ≤ 262144 := by
    rw [hn]; unfold sortI; rw [List.length_map]; omega
  have HN := hidI hn
  have hzl : (zs (sortI (ps.map Prod.fst))).length = n := by rw [zs_len, ← hn]
  have HZL := hidI hzl
  rw [← hn]
  clear ho hb hn hnl hzl
  go_wp2_with fail
  have HA2 := hidI (H.out.below HB2.out)
  have HH3 := hidI (show HeapAt (w2.alloc (.cells #[.slice none 0 0] 70)) w2.heap.size w2.heap.size (.slice none 0 0) [] from ⟨block_new _ _, Nat.le_refl _, World.ownsRow_nil _ _ _ _, fun g hg => by simp [Value.ownBlock] at hg⟩)
  have HB3 : Hid (Below w2.heap.size w2 (w2.alloc (.cells #[.slice none 0 0] 70))) := hidI ((Below.refl _ _).alloc (Nat.le_refl _) _)
  generalize w2.alloc (.cells #[.slice none 0 0] 70) = w3 at HH3 HB3 ⊢
  go_loopw [7] (fun i wr => ∃ (k : Nat) (v : Value) (cells : List (Int × Int)), k ≤ n ∧ i = .int .i64 (k : Int) ∧ Hid (HeapAt wr w2.heap.size w2.heap.size v cells) ∧ Hid (LogOf (((sortA (ps.map Prod.fst)).take k).flatMap Att.done) cells ∧ cells.length ≤ asum ((sortA (ps.map Prod.fst)).take k)) ∧ Hid (Below w2.heap.size w2 wr)) (fun i _ => ((n : Int) - intOf i).toNat)
  case atStart => exact ⟨0, _, [], by omega, rfl, HH3, hidI ⟨LogOf.nil, Nat.zero_le _⟩, HB3⟩
  case round =>
    obtain ⟨k, v, cells, hk, rfl, HH, HL, HW⟩ := hrel
    by_cases hlt : k < n
    · obtain ⟨j, hj⟩ := some_at (l := sortI (ps.map Prod.fst)) (k := k) (by have := HN.out; omega)
      obtain ⟨⟨x, dv⟩, hp, hx⟩ := ord_at hj
      obtain ⟨dao, dcap, hdv⟩ := Rd.shape (HA2.out.evs _ (List.mem_of_getElem? hp))
      simp only at hdv
      subst hdv
      have HEV := hidI (show ∀ W, Below w2.heap.size w2 W → RdT encEv W 4 (.slice dao x.done.length dcap) x.done from fun W hW => Rd.below (HA2.out.evs _ (List.mem_of_getElem? hp)) hW)
      have hpl := HOK.out.placed k x hx
      have HRD := hidI (HOK.out.reads k x hx)
      have HLA := hidI (fun i y hy hik => HOK.out.later k i x y hx hy hik)
      have HKI := hidI (HOK.out.kinds x (by
        have := List.mem_of_getElem? hx
        exact ((sortA_mem _ _).1 this).1))
      have HX := hidI hx
      have hsum : cells.length + x.done.length ≤ 262144 := by
        have h1 := HL.out.2
        have h2 : asum ((sortA (ps.map Prod.fst)).take (k + 1)) = asum ((sortA (ps.map Prod.fst)).take k) + x.done.length := asum_next hx
        have h3 := asum_take (sortA (ps.map Prod.fst)) (k + 1)
        have h4 := asum_sort (ps.map Prod.fst)
        have h5 := HOK.out.sum
        omega
      have HSUM := hidI hsum
      have HNEXT := hidI (show asum ((sortA (ps.map Prod.fst)).take (k + 1)) = asum ((sortA (ps.map Prod.fst)).take k) + x.done.length from asum_next hx)
      have HTAKE := hidI (show ((sortA (ps.map Prod.fst)).take (k + 1)).flatMap Att.done = ((sortA (ps.map Prod.fst)).take k).flatMap Att.done ++ x.done from by rw [take_snoc hx, List.flatMap_append]; simp)
      obtain ⟨oa, oo', eo, hso, hco⟩ := RdT.at encZ_len (Rd.below HORD.out HW.out) (show (zs (sortI (ps.map Prod.fst)))[k]? = some (j : Int) from by unfold zs; rw [List.getElem?_map, hj]; rfl)
      subst eo
      rw [HZL.out] at HORD
      have z0 := hco 0 _ rfl
      simp only [Nat.mul_one, Nat.add_zero] at z0
      obtain ⟨b, off, rfl, hs1, hc⟩ := RdT.at (enc := enc2) enc2_len (Rd.below HA2.out.row HW.out) hp
      have x0 := hc 0 _ rfl
      have x1 := hc 1 _ rfl
      have x2 := hc 2 _ rfl
      have x3 := hc 3 _ rfl
      have x4 := hc 4 _ rfl
      have x5 := hc 5 _ rfl
      have x6 := hc 6 _ rfl
      have x7 := hc 7 _ rfl
      simp only [Nat.add_zero] at x0
      obtain ⟨th, kind, beg, fin, clock, place', wri, done⟩ := x
      simp only at hpl HRD HLA HKI HEV hsum HSUM HNEXT HTAKE x0 x1 x2 x3 x4 x5 x6 x7
      have HPC := hidI (fun W : World => placed29 (w := W) th kind beg fin clock place' wri (.slice dao done.length dcap) hpl.1 hpl.2)
      have hjl : j < ps.length := (List.getElem?_eq_some_iff.1 hp).1
      clear hc hs1 hco hso hpl hj hp hsum hx
      by_cases hk0 : k = 0
      · subst hk0
        simp only [Nat.add_zero] at z0
        have hbx : Below wr.heap.size wr (wr.alloc (.cells #[.int .i64 th, .int .u8 kind, .int .i64 beg, .int .i64 fin, .int .i64 clock, .int .i64 place', .bool wri, .slice dao done.length dcap] 73)) := (Below.refl _ _).alloc (Nat.le_refl _) _
        have HBX := hidI (HW.out.trans (hbx.mono HW.out.size))
        have HHX := hidI (HH.out.below hbx)
        have HBL := hidI (block_new wr (.cells #[.int .i64 th, .int .u8 kind, .int .i64 beg, .int .i64 fin, .int .i64 clock, .int .i64 place', .bool wri, .slice dao done.length dcap] 73))
        have q0 := fun t => ext_cell (cell_of_block (o := 0) (block_new wr (.cells #[.int .i64 th, .int .u8 kind, .int .i64 beg, .int .i64 fin, .int .i64 clock, .int .i64 place', .bool wri, .slice dao done.length dcap] 73)) rfl) t
        have q1 := fun t => ext_cell (cell_of_block (o := 1) (block_new wr (.cells #[.int .i64 th, .int .u8 kind, .int .i64 beg, .int .i64 fin, .int .i64 clock, .int .i64 place', .bool wri, .slice dao done.length dcap] 73)) rfl) t
        have q2 := fun t => ext_cell (cell_of_block (o := 2) (block_new wr (.cells #[.int .i64 th, .int .u8 kind, .int .i64 beg, .int .i64 fin, .int .i64 clock, .int .i64 place', .bool wri, .slice dao done.length dcap] 73)) rfl) t
        have q3 := fun t => ext_cell (cell_of_block (o := 3) (block_new wr (.cells #[.int .i64 th, .int .u8 kind, .int .i64 beg, .int .i64 fin, .int .i64 clock, .int .i64 place', .bool wri, .slice dao done.length dcap] 73)) rfl) t
        have q4 := fun t => ext_cell (cell_of_block (o := 4) (block_new wr (.cells #[.int .i64 th, .int .u8 kind, .int .i64 beg, .int .i64 fin, .int .i64 clock, .int .i64 place', .bool wri, .slice dao done.length dcap] 73)) rfl) t
        have q5 := fun t => ext_cell (cell_of_block (o := 5) (block_new wr (.cells #[.int .i64 th, .int .u8 kind, .int .i64 beg, .int .i64 fin, .int .i64 clock, .int .i64 place', .bool wri, .slice dao done.length dcap] 73)) rfl) t
        have q6 := fun t => ext_cell (cell_of_block (o := 6) (block_new wr (.cells #[.int .i64 th, .int .u8 kind, .int .i64 beg, .int .i64 fin, .int .i64 clock, .int .i64 place', .bool wri, .slice dao done.length dcap] 73)) rfl) t
        have q7 := fun t => ext_cell (cell_of_block (o := 7) (block_new wr (.cells #[.int .i64 th, .int .u8 kind, .int .i64 beg, .int .i64 fin, .int .i64 clock, .int .i64 place', .bool wri, .slice dao done.length dcap] 73)) rfl) t
        clear hbx
        go_wp2_with fail
        refine wp_region_grow (by kernel_rfl) (by kernel_rfl) ?_
        repeat (go_big_quiet_step ((first | (go_at_call 22; exact grow_of (HPC.out _)))))
        refine wpQuiet_nil ?_
        intro wU hbU
        have HU := hidI (HBX.out.trans (hbU.mono HBX.out.size))
        have HHU := hidI (HHX.out.below hbU)
        have HBU := hidI (blk hbU HBL.out)
        clear hbU q0 q1 q2 q3 q4 q5 q6 q7 x0 x1 x2 x3 x4 x5 x6 x7 z0
        go_wp2_with fail
        go_loopw [9] (fun vi wr => ∃ i' : Nat, 0 < i' ∧ i' ≤ n ∧ vi = .int .i64 (i' : Int) ∧ Hid (Below wU.heap.size wU wr)) (fun i _ => ((n : Int) - intOf i).toNat)
        case atStart => exact ⟨0 + 1, by omega, by omega, by go_num, hidI (Below.refl _ _)⟩
        case round =>
          obtain ⟨i9, hi1, hi2, rfl, HR⟩ := hrel
          have HWR := hidI (HU.out.trans (HR.out.mono HU.out.size))
          by_cases hin : i9 < n
          · obtain ⟨j2, hj2⟩ := some_at (l := sortI (ps.map Prod.fst)) (k := i9) (by have := HN.out; omega)
            obtain ⟨⟨y, du⟩, hp2, hy⟩ := ord_at hj2
            have hng := HLA.out i9 y hy hi1
            obtain ⟨oa2, oo2, eo2, hso2, hco2⟩ := RdT.at encZ_len (Rd.below HORD.out HWR.out) (show (zs (sortI (ps.map Prod.fst)))[i9]? = some (j2 : Int) from by unfold zs; rw [List.getElem?_map, hj2]; rfl)
            simp only [Option.some.injEq, Addr.mk.injEq, and_true] at eo2
            obtain ⟨rfl, rfl⟩ := eo2
            have z2 := fun t => ext_cell (hco2 0 _ rfl) t
            simp only [Nat.mul_one, Nat.add_zero] at z2
            obtain ⟨b2, off2, e2, hs2, hc2⟩ := RdT.at (enc := enc2) enc2_len (Rd.below HA2.out.row HWR.out) hp2
            simp only [Option.some.injEq, Addr.mk.injEq, and_true] at e2
            obtain ⟨rfl, rfl⟩ := e2
            have y3 := fun t => ext_cell (hc2 3 _ rfl) t
            have q2 := fun t => ext_cell (cell_of_block (o := 2) (blk HR.out HBU.out) rfl) t
            have hj2l : j2 < ps.length := (List.getElem?_eq_some_iff.1 hp2).1
            clear hc2 hs2 hco2 hso2 hj2 hp2 hy
            go_wp2_with fail
            refine wp_region_grow (by kernel_rfl) (by kernel_rfl) ?_
            repeat (go_big_quiet_step (fail))
            refine wpQuiet_nil ?_
            intro wV hbV
            have HV := hidI (HR.out.trans (hbV.mono HR.out.size))
            clear hbV z2 y3 q2
            go_wp2_with fail
            exact ⟨⟨i9 + 1, by omega, by omega, by go_num, HV⟩, by simp [intOf]; omega⟩
          · obtain rfl : i9 = n := by omega
            have hbl := blk HR.out HBU.out
            have q0 := cell_of_block (o := 0) hbl rfl
            have q1 := cell_of_block (o := 1) hbl rfl
            have q2 := cell_of_block (o := 2) hbl rfl
            have q3 := cell_of_block (o := 3) hbl rfl
            have q4 := cell_of_block (o := 4) hbl rfl
            have q5 := cell_of_block (o := 5) hbl rfl
            have q6 := cell_of_block (o := 6) hbl rfl
            have q7 := cell_of_block (o := 7) hbl rfl
            have HHR := hidI (HHU.out.below HR.out)
            clear hbl
            go_wp2_with fail
            clear q0 q1 q2 q3 q4 q5 q6 q7
            refine (hdone_any th kind beg fin clock place' wri HHR.out HL.out.1 (fun W hW => HEV.out W (HWR.out.trans (hW.to_below HWR.out.size HHR.out.ge))) HKI.out (by rw [eff_flat]; exact HRD.out) HSUM.out HWR.out.size).mono ?_
            rintro e w9 ⟨rfl, v9, cells9, hh9, hl9, hn9, hc9, -⟩
            have HH9 := hidI hh9
            have HB9 := hidI (HWR.out.trans (hc9.to_below HWR.out.size HHR.out.ge))
            have HL9 := hidI (show LogOf (((sortA (ps.map Prod.fst)).take (0 + 1)).flatMap Att.done) cells9 ∧ cells9.length ≤ asum ((sortA (ps.map Prod.fst)).take (0 + 1)) from ⟨by rw [HTAKE.out]; exact hl9, by rw [HNEXT.out]; have := HL.out.2; omega⟩)
            clear hh9 hl9 hn9 hc9
            go_wp2_with fail
            exact ⟨⟨0 + 1, v9, cells9, by omega, by go_num, HH9, HL9, HB9⟩, by simp [intOf]; omega⟩
      · obtain ⟨i, rfl⟩ : ∃ q, k = q + 1 := ⟨k - 1, by omega⟩
        obtain ⟨j1, hj1⟩ := some_at (l := sortI (ps.map Prod.fst)) (k := i) (by have := HN.out; omega)
        obtain ⟨⟨y, du⟩, hp1, hy⟩ := ord_at hj1
        have HPL := hidI (fun h1 h2 => HOK.out.places i y _ hy HX.out h1 h2)
        simp only at HPL
        cases wri with
        | false =>
          have hbx : Below wr.heap.size wr (wr.alloc (.cells #[.int .i64 th, .int .u8 kind, .int .i64 beg, .int .i64 fin, .int .i64 clock, .int .i64 place', .bool false, .slice dao done.length dcap] 73)) := (Below.refl _ _).alloc (Nat.le_refl _) _
          obtain ⟨oa1, oo1, eo1, hso1, hco1⟩ := RdT.at encZ_len (Rd.below (Rd.below HORD.out HW.out) hbx) (show (zs (sortI (ps.map Prod.fst)))[i]? = some (j1 : Int) from by unfold zs; rw [List.getElem?_map, hj1]; rfl)
          simp only [Option.some.injEq, Addr.mk.injEq, and_true] at eo1
          obtain ⟨rfl, rfl⟩ := eo1
          have z1 := fun t => ext_cell (hco1 0 _ rfl) t
          simp only [Nat.mul_one, Nat.add_zero] at z1
          obtain ⟨b1, off1, e1, hs1, hc1⟩ := RdT.at (enc := enc2) enc2_len (Rd.below (Rd.below HA2.out.row HW.out) hbx) hp1
          simp only [Option.some.injEq, Addr.mk.injEq, and_true] at e1
          obtain ⟨rfl, rfl⟩ := e1
          have y5 := fun t => ext_cell (hc1 5 _ rfl) t
          have y6 := fun t => ext_cell (hc1 6 _ rfl) t
          have hi1 : ((i : Int) + 1) - 1 = (i : Int) := by omega
          have hiw : IntKind.i64.wrap (i : Int) = (i : Int) := IntWalk.i64_in _ (by omega)
          have hi0 : (0 : Int) < (i : Int) + 1 := by omega
          have hj1l : j1 < ps.length := (List.getElem?_eq_some_iff.1 hp1).1
          clear hbx hc1 hs1 hco1 hso1 hj1 hp1 hy
          have hbx : Below wr.heap.size wr (wr.alloc (.cells #[.int .i64 th, .int .u8 kind, .int .i64 beg, .int .i64 fin, .int .i64 clock, .int .i64 place', .bool false, .slice dao done.length dcap] 73)) := (Below.refl _ _).alloc (Nat.le_refl _) _
          have HBX := hidI (HW.out.trans (hbx.mono HW.out.size))
          have HHX := hidI (HH.out.below hbx)
          have HBL := hidI (block_new wr (.cells #[.int .i64 th, .int .u8 kind, .int .i64 beg, .int .i64 fin, .int .i64 clock, .int .i64 place', .bool false, .slice dao done.length dcap] 73))
          have q0 := fun t => ext_cell (cell_of_block (o := 0) (block_new wr (.cells #[.int .i64 th, .int .u8 kind, .int .i64 beg, .int .i64 fin, .int .i64 clock, .int .i64 place', .bool false, .slice dao done.length dcap] 73)) rfl) t
          have q1 := fun t => ext_cell (cell_of_block (o := 1) (block_new wr (.cells #[.int .i64 th, .int .u8 kind, .int .i64 beg, .int .i64 fin, .int .i64 clock, .int .i64 place', .bool false, .slice dao done.length dcap] 73)) rfl) t
          have q2 := fun t => ext_cell (cell_of_block (o := 2) (block_new wr (.cells #[.int .i64 th, .int .u8 kind, .int .i64 beg, .int .i64 fin, .int .i64 clock, .int .i64 place', .bool false, .slice dao done.length dcap] 73)) rfl) t
          have q3 := fun t => ext_cell (cell_of_block (o := 3) (block_new wr (.cells #[.int .i64 th, .int .u8 kind, .int .i64 beg, .int .i64 fin, .int .i64 clock, .int .i64 place', .bool false, .slice dao done.length dcap] 73)) rfl) t
          have q4 := fun t => ext_cell (cell_of_block (o := 4) (block_new wr (.cells #[.int .i64 th, .int .u8 kind, .int .i64 beg, .int .i64 fin, .int .i64 clock, .int .i64 place', .bool false, .slice dao done.length dcap] 73)) rfl) t
          have q5 := fun t => ext_cell (cell_of_block (o := 5) (block_new wr (.cells #[.int .i64 th, .int .u8 kind, .int .i64 beg, .int .i64 fin, .int .i64 clock, .int .i64 place', .bool false, .slice dao done.length dcap] 73)) rfl) t
          have q6 := fun t => ext_cell (cell_of_block (o := 6) (block_new wr (.cells #[.int .i64 th, .int .u8 kind, .int .i64 beg, .int .i64 fin, .int .i64 clock, .int .i64 place', .bool false, .slice dao done.length dcap] 73)) rfl) t
          have q7 := fun t => ext_cell (cell_of_block (o := 7) (block_new wr (.cells #[.int .i64 th, .int .u8 kind, .int .i64 beg, .int .i64 fin, .int .i64 clock, .int .i64 place', .bool false, .slice dao done.length dcap] 73)) rfl) t
          clear hbx
          go_wp2_with fail
          refine wp_region_grow (by kernel_rfl) (by kernel_rfl) ?_
          repeat (go_big_quiet_step ((first | (go_at_call 22; exact grow_of (HPC.out _)))))
          refine wpQuiet_nil ?_
          intro wU hbU
          have HU := hidI (HBX.out.trans (hbU.mono HBX.out.size))
          have HHU := hidI (HHX.out.below hbU)
          have HBU := hidI (blk hbU HBL.out)
          clear hbU q0 q1 q2 q3 q4 q5 q6 q7 x0 x1 x2 x3 x4 x5 x6 x7 z0 z1 y5 y6 hi1 hiw hi0
          go_wp2_with fail
          go_loopw [9] (fun vi wr => ∃ i' : Nat, i + 1 < i' ∧ i' ≤ n ∧ vi = .int .i64 (i' : Int) ∧ Hid (Below wU.heap.size wU wr)) (fun i _ => ((n : Int) - intOf i).toNat)
          case atStart => exact ⟨i + 1 + 1, by omega, by omega, by go_num, hidI (Below.refl _ _)⟩
          case round =>
            obtain ⟨i9, hi1, hi2, rfl, HR⟩ := hrel
            have HWR := hidI (HU.out.trans (HR.out.mono HU.out.size))
            by_cases hin : i9 < n
            · obtain ⟨j2, hj2⟩ := some_at (l := sortI (ps.map Prod.fst)) (k := i9) (by have := HN.out; omega)
              obtain ⟨⟨y, du⟩, hp2, hy⟩ := ord_at hj2
              have hng := HLA.out i9 y hy hi1
              obtain ⟨oa2, oo2, eo2, hso2, hco2⟩ := RdT.at encZ_len (Rd.below HORD.out HWR.out) (show (zs (sortI (ps.map Prod.fst)))[i9]? = some (j2 : Int) from by unfold zs; rw [List.getElem?_map, hj2]; rfl)
              simp only [Option.some.injEq, Addr.mk.injEq, and_true] at eo2
              obtain ⟨rfl, rfl⟩ := eo2
              have z2 := fun t => ext_cell (hco2 0 _ rfl) t
              simp only [Nat.mul_one, Nat.add_zero] at z2
              obtain ⟨b2, off2, e2, hs2, hc2⟩ := RdT.at (enc := enc2) enc2_len (Rd.below HA2.out.row HWR.out) hp2
              simp only [Option.some.injEq, Addr.mk.injEq, and_true] at e2
              obtain ⟨rfl, rfl⟩ := e2
              have y3 := fun t => ext_cell (hc2 3 _ rfl) t
              have q2 := fun t => ext_cell (cell_of_block (o := 2) (blk HR.out HBU.out) rfl) t
              have hj2l : j2 < ps.length := (List.getElem?_eq_some_iff.1 hp2).1
              clear hc2 hs2 hco2 hso2 hj2 hp2 hy
              go_wp2_with fail
              refine wp_region_grow (by kernel_rfl) (by kernel_rfl) ?_
              repeat (go_big_quiet_step (fail))
              refine wpQuiet_nil ?_
              intro wV hbV
              have HV := hidI (HR.out.trans (hbV.mono HR.out.size))
              clear hbV z2 y3 q2
              go_wp2_with fail
              exact ⟨⟨i9 + 1, by omega, by omega, by go_num, HV⟩, by simp [intOf]; omega⟩
            · obtain rfl : i9 = n := by omega
              have hbl := blk HR.out HBU.out
              have q0 := cell_of_block (o := 0) hbl rfl
              have q1 := cell_of_block (o := 1) hbl rfl
              have q2 := cell_of_block (o := 2) hbl rfl
              have q3 := cell_of_block (o := 3) hbl rfl
              have q4 := cell_of_block (o := 4) hbl rfl
              have q5 := cell_of_block (o := 5) hbl rfl
              have q6 := cell_of_block (o := 6) hbl rfl
              have q7 := cell_of_block (o := 7) hbl rfl
              have HHR := hidI (HHU.out.below HR.out)
              clear hbl
              go_wp2_with fail
              clear q0 q1 q2 q3 q4 q5 q6 q7
              refine (hdone_any th kind beg fin clock place' false HHR.out HL.out.1 (fun W hW => HEV.out W (HWR.out.trans (hW.to_below HWR.out.size HHR.out.ge))) HKI.out (by rw [eff_flat]; exact HRD.out) HSUM.out HWR.out.size).mono ?_
              rintro e w9 ⟨rfl, v9, cells9, hh9, hl9, hn9, hc9, -⟩
              have HH9 := hidI hh9
              have HB9 := hidI (HWR.out.trans (hc9.to_below HWR.out.size HHR.out.ge))
              have HL9 := hidI (show LogOf (((sortA (ps.map Prod.fst)).take (i + 1 + 1)).flatMap Att.done) cells9 ∧ cells9.length ≤ asum ((sortA (ps.map Prod.fst)).take (i + 1 + 1)) from ⟨by rw [HTAKE.out]; exact hl9, by rw [HNEXT.out]; have := HL.out.2; omega⟩)
              clear hh9 hl9 hn9 hc9
              go_wp2_with fail
              exact ⟨⟨i + 1 + 1, v9, cells9, by omega, by go_num, HH9, HL9, HB9⟩, by simp [intOf]; omega⟩
        | true =>
          have hbx : Below wr.heap.size wr (wr.alloc (.cells #[.int .i64 th, .int .u8 kind, .int .i64 beg, .int .i64 fin, .int .i64 clock, .int .i64 place', .bool true, .slice dao done.length dcap] 73)) := (Below.refl _ _).alloc (Nat.le_refl _) _
          obtain ⟨oa1, oo1, eo1, hso1, hco1⟩ := RdT.at encZ_len (Rd.below (Rd.below HORD.out HW.out) hbx) (show (zs (sortI (ps.map Prod.fst)))[i]? = some (j1 : Int) from by unfold zs; rw [List.getElem?_map, hj1]; rfl)
          simp only [Option.some.injEq, Addr.mk.injEq, and_true] at eo1
          obtain ⟨rfl, rfl⟩ := eo1
          have z1 := fun t => ext_cell (hco1 0 _ rfl) t
          simp only [Nat.mul_one, Nat.add_zero] at z1
          obtain ⟨b1, off1, e1, hs1, hc1⟩ := RdT.at (enc := enc2) enc2_len (Rd.below (Rd.below HA2.out.row HW.out) hbx) hp1
          simp only [Option.some.injEq, Addr.mk.injEq, and_true] at e1
          obtain ⟨rfl, rfl⟩ := e1
          have y5 := fun t => ext_cell (hc1 5 _ rfl) t
          have y6 := fun t => ext_cell (hc1 6 _ rfl) t
          have hi1 : ((i : Int) + 1) - 1 = (i : Int) := by omega
          have hiw : IntKind.i64.wrap (i : Int) = (i : Int) := IntWalk.i64_in _ (by omega)
          have hi0 : (0 : Int) < (i : Int) + 1 := by omega
          have hj1l : j1 < ps.length := (List.getElem?_eq_some_iff.1 hp1).1
          clear hbx hc1 hs1 hco1 hso1 hj1 hp1 hy
          obtain ⟨yth, ykind, ybeg, yfin, yclock, yplace, ywri, ydone⟩ := y
          simp only at HPL y5 y6
          cases ywri with
          | false =>
            have hbx : Below wr.heap.size wr (wr.alloc (.cells #[.int .i64 th, .int .u8 kind, .int .i64 beg, .int .i64 fin, .int .i64 clock, .int .i64 place', .bool true, .slice dao done.length dcap] 73)) := (Below.refl _ _).alloc (Nat.le_refl _) _
            have HBX := hidI (HW.out.trans (hbx.mono HW.out.size))
            have HHX := hidI (HH.out.below hbx)
            have HBL := hidI (block_new wr (.cells #[.int .i64 th, .int .u8 kind, .int .i64 beg, .int .i64 fin, .int .i64 clock, .int .i64 place', .bool true, .slice dao done.length dcap] 73))
            have q0 := fun t => ext_cell (cell_of_block (o := 0) (block_new wr (.cells #[.int .i64 th, .int .u8 kind, .int .i64 beg, .int .i64 fin, .int .i64 clock, .int .i64 place', .bool true, .slice dao done.length dcap] 73)) rfl) t
            have q1 := fun t => ext_cell (cell_of_block (o := 1) (block_new wr (.cells #[.int .i64 th, .int .u8 kind, .int .i64 beg, .int .i64 fin, .int .i64 clock, .int .i64 place', .bool true, .slice dao done.length dcap] 73)) rfl) t
            have q2 := fun t => ext_cell (cell_of_block (o := 2) (block_new wr (.cells #[.int .i64 th, .int .u8 kind, .int .i64 beg, .int .i64 fin, .int .i64 clock, .int .i64 place', .bool true, .slice dao done.length dcap] 73)) rfl) t
            have q3 := fun t => ext_cell (cell_of_block (o := 3) (block_new wr (.cells #[.int .i64 th, .int .u8 kind, .int .i64 beg, .int .i64 fin, .int .i64 clock, .int .i64 place', .bool true, .slice dao done.length dcap] 73)) rfl) t
            have q4 := fun t => ext_cell (cell_of_block (o := 4) (block_new wr (.cells #[.int .i64 th, .int .u8 kind, .int .i64 beg, .int .i64 fin, .int .i64 clock, .int .i64 place', .bool true, .slice dao done.length dcap] 73)) rfl) t
            have q5 := fun t => ext_cell (cell_of_block (o := 5) (block_new wr (.cells #[.int .i64 th, .int .u8 kind, .int .i64 beg, .int .i64 fin, .int .i64 clock, .int .i64 place', .bool true, .slice dao done.length dcap] 73)) rfl) t
            have q6 := fun t => ext_cell (cell_of_block (o := 6) (block_new wr (.cells #[.int .i64 th, .int .u8 kind, .int .i64 beg, .int .i64 fin, .int .i64 clock, .int .i64 place', .bool true, .slice dao done.length dcap] 73)) rfl) t
            have q7 := fun t => ext_cell (cell_of_block (o := 7) (block_new wr (.cells #[.int .i64 th, .int .u8 kind, .int .i64 beg, .int .i64 fin, .int .i64 clock, .int .i64 place', .bool true, .slice dao done.length dcap] 73)) rfl) t
            clear hbx
            go_wp2_with fail
            refine wp_region_grow (by kernel_rfl) (by kernel_rfl) ?_
            repeat (go_big_quiet_step ((first | (go_at_call 22; exact grow_of (HPC.out _)))))
            refine wpQuiet_nil ?_
            intro wU hbU
            have HU := hidI (HBX.out.trans (hbU.mono HBX.out.size))
            have HHU := hidI (HHX.out.below hbU)
            have HBU := hidI (blk hbU HBL.out)
            clear hbU q0 q1 q2 q3 q4 q5 q6 q7 x0 x1 x2 x3 x4 x5 x6 x7 z0 z1 y5 y6 hi1 hiw hi0
            go_wp2_with fail
            go_loopw [9] (fun vi wr => ∃ i' : Nat, i + 1 < i' ∧ i' ≤ n ∧ vi = .int .i64 (i' : Int) ∧ Hid (Below wU.heap.size wU wr)) (fun i _ => ((n : Int) - intOf i).toNat)
            case atStart => exact ⟨i + 1 + 1, by omega, by omega, by go_num, hidI (Below.refl _ _)⟩
            case round =>
              obtain ⟨i9, hi1, hi2, rfl, HR⟩ := hrel
              have HWR := hidI (HU.out.trans (HR.out.mono HU.out.size))
              by_cases hin : i9 < n
              · obtain ⟨j2, hj2⟩ := some_at (l := sortI (ps.map Prod.fst)) (k := i9) (by have := HN.out; omega)
                obtain ⟨⟨y, du⟩, hp2, hy⟩ := ord_at hj2
                have hng := HLA.out i9 y hy hi1
                obtain ⟨oa2, oo2, eo2, hso2, hco2⟩ := RdT.at encZ_len (Rd.below HORD.out HWR.out) (show (zs (sortI (ps.map Prod.fst)))[i9]? = some (j2 : Int) from by unfold zs; rw [List.getElem?_map, hj2]; rfl)
                simp only [Option.some.injEq, Addr.mk.injEq, and_true] at eo2
                obtain ⟨rfl, rfl⟩ := eo2
                have z2 := fun t => ext_cell (hco2 0 _ rfl) t
                simp only [Nat.mul_one, Nat.add_zero] at z2
                obtain ⟨b2, off2, e2, hs2, hc2⟩ := RdT.at (enc := enc2) enc2_len (Rd.below HA2.out.row HWR.out) hp2
                simp only [Option.some.injEq, Addr.mk.injEq, and_true] at e2
                obtain ⟨rfl, rfl⟩ := e2
                have y3 := fun t => ext_cell (hc2 3 _ rfl) t
                have q2 := fun t => ext_cell (cell_of_block (o := 2) (blk HR.out HBU.out) rfl) t
                have hj2l : j2 < ps.length := (List.getElem?_eq_some_iff.1 hp2).1
                clear hc2 hs2 hco2 hso2 hj2 hp2 hy
                go_wp2_with fail
                refine wp_region_grow (by kernel_rfl) (by kernel_rfl) ?_
                repeat (go_big_quiet_step (fail))
                refine wpQuiet_nil ?_
                intro wV hbV
                have HV := hidI (HR.out.trans (hbV.mono HR.out.size))
                clear hbV z2 y3 q2
                go_wp2_with fail
                exact ⟨⟨i9 + 1, by omega, by omega, by go_num, HV⟩, by simp [intOf]; omega⟩
              · obtain rfl : i9 = n := by omega
                have hbl := blk HR.out HBU.out
                have q0 := cell_of_block (o := 0) hbl rfl
                have q1 := cell_of_block (o := 1) hbl rfl
                have q2 := cell_of_block (o := 2) hbl rfl
                have q3 := cell_of_block (o := 3) hbl rfl
                have q4 := cell_of_block (o := 4) hbl rfl
                have q5 := cell_of_block (o := 5) hbl rfl
                have q6 := cell_of_block (o := 6) hbl rfl
                have q7 := cell_of_block (o := 7) hbl rfl
                have HHR := hidI (HHU.out.below HR.out)
                clear hbl
                go_wp2_with fail
                clear q0 q1 q2 q3 q4 q5 q6 q7
                refine (hdone_any th kind beg fin clock place' true HHR.out HL.out.1 (fun W hW => HEV.out W (HWR.out.trans (hW.to_below HWR.out.size HHR.out.ge))) HKI.out (by rw [eff_flat]; exact HRD.out) HSUM.out HWR.out.size).mono ?_
                rintro e w9 ⟨rfl, v9, cells9, hh9, hl9, hn9, hc9, -⟩
                have HH9 := hidI hh9
                have HB9 := hidI (HWR.out.trans (hc9.to_below HWR.out.size HHR.out.ge))
                have HL9 := hidI (show LogOf (((sortA (ps.map Prod.fst)).take (i + 1 + 1)).flatMap Att.done) cells9 ∧ cells9.length ≤ asum ((sortA (ps.map Prod.fst)).take (i + 1 + 1)) from ⟨by rw [HTAKE.out]; exact hl9, by rw [HNEXT.out]; have := HL.out.2; omega⟩)
                clear hh9 hl9 hn9 hc9
                go_wp2_with fail
                exact ⟨⟨i + 1 + 1, v9, cells9, by omega, by go_num, HH9, HL9, HB9⟩, by simp [intOf]; omega⟩
          | true =>
            have hpp : (yplace == place') = false := by
              have := HPL.out
              simpa using this
            have hbx : Below wr.heap.size wr (wr.alloc (.cells #[.int .i64 th, .int .u8 kind, .int .i64 beg, .int .i64 fin, .int .i64 clock, .int .i64 place', .bool true, .slice dao done.length dcap] 73)) := (Below.refl _ _).alloc (Nat.le_refl _) _
            have HBX := hidI (HW.out.trans (hbx.mono HW.out.size))
            have HHX := hidI (HH.out.below hbx)
            have HBL := hidI (block_new wr (.cells #[.int .i64 th, .int .u8 kind, .int .i64 beg, .int .i64 fin, .int .i64 clock, .int .i64 place', .bool true, .slice dao done.length dcap] 73))
            have q0 := fun t => ext_cell (cell_of_block (o := 0) (block_new wr (.cells #[.int .i64 th, .int .u8 kind, .int .i64 beg, .int .i64 fin, .int .i64 clock, .int .i64 place', .bool true, .slice dao done.length dcap] 73)) rfl) t
            have q1 := fun t => ext_cell (cell_of_block (o := 1) (block_new wr (.cells #[.int .i64 th, .int .u8 kind, .int .i64 beg, .int .i64 fin, .int .i64 clock, .int .i64 place', .bool true, .slice dao done.length dcap] 73)) rfl) t
            have q2 := fun t => ext_cell (cell_of_block (o := 2) (block_new wr (.cells #[.int .i64 th, .int .u8 kind, .int .i64 beg, .int .i64 fin, .int .i64 clock, .int .i64 place', .bool true, .slice dao done.length dcap] 73)) rfl) t
            have q3 := fun t => ext_cell (cell_of_block (o := 3) (block_new wr (.cells #[.int .i64 th, .int .u8 kind, .int .i64 beg, .int .i64 fin, .int .i64 clock, .int .i64 place', .bool true, .slice dao done.length dcap] 73)) rfl) t
            have q4 := fun t => ext_cell (cell_of_block (o := 4) (block_new wr (.cells #[.int .i64 th, .int .u8 kind, .int .i64 beg, .int .i64 fin, .int .i64 clock, .int .i64 place', .bool true, .slice dao done.length dcap] 73)) rfl) t
            have q5 := fun t => ext_cell (cell_of_block (o := 5) (block_new wr (.cells #[.int .i64 th, .int .u8 kind, .int .i64 beg, .int .i64 fin, .int .i64 clock, .int .i64 place', .bool true, .slice dao done.length dcap] 73)) rfl) t
            have q6 := fun t => ext_cell (cell_of_block (o := 6) (block_new wr (.cells #[.int .i64 th, .int .u8 kind, .int .i64 beg, .int .i64 fin, .int .i64 clock, .int .i64 place', .bool true, .slice dao done.length dcap] 73)) rfl) t
            have q7 := fun t => ext_cell (cell_of_block (o := 7) (block_new wr (.cells #[.int .i64 th, .int .u8 kind, .int .i64 beg, .int .i64 fin, .int .i64 clock, .int .i64 place', .bool true, .slice dao done.length dcap] 73)) rfl) t
            clear hbx
            go_wp2_with fail
            refine wp_region_grow (by kernel_rfl) (by kernel_rfl) ?_
            repeat (go_big_quiet_step ((first | (go_at_call 22; exact grow_of (HPC.out _)))))
            refine wpQuiet_nil ?_
            intro wU hbU
            have HU := hidI (HBX.out.trans (hbU.mono HBX.out.size))
            have HHU := hidI (HHX.out.below hbU)
            have HBU := hidI (blk hbU HBL.out)
            clear hbU q0 q1 q2 q3 q4 q5 q6 q7 x0 x1 x2 x3 x4 x5 x6 x7 z0 z1 y5 y6 hi1 hiw hi0
            go_wp2_with fail
            go_loopw [9] (fun vi wr => ∃ i' : Nat, i + 1 < i' ∧ i' ≤ n ∧ vi = .int .i64 (i' : Int) ∧ Hid (Below wU.heap.size wU wr)) (fun i _ => ((n : Int) - intOf i).toNat)
            case atStart => exact ⟨i + 1 + 1, by omega, by omega, by go_num, hidI (Below.refl _ _)⟩
            case round =>
              obtain ⟨i9, hi1, hi2, rfl, HR⟩ := hrel
              have HWR := hidI (HU.out.trans (HR.out.mono HU.out.size))
              by_cases hin : i9 < n
              · obtain ⟨j2, hj2⟩ := some_at (l := sortI (ps.map Prod.fst)) (k := i9) (by have := HN.out; omega)
                obtain ⟨⟨y, du⟩, hp2, hy⟩ := ord_at hj2
                have hng := HLA.out i9 y hy hi1
                obtain ⟨oa2, oo2, eo2, hso2, hco2⟩ := RdT.at encZ_len (Rd.below HORD.out HWR.out) (show (zs (sortI (ps.map Prod.fst)))[i9]? = some (j2 : Int) from by unfold zs; rw [List.getElem?_map, hj2]; rfl)
                simp only [Option.some.injEq, Addr.mk.injEq, and_true] at eo2
                obtain ⟨rfl, rfl⟩ := eo2
                have z2 := fun t => ext_cell (hco2 0 _ rfl) t
                simp only [Nat.mul_one, Nat.add_zero] at z2
                obtain ⟨b2, off2, e2, hs2, hc2⟩ := RdT.at (enc := enc2) enc2_len (Rd.below HA2.out.row HWR.out) hp2
                simp only [Option.some.injEq, Addr.mk.injEq, and_true] at e2
                obtain ⟨rfl, rfl⟩ := e2
                have y3 := fun t => ext_cell (hc2 3 _ rfl) t
                have q2 := fun t => ext_cell (cell_of_block (o := 2) (blk HR.out HBU.out) rfl) t
                have hj2l : j2 < ps.length := (List.getElem?_eq_some_iff.1 hp2).1
                clear hc2 hs2 hco2 hso2 hj2 hp2 hy
                go_wp2_with fail
                refine wp_region_grow (by kernel_rfl) (by kernel_rfl) ?_
                repeat (go_big_quiet_step (fail))
                refine wpQuiet_nil ?_
                intro wV hbV
                have HV := hidI (HR.out.trans (hbV.mono HR.out.size))
                clear hbV z2 y3 q2
                go_wp2_with fail
                exact ⟨⟨i9 + 1, by omega, by omega, by go_num, HV⟩, by simp [intOf]; omega⟩
              · obtain rfl : i9 = n := by omega
                have hbl := blk HR.out HBU.out
                have q0 := cell_of_block (o := 0) hbl rfl
                have q1 := cell_of_block (o := 1) hbl rfl
                have q2 := cell_of_block (o := 2) hbl rfl
                have q3 := cell_of_block (o := 3) hbl rfl
                have q4 := cell_of_block (o := 4) hbl rfl
                have q5 := cell_of_block (o := 5) hbl rfl
                have q6 := cell_of_block (o := 6) hbl rfl
                have q7 := cell_of_block (o := 7) hbl rfl
                have HHR := hidI (HHU.out.below HR.out)
                clear hbl
                go_wp2_with fail
                clear q0 q1 q2 q3 q4 q5 q6 q7
                refine (hdone_any th kind beg fin clock place' true HHR.out HL.out.1 (fun W hW => HEV.out W (HWR.out.trans (hW.to_below HWR.out.size HHR.out.ge))) HKI.out (by rw [eff_flat]; exact HRD.out) HSUM.out HWR.out.size).mono ?_
                rintro e w9 ⟨rfl, v9, cells9, hh9, hl9, hn9, hc9, -⟩
                have HH9 := hidI hh9
                have HB9 := hidI (HWR.out.trans (hc9.to_below HWR.out.size HHR.out.ge))
                have HL9 := hidI (show LogOf (((sortA (ps.map Prod.fst)).take (i + 1 + 1)).flatMap Att.done) cells9 ∧ cells9.length ≤ asum ((sortA (ps.map Prod.fst)).take (i + 1 + 1)) from ⟨by rw [HTAKE.out]; exact hl9, by rw [HNEXT.out]; have := HL.out.2; omega⟩)
                clear hh9 hl9 hn9 hc9
                go_wp2_with fail
                exact ⟨⟨i + 1 + 1, v9, cells9, by omega, by go_num, HH9, HL9, HB9⟩, by simp [intOf]; omega⟩
    · obtain rfl : k = n := by omega
      go_wp2_with fail
      go_ret2
      exact ⟨rfl, HB2.out.trans (HW.out.mono HB2.out.size)⟩
end Go.Proofs.Ytlphjkgjcfhihaa

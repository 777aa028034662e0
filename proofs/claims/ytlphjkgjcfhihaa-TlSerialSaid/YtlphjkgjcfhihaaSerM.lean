/- turnstileref30: fresh, before. (Written by mkserm.py.) -/
import Derived.Test.YtlphjkgjcfhihaaSerL
import Derived.Test.YtlphjkgjcfhihaaTlP
namespace Go.Proofs.Ytlphjkgjcfhihaa
open Go.RowKit
set_option linter.unusedVariables false
set_option linter.unusedSimpArgs false

variable {w w' : World}

def wrs (done : List Ev) : List Ev := done.filter (fun e => decide (e.k ≠ 2 ∧ e.k ≠ 4))
/-- those ahead of an attempt: places of the order, itself left out, up to its clock -/
def snapI (l : List Att) (n : Nat) (c : Int) (o : List Nat) : List Nat := o.filter (fun j => decide (j ≠ n ∧ (attN l j).place ≤ c))
def snapE (l : List Att) (n : Nat) (c : Int) (o : List Nat) : List Ev := (snapI l n c o).flatMap (fun j => wrs (attN l j).done)
theorem snapE_snoc (l : List Att) (n : Nat) (c : Int) (o : List Nat) (j : Nat) : snapE l n c (o ++ [j]) = snapE l n c o ++ (if j ≠ n ∧ (attN l j).place ≤ c then wrs (attN l j).done else []) := by
  unfold snapE snapI
  rw [List.filter_append, List.flatMap_append]
  by_cases h : j ≠ n ∧ (attN l j).place ≤ c
  · rw [if_pos h, List.filter_cons_of_pos (by simpa using h)]; simp
  · rw [if_neg h, List.filter_cons_of_neg (by simpa using h)]; simp
theorem eff_snap (l : List Att) (n : Nat) (c : Int) (o : List Nat) : eff (snapE l n c o) (fun _ => 0) = ((snapI l n c o).map (attN l)).foldl done1 (fun _ => 0) := by
  unfold snapE
  generalize snapI l n c o = k
  have : ∀ (k : List Nat) (f : Int → Int), eff (k.flatMap (fun j => wrs (attN l j).done)) f = (k.map (attN l)).foldl done1 f := fun k => by
    induction k with
    | nil => intro f; rfl
    | cons j k ih =>
      intro f
      rw [List.flatMap_cons, eff_app, List.map_cons, List.foldl_cons, ih, wrs, eff_filter]
      rfl
  exact this k _

/-- what the second check asks -/
structure OkSnap (l : List Att) : Prop where
  real : ∀ a ∈ l, ∀ b ∈ l, a.kind = 1 → a.fin < b.beg → a.place ≤ b.clock
  snap : ∀ (n : Nat) x, l[n]? = some x → okRd x.done (eff (snapE l n x.clock (sortI l)) (fun _ => 0))
theorem SerH.okSnap {evs : List Ev} {s : HS} {cw : List Att} {W : Int} {m : Nat} (h : SerH evs s cw W m) : OkSnap s.atts := by
  refine ⟨h.real, fun n x hx => ?_⟩
  rw [eff_snap]
  refine h.snap (List.mem_of_getElem? hx) ?_ fun a ha => ?_
  · rw [← sortI_map]
    exact List.filter_sublist.map _
  · have h1 := (h.cws a).1 ha
    unfold snapI
    rw [List.mem_map]
    constructor
    · rintro ⟨j, hj, rfl⟩
      rw [List.mem_filter] at hj
      have := hj.2
      simp only [decide_eq_true_eq] at this
      exact this.2
    · intro hp
      have hm : a ∈ sortA s.atts := (sortA_mem _ _).2 ⟨h1.1, h1.2.1⟩
      rw [← sortI_map, List.mem_map] at hm
      obtain ⟨j, hj, hja⟩ := hm
      refine ⟨j, ?_, hja⟩
      rw [List.mem_filter]
      refine ⟨hj, ?_⟩
      rw [decide_eq_true_eq, hja]
      refine ⟨fun e => ?_, hp⟩
      subst e
      have : attN s.atts j = x := by unfold attN; rw [hx]; rfl
      rw [this] at hja
      subst hja
      exact h.self ha hp

set_option maxHeartbeats 2000000 in
theorem fresh_any {ao : Option Addr} {cap n : Nat} {ps : List (Att × Value)} {x : Att × Value} (h : AttsR w (.slice ao ps.length cap) ps) (hx : ps[n]? = some x) (hlen : ps.length ≤ 262144) (hreal : ∀ p ∈ ps, p.1.kind = 1 → p.1.fin < x.1.beg → p.1.place ≤ x.1.clock) :
    Calls Try.prog 24 #[.slice ao ps.length cap, .int .i64 (n : Int)] w fun e w' => e = .returned (.bool true) ∧ Below w.heap.size w w' := by
  have H := hidI h
  have HX := hidI hx
  have HR := hidI hreal
  have hnl : n < ps.length := (List.getElem?_eq_some_iff.1 hx).1
  clear h hx hreal
  go_enter Try.func24, Try.ntmps24
  go_wp2_with fail
  go_loopw [5] (fun i wr => ∃ k : Nat, k ≤ ps.length ∧ i = .int .i64 (k : Int) ∧ Hid (Below w.heap.size w wr)) (fun i _ => ((ps.length : Int) - intOf i).toNat)
  case atStart => exact ⟨0, by omega, rfl, hidI (Below.refl _ _)⟩
  case round =>
    obtain ⟨k, hk, rfl, HW⟩ := hrel
    by_cases hlt : k < ps.length
    · obtain ⟨p, hp⟩ := some_at hlt
      have hre := HR.out p (List.mem_of_getElem? hp)
      obtain ⟨b, off, rfl, hs1, hc⟩ := RdT.at (enc := enc2) enc2_len (Rd.below H.out.row HW.out) hp
      obtain ⟨b2, off2, e2, hs2, hc2⟩ := RdT.at (enc := enc2) enc2_len (Rd.below H.out.row HW.out) HX.out
      simp only [Option.some.injEq, Addr.mk.injEq, and_true] at e2
      obtain ⟨rfl, rfl⟩ := e2
      have y1 := fun t => ext_cell (hc 1 _ rfl) t
      have y3 := fun t => ext_cell (hc 3 _ rfl) t
      have y5 := fun t => ext_cell (hc 5 _ rfl) t
      have x2 := fun t => ext_cell (hc2 2 _ rfl) t
      have x4 := fun t => ext_cell (hc2 4 _ rfl) t
      clear hc hs1 hc2 hs2 hp
      by_cases hkd : p.1.kind = 1
      · have hb1 : (p.1.kind == 1) = true := by simpa using hkd
        by_cases hf : p.1.fin < x.1.beg
        · have hg : ¬ x.1.clock < p.1.place := by have := hre hkd hf; omega
          have hb2 : decide (p.1.fin < x.1.beg) = true := decide_eq_true hf
          have hb3 : decide (x.1.clock < p.1.place) = false := decide_eq_false hg
          clear hre hkd
          go_wp2_with fail
          refine wp_region_grow (by kernel_rfl) (by kernel_rfl) ?_
          repeat (go_big_quiet_step (fail))
          refine wpQuiet_nil ?_
          intro wU hbU
          have HU := hidI (HW.out.trans (hbU.mono HW.out.size))
          clear hbU y1 y3 y5 x2 x4
          go_wp2_with fail
          exact ⟨⟨k + 1, by omega, by go_num, HU⟩, by simp [intOf]; omega⟩
        · have hb2 : decide (p.1.fin < x.1.beg) = false := decide_eq_false hf
          clear hre hkd
          go_wp2_with fail
          refine wp_region_grow (by kernel_rfl) (by kernel_rfl) ?_
          repeat (go_big_quiet_step (fail))
          refine wpQuiet_nil ?_
          intro wU hbU
          have HU := hidI (HW.out.trans (hbU.mono HW.out.size))
          clear hbU y1 y3 y5 x2 x4
          go_wp2_with fail
          exact ⟨⟨k + 1, by omega, by go_num, HU⟩, by simp [intOf]; omega⟩
      · have hb1 : (p.1.kind == 1) = false := by simpa using hkd
        clear hre hkd
        go_wp2_with fail
        refine wp_region_grow (by kernel_rfl) (by kernel_rfl) ?_
        repeat (go_big_quiet_step (fail))
        refine wpQuiet_nil ?_
        intro wU hbU
        have HU := hidI (HW.out.trans (hbU.mono HW.out.size))
        clear hbU y1 y3 y5 x2 x4
        go_wp2_with fail
        exact ⟨⟨k + 1, by omega, by go_num, HU⟩, by simp [intOf]; omega⟩
    · obtain rfl : k = ps.length := by omega
      go_wp2_with fail
      go_ret
      exact ⟨rfl, HW.out⟩

/-- what before answers -/
def BeforePost (evs : List Ev) (n : Nat) (w : World) (e : Ending) (w' : World) : Prop := ∃ hb v cells, e = .returned (.pointer (some ⟨hb, 0, none⟩)) ∧ HeapAt w' w.heap.size hb v cells ∧ LogOf evs cells ∧ cells.length ≤ n ∧ Below w.heap.size w w'

theorem okRd_writes {l : List Ev} (h : ∀ e ∈ l, e.k ≠ 2) : ∀ f, okRd l f := by
  induction l with
  | nil => intro f; trivial
  | cons e l ih => intro f; exact ⟨fun q => absurd q (h e List.mem_cons_self), ih (fun d hd => h d (List.mem_cons_of_mem _ hd)) _⟩

set_option maxRecDepth 100000 in
set_option maxHeartbeats 8000000 in
theorem before_any {ao oo : Option Addr} {cap oc n : Nat} {ps : List (Att × Value)} {ord : List Nat} {x : Att × Value} (h : AttsR w (.slice ao ps.length cap) ps) (ho : RdT encZ w 1 (.slice oo ord.length oc) (zs ord)) (hx : ps[n]? = some x) (hlen : ps.length ≤ 262144) (hol : ord.length ≤ 262144) (hin : ∀ j ∈ ord, j < ps.length)
    (hk : ∀ p ∈ ps, ∀ e ∈ p.1.done, e.k = 2 ∨ e.k = 3) (hsum : asum (ord.map (attN (ps.map Prod.fst))) ≤ 131072) :
    Calls Try.prog 25 #[.slice ao ps.length cap, .slice oo ord.length oc, .int .i64 (n : Int)] w (BeforePost (snapE (ps.map Prod.fst) n x.1.clock ord) (asum (ord.map (attN (ps.map Prod.fst)))) w) := by
  have H := hidI h
  have HO := hidI ho
  have HX := hidI hx
  have HIN := hidI hin
  have HK := hidI hk
  have HS := hidI hsum
  have hnl : n < ps.length := (List.getElem?_eq_some_iff.1 hx).1
  have HNN : Hid (∀ (j : Nat) p, ps[j]? = some p → attN (ps.map Prod.fst) j = p.1) := hidI (fun j p hp => by unfold attN; rw [List.getElem?_map, hp]; rfl)
  clear h ho hx hin hk hsum
  go_enter Try.func25, Try.ntmps25
  go_wp2_with fail
  have HH3 := hidI (show HeapAt (w.alloc (.cells #[.slice none 0 0] 70)) w.heap.size w.heap.size (.slice none 0 0) [] from ⟨block_new _ _, Nat.le_refl _, World.ownsRow_nil _ _ _ _, fun g hg => by simp [Value.ownBlock] at hg⟩)
  have HB3 : Hid (Below w.heap.size w (w.alloc (.cells #[.slice none 0 0] 70))) := hidI ((Below.refl _ _).alloc (Nat.le_refl _) _)
  generalize w.alloc (.cells #[.slice none 0 0] 70) = w3 at HH3 HB3 ⊢
  go_loopw [8] (fun i wr => ∃ (k : Nat) (v : Value) (cells : List (Int × Int)), k ≤ ord.length ∧ i = .int .i64 (k : Int) ∧ Hid (HeapAt wr w.heap.size w.heap.size v cells) ∧ Hid (LogOf (snapE (ps.map Prod.fst) n x.1.clock (ord.take k)) cells ∧ cells.length ≤ asum ((ord.take k).map (attN (ps.map Prod.fst)))) ∧ Hid (Below w.heap.size w wr)) (fun i _ => ((ord.length : Int) - intOf i).toNat)
  case atStart => exact ⟨0, _, [], by omega, rfl, HH3, hidI ⟨LogOf.nil, Nat.zero_le _⟩, HB3⟩
  case round =>
    obtain ⟨k, v, cells, hk, rfl, HH, HL, HW⟩ := hrel
    by_cases hlt : k < ord.length
    · obtain ⟨j, hj⟩ := some_at (l := ord) (k := k) hlt
      have hjl := HIN.out j (List.mem_of_getElem? hj)
      obtain ⟨⟨p, dv⟩, hp⟩ := some_at (l := ps) (k := j) hjl
      have hpn := HNN.out j _ hp
      simp only at hpn
      obtain ⟨dao, dcap, hdv⟩ := Rd.shape (H.out.evs _ (List.mem_of_getElem? hp))
      simp only at hdv
      subst hdv
      have HEV := hidI (show ∀ W, Below w.heap.size w W → RdT encEv W 4 (.slice dao p.done.length dcap) p.done from fun W hW => Rd.below (H.out.evs _ (List.mem_of_getElem? hp)) hW)
      have HKI := hidI (show ∀ e ∈ p.done, e.k = 2 ∨ e.k = 3 from HK.out _ (List.mem_of_getElem? hp))
      have HSN := hidI (show snapE (ps.map Prod.fst) n x.1.clock (ord.take (k + 1)) = snapE (ps.map Prod.fst) n x.1.clock (ord.take k) ++ (if j ≠ n ∧ p.place ≤ x.1.clock then wrs p.done else []) from by rw [take_snoc hj, snapE_snoc, hpn])
      have HAS := hidI (show asum ((ord.take (k + 1)).map (attN (ps.map Prod.fst))) = asum ((ord.take k).map (attN (ps.map Prod.fst))) + p.done.length from by rw [take_snoc hj, List.map_append, asum_app, List.map_singleton, hpn]; simp [asum])
      have hal : asum ((ord.take k).map (attN (ps.map Prod.fst))) + p.done.length ≤ 131072 := by
        rw [← HAS.out, List.map_take]
        exact Nat.le_trans (asum_take _ _) HS.out
      have HAL := hidI hal
      obtain ⟨oa, oo', eo, hso, hco⟩ := RdT.at encZ_len (Rd.below HO.out HW.out) (show (zs ord)[k]? = some (j : Int) from by unfold zs; rw [List.getElem?_map, hj]; rfl)
      subst eo
      have z0 := hco 0 _ rfl
      simp only [Nat.mul_one, Nat.add_zero] at z0
      obtain ⟨b, off, rfl, hs1, hc⟩ := RdT.at (enc := enc2) enc2_len (Rd.below H.out.row HW.out) hp
      obtain ⟨b2, off2, e2, hs2, hc2⟩ := RdT.at (enc := enc2) enc2_len (Rd.below H.out.row HW.out) HX.out
      simp only [Option.some.injEq, Addr.mk.injEq, and_true] at e2
      obtain ⟨rfl, rfl⟩ := e2
      have x0 := hc 0 _ rfl
      have x1 := hc 1 _ rfl
      have x2 := hc 2 _ rfl
      have x3 := hc 3 _ rfl
      have x4 := hc 4 _ rfl
      have x5 := hc 5 _ rfl
      have x6 := hc 6 _ rfl
      have x7 := hc 7 _ rfl
      simp only [Nat.add_zero] at x0
      obtain ⟨th, kind, beg, fin, clock, place', wri, done⟩ := p
      simp only at HEV HKI HSN HAS HAL hal x0 x1 x2 x3 x4 x5 x6 x7
      have hbx : Below wr.heap.size wr (wr.alloc (.cells #[.int .i64 th, .int .u8 kind, .int .i64 beg, .int .i64 fin, .int .i64 clock, .int .i64 place', .bool wri, .slice dao done.length dcap] 73)) := (Below.refl _ _).alloc (Nat.le_refl _) _
      have HBX := hidI (HW.out.trans (hbx.mono HW.out.size))
      have HHX := hidI (HH.out.below hbx)
      have HBL := hidI (block_new wr (.cells #[.int .i64 th, .int .u8 kind, .int .i64 beg, .int .i64 fin, .int .i64 clock, .int .i64 place', .bool wri, .slice dao done.length dcap] 73))
      have u4 := fun t => ext_cell (cell_later hbx (hc2 4 _ rfl)) t
      have z1 := fun t => ext_cell (cell_later hbx z0) t
      have q5 := fun t => ext_cell (cell_of_block (o := 5) (block_new wr (.cells #[.int .i64 th, .int .u8 kind, .int .i64 beg, .int .i64 fin, .int .i64 clock, .int .i64 place', .bool wri, .slice dao done.length dcap] 73)) rfl) t
      clear hc hs1 hc2 hs2 hco hso hj hp hpn hal hbx
      by_cases hjn : j = n
      · subst hjn
        have hb1 : ((j : Int) == (j : Int)) = true := by simp
        go_wp2_with fail
        refine wp_region_grow (by kernel_rfl) (by kernel_rfl) ?_
        repeat (go_big_quiet_step (fail))
        refine wpQuiet_nil ?_
        intro wU hbU
        have HU := hidI (HBX.out.trans (hbU.mono HBX.out.size))
        have HHU := hidI (HHX.out.below hbU)
        have HBU := hidI (blk hbU HBL.out)
        clear hbU x0 x1 x2 x3 x4 x5 x6 x7 z0 z1 u4 q5
        have HLN := hidI (show LogOf (snapE (ps.map Prod.fst) j x.1.clock (ord.take (k + 1))) cells ∧ cells.length ≤ asum ((ord.take (k + 1)).map (attN (ps.map Prod.fst))) from ⟨by rw [HSN.out, if_neg (fun e => e.1 rfl), List.append_nil]; exact HL.out.1, by rw [HAS.out]; have := HL.out.2; omega⟩)
        go_wp2_with fail
        exact ⟨⟨k + 1, v, cells, by omega, by go_num, HHU, HLN, HU⟩, by simp [intOf]; omega⟩
      · have hb1 : ((j : Int) == (n : Int)) = false := by simp; omega
        by_cases hpc : place' ≤ x.1.clock
        · have hg : ¬ x.1.clock < place' := by omega
          have HSN2 := hidI (show snapE (ps.map Prod.fst) n x.1.clock (ord.take (k + 1)) = snapE (ps.map Prod.fst) n x.1.clock (ord.take k) ++ wrs done from by rw [HSN.out, if_pos ⟨hjn, hpc⟩])
          go_wp2_with fail
          refine wp_region_grow (by kernel_rfl) (by kernel_rfl) ?_
          repeat (go_big_quiet_step (fail))
          refine wpQuiet_nil ?_
          intro wU hbU
          have HU := hidI (HBX.out.trans (hbU.mono HBX.out.size))
          have HHU := hidI (HHX.out.below hbU)
          have HBU := hidI (blk hbU HBL.out)
          have HNS := hidI (show ¬ (wr.heap.size = w.heap.size ∨ v.ownBlock = some wr.heap.size) from by
            rintro (e | e)
            · have := lt_of_block HH.out.blk; omega
            · have := (rowLt HH.out.row e).2; omega)
          obtain ⟨bx, hbxe⟩ : ∃ bx, bx = wr.heap.size := ⟨_, rfl⟩
          rw [← hbxe] at HNS HBU ⊢
          clear hbxe
          clear hbU x0 x1 x2 x3 x4 x5 x6 x7 z0 z1 u4 q5
          go_wp2_with fail
          obtain ⟨w8, hw8⟩ : ∃ w8, w8 = wU := ⟨_, rfl⟩
          subst hw8
          go_loopw [10] (fun i wr => ∃ (k2 : Nat) (v2 : Value) (cs : List (Int × Int)), k2 ≤ done.length ∧ i = .int .i64 (k2 : Int) ∧ Hid (HeapAt wr w.heap.size w.heap.size v2 cs) ∧ Hid (LogOf (snapE (ps.map Prod.fst) n x.1.clock (ord.take k) ++ wrs (done.take k2)) cs ∧ cs.length ≤ cells.length + k2) ∧ Hid (Chg (fun g => g = w.heap.size ∨ v.ownBlock = some g) w8 wr) ∧ Hid (∀ g, v2.ownBlock = some g → v.ownBlock = some g ∨ w8.heap.size ≤ g)) (fun i _ => ((done.length : Int) - intOf i).toNat)
          case atStart => exact ⟨0, v, cells, by omega, rfl, HHU, hidI ⟨by simpa [wrs] using HL.out.1, by omega⟩, hidI (Chg.refl _ _), hidI (fun g hg => .inl hg)⟩
          case round =>
            obtain ⟨k2, v2, cs, hk2, rfl, HH2, HL2, HC2, HV2⟩ := hrel
            have hxb := chgblk HC2.out HBU.out HNS.out
            have p7 : wr.cell? ⟨bx, 7, none⟩ = some (.slice dao done.length dcap) := cell_of_block hxb rfl
            have HWR := hidI (HU.out.trans (HC2.out.to_below HU.out.size HHU.out.ge))
            clear hxb
            have hdl : done.length ≤ 131072 := by have := HAL.out; omega
            by_cases hlt2 : k2 < done.length
            · obtain ⟨⟨eth, ek, ea, eb⟩, he⟩ := some_at hlt2
              obtain ⟨b3, off3, e3, hs3, hc3⟩ := RdT.at encEv_len (HEV.out _ HWR.out) he
              subst e3
              have v0 := hc3 0 _ rfl
              have v1 := hc3 1 _ rfl
              have v2' := hc3 2 _ rfl
              have v3 := hc3 3 _ rfl
              simp only [Nat.add_zero] at v0
              have hkk := HKI.out _ (List.mem_of_getElem? he)
              simp only at hkk
              have HTK := hidI (show wrs (done.take (k2 + 1)) = wrs (done.take k2) ++ wrs [⟨eth, ek, ea, eb⟩] from by rw [take_snoc he]; unfold wrs; rw [List.filter_append])
              clear hc3 hs3 he
              rcases hkk with rfl | rfl
              · have hbe : Below wr.heap.size wr (wr.alloc (.cells #[.int .i64 eth, .int .u8 2, .int .i64 ea, .int .i64 eb] 57)) := (Below.refl _ _).alloc (Nat.le_refl _) _
                have HHE := hidI (HH2.out.below hbe)
                have HCE := hidI (Chg.then_ (S := fun g => g = w.heap.size ∨ v.ownBlock = some g) HC2.out (Chg.of_below (S := fun g => g = w.heap.size ∨ v.ownBlock = some g) hbe) (fun k _ hk => hk))
                clear hbe
                go_wp2_with fail
                exact ⟨⟨k2 + 1, v2, cs, by omega, by go_num, HHE, hidI ⟨by rw [HTK.out]; simpa [wrs] using HL2.out.1, by have := HL2.out.2; omega⟩, HCE, HV2⟩, by simp [intOf]; omega⟩
              · have hbe : Below wr.heap.size wr ((wr.alloc (.cells #[.int .i64 eth, .int .u8 3, .int .i64 ea, .int .i64 eb] 57)).alloc (.cells #[.int .i64 eth, .int .u8 3, .int .i64 ea, .int .i64 eb] 57)) := ((Below.refl _ _).alloc (Nat.le_refl _) _).alloc (by simp) _
                have HHE := hidI (HH2.out.below hbe)
                have HCE := hidI (Chg.then_ (S := fun g => g = w.heap.size ∨ v.ownBlock = some g) HC2.out (Chg.of_below (S := fun g => g = w.heap.size ∨ v.ownBlock = some g) hbe) (fun k _ hk => hk))
                have hlit := block_new2 wr (.cells #[.int .i64 eth, .int .u8 3, .int .i64 ea, .int .i64 eb] 57) (.cells #[.int .i64 eth, .int .u8 3, .int .i64 ea, .int .i64 eb] 57)
                have hnl2 : ¬ (wr.heap.size + 1 = w.heap.size ∨ v2.ownBlock = some (wr.heap.size + 1)) := by
                  rintro (e | e)
                  · have := lt_of_block HH2.out.blk; omega
                  · have := (rowLt HH2.out.row e).2; omega
                have HRD := hidI (show ∀ W, Chg (fun g => g = w.heap.size ∨ v2.ownBlock = some g) ((wr.alloc (.cells #[.int .i64 eth, .int .u8 3, .int .i64 ea, .int .i64 eb] 57)).alloc (.cells #[.int .i64 eth, .int .u8 3, .int .i64 ea, .int .i64 eb] 57)) W → RdT encEv W 4 (.slice (some ⟨wr.heap.size + 1, 0, none⟩) ([⟨eth, 3, ea, eb⟩] : List Ev).length 1) [⟨eth, 3, ea, eb⟩] from fun W hW => rdt_lit encEv_len (chgblk hW hlit hnl2) rfl)
                have HLN := hidI (show cs.length + 1 ≤ 262144 from by have := HL2.out.2; have := HL.out.2; have := HAL.out; omega)
                have HBW := hidI (show w.heap.size ≤ ((wr.alloc (.cells #[.int .i64 eth, .int .u8 3, .int .i64 ea, .int .i64 eb] 57)).alloc (.cells #[.int .i64 eth, .int .u8 3, .int .i64 ea, .int .i64 eb] 57)).heap.size from Nat.le_trans HWR.out.size hbe.size)
                clear hbe hlit hnl2
                go_wp2_with fail
                refine (hdone_any (done := [⟨eth, 3, ea, eb⟩]) 0 0 0 0 0 0 false HHE.out HL2.out.1 HRD.out (by simp) (okRd_writes (by simp) _) HLN.out HBW.out).mono ?_
                rintro e w9 ⟨rfl, v9, cells9, hh9, hl9, hn9, hc9, hv9⟩
                have HH9 := hidI hh9
                have HC9 := hidI (Chg.then_ (S := fun g => g = w.heap.size ∨ v.ownBlock = some g) HCE.out hc9 (fun g hlt hk => by
                  rcases hk with e | e
                  · exact .inl e
                  · rcases HV2.out g e with q | q
                    · exact .inr q
                    · omega))
                have HV9 := hidI (show ∀ g, v9.ownBlock = some g → v.ownBlock = some g ∨ w8.heap.size ≤ g from fun g hg => by
                  rcases hv9 g hg with e | e
                  · exact HV2.out g e
                  · have := HCE.out.size; exact .inr (by omega))
                have HL9 := hidI (show LogOf (snapE (ps.map Prod.fst) n x.1.clock (ord.take k) ++ wrs (done.take (k2 + 1))) cells9 ∧ cells9.length ≤ cells.length + (k2 + 1) from ⟨by rw [HTK.out, ← List.append_assoc]; simpa [wrs] using hl9, by have := HL2.out.2; simp at hn9; omega⟩)
                clear hh9 hl9 hn9 hc9 hv9
                go_wp2_with fail
                exact ⟨⟨k2 + 1, v9, cells9, by omega, by go_num, HH9, HL9, HC9, HV9⟩, by simp [intOf]; omega⟩
            · obtain rfl : k2 = done.length := by omega
              have HLN := hidI (show LogOf (snapE (ps.map Prod.fst) n x.1.clock (ord.take (k + 1))) cs ∧ cs.length ≤ asum ((ord.take (k + 1)).map (attN (ps.map Prod.fst))) from ⟨by have := HL2.out.1; rw [List.take_length] at this; rw [HSN2.out]; exact this, by have := HL2.out.2; have := HL.out.2; rw [HAS.out]; omega⟩)
              go_wp2_with fail
              exact ⟨⟨k + 1, v2, cs, by omega, by go_num, HH2, HLN, HWR⟩, by simp [intOf]; omega⟩
        · have hg : x.1.clock < place' := by omega
          clear hpc
          go_wp2_with fail
          refine wp_region_grow (by kernel_rfl) (by kernel_rfl) ?_
          repeat (go_big_quiet_step (fail))
          refine wpQuiet_nil ?_
          intro wU hbU
          have HU := hidI (HBX.out.trans (hbU.mono HBX.out.size))
          have HHU := hidI (HHX.out.below hbU)
          have HBU := hidI (blk hbU HBL.out)
          clear hbU x0 x1 x2 x3 x4 x5 x6 x7 z0 z1 u4 q5
          have HLN := hidI (show LogOf (snapE (ps.map Prod.fst) n x.1.clock (ord.take (k + 1))) cells ∧ cells.length ≤ asum ((ord.take (k + 1)).map (attN (ps.map Prod.fst))) from ⟨by rw [HSN.out, if_neg (fun e => absurd e.2 (by omega)), List.append_nil]; exact HL.out.1, by rw [HAS.out]; have := HL.out.2; omega⟩)
          go_wp2_with fail
          exact ⟨⟨k + 1, v, cells, by omega, by go_num, HHU, HLN, HU⟩, by simp [intOf]; omega⟩
    · obtain rfl : k = ord.length := by omega
      have hl := HL.out
      rw [List.take_length] at hl
      go_wp2_with fail
      go_ret
      exact ⟨w.heap.size, v, cells, rfl, HH.out, hl.1, hl.2, HW.out⟩
end Go.Proofs.Ytlphjkgjcfhihaa

/- Part of the proof: EmS -/
import Derived.Test.YtgodmogkhgilmaaGreatDoorP18
import Derived.Test.YtgodmogkhgilmaaGreatDoorP19
namespace Go.Proofs.YtgodmogkhgilmaaGreatDoor
open Go.RowKit
set_option linter.unusedVariables false
set_option linter.unusedSimpArgs false
set_option maxHeartbeats 8000000
set_option maxRecDepth 100000
variable {w w' : World}
def txOf (words size : Int) (p : PlaceD) (th : Int) : TxC := ⟨words, size, p.a, p.b, p.c, p.d, p.e, p.a + 1, th, p.a⟩
theorem tk_over {n : Int} {s : Int × Bool} (h : s.2 = true) : (tk n s).2 = true := by unfold tk; split <;> simp [h]
theorem fin_over (zs : List Int) : ∀ {s : Int × Bool}, s.2 = true → (fin zs s).2 = true := by
  induction zs with
  | nil => intro s h; exact h
  | cons n l ih => intro s h; exact ih (tk_over (tk_over (tk_over (tk_over h))))
def InMem (x : Int) : Prop := 1 ≤ x ∧ x ≤ 262144
theorem places_in (zs : List Int) (hz : ∀ n ∈ zs, 0 ≤ n) : ∀ {s : Int × Bool}, InMem s.1 → ∀ q ∈ placesOf zs s, InMem q.a ∧ InMem q.b ∧ InMem q.c ∧ InMem q.d ∧ InMem q.e := by
  induction zs with
  | nil => intro s _ q hq; cases hq
  | cons n l ih =>
    intro s hs q hq
    have h1 := tk_ok (hz n List.mem_cons_self) hs
    have h2 := tk_ok (n := 128) (by decide) h1
    have h3 := tk_ok (n := 64) (by decide) h2
    have h4 := tk_ok (n := 4096) (by decide) h3
    rcases List.mem_cons.1 hq with rfl | hq
    · exact ⟨hs, h1, h2, h3, h4⟩
    · exact ih (fun m hm => hz m (List.mem_cons_of_mem _ hm)) h4 q hq
theorem mkErr_words {words : Int} {zs : List Int} (h : mkErr words zs = 0) : 0 ≤ words ∧ words ≤ 262144 := by
  have h0 : ¬ words < 0 := fun q => by rw [mkErr, if_pos q] at h; cases h
  refine ⟨by omega, ?_⟩
  rcases (by omega : 262144 < words ∨ words ≤ 262144) with q | q
  · exfalso
    unfold mkErr at h
    rw [if_neg h0] at h
    split at h
    · cases h
    · split at h
      · cases h
      · have : (fin zs (s0 words)).2 = true := fin_over zs (tk_over (by unfold tk; rw [if_pos (by simp only; omega)]))
        rw [if_pos this] at h
        cases h
  · exact q
theorem Planned.places {words size : Int} {ps : List PlaceD} (h : Planned words size ps) : ps = placesOf (framesOf ps) (s0 words) := by
  have := h.2.2.2
  unfold mkP at this
  rw [if_pos h.2.1] at this
  exact this.symm
theorem Planned.len {words size : Int} {ps : List PlaceD} (h : Planned words size ps) : ps.length ≤ 4 := by
  have := mkP_len words (framesOf ps)
  rw [h.2.2.2] at this
  exact this
theorem Planned.mem {words size : Int} {ps : List PlaceD} (h : Planned words size ps) : ∀ q ∈ ps, (InMem q.a ∧ InMem q.b ∧ InMem q.c ∧ InMem q.d ∧ InMem q.e) ∧ q.a + 32 ≤ q.b := by
  intro q hq
  have hw := mkErr_words h.2.1
  have hq' := hq
  rw [h.places] at hq'
  have h1 := places_in (framesOf ps) (fun n hn => by
    obtain ⟨p, hp, rfl⟩ := List.mem_map.1 hn
    have := h.1 p hp
    omega) (s := s0 words) (tk_ok (by decide) (tk_ok hw.1 ⟨by decide, by decide⟩)) q hq'
  refine ⟨h1, ?_⟩
  have h2 := h.1 q hq
  unfold frameOf wrap64 at h2
  obtain ⟨⟨a1, a2⟩, ⟨b1, b2⟩, -⟩ := h1
  omega
theorem Planned.ok {words size : Int} {ps : List PlaceD} (h : Planned words size ps) {k : Nat} {p : PlaceD} (hp : ps[k]? = some p) : TxOk (txOf words size p k) := by
  obtain ⟨⟨⟨a1, a2⟩, ⟨b1, b2⟩, ⟨c1, c2⟩, ⟨d1, d2⟩, -⟩, hf⟩ := h.mem p (List.mem_of_getElem? hp)
  have hw := mkErr_words h.2.1
  have hk := (List.getElem?_eq_some_iff.1 hp).1
  have hl := h.len
  exact ⟨hw, ⟨by simp only [txOf]; omega, b2⟩, ⟨by simp only [txOf]; omega, c2⟩, ⟨by simp only [txOf]; omega, d2⟩, ⟨by simp only [txOf]; omega, by simp only [txOf]; omega⟩, ⟨by simp only [txOf]; omega, by simp only [txOf]; omega⟩, ⟨by simp only [txOf]; omega, a2⟩⟩
def encR (p : Value × List Tx) : List Value := [p.1]
theorem encR_len : ∀ p, (encR p).length = 1 := fun _ => rfl
structure RowsAt (w : World) (v : Value) (rs : List (Value × List Tx)) : Prop where
  rows : RdT encR w 1 v rs
  each : ∀ p ∈ rs, RdT encTxD w 4 p.1 p.2
theorem RowsAt.below {v : Value} {rs : List (Value × List Tx)} (h : RowsAt w v rs) (hb : Below w.heap.size w w') : RowsAt w' v rs := ⟨Rd.below h.rows hb, fun p hp => Rd.below (h.each p hp) hb⟩
def txTotal (rs : List (Value × List Tx)) : Nat := (rs.map fun p => p.2.length + 1).sum
theorem txTotal_step {rs : List (Value × List Tx)} {k : Nat} {p : Value × List Tx} (h : rs[k]? = some p) : txTotal (rs.take (k + 1)) = txTotal (rs.take k) + (p.2.length + 1) := by
  unfold txTotal
  rw [take_snoc h]
  simp
theorem txTotal_app (a b : List (Value × List Tx)) : txTotal (a ++ b) = txTotal a + txTotal b := by unfold txTotal; rw [List.map_append, List.sum_append]
theorem txTotal_le (rs : List (Value × List Tx)) (k : Nat) : txTotal (rs.take k) ≤ txTotal rs := by
  have := txTotal_app (rs.take k) (rs.drop k)
  rw [List.take_append_drop] at this
  omega
theorem txTotal_len (rs : List (Value × List Tx)) : rs.length ≤ txTotal rs := by
  unfold txTotal
  induction rs with
  | nil => simp
  | cons p r ih => simp only [List.map_cons, List.sum_cons, List.length_cons]; omega
def okRows (words : Int) (rs : List (Value × List Tx)) : Bool := rs.all fun p => p.2.all (okTx words)
def rowsCd (t : TxC) (rs : List (List Tx)) : Cd := rs.foldl (fun c l => c.txs t l) (Cd.new.start t)
def StraightPost (words size : Int) (ps : List PlaceD) (thread : Int) (rs : List (Value × List Tx)) (w : World) (e : Ending) (w' : World) : Prop :=
  Below w.heap.size w w' ∧
  ((e = .returned (.tuple #[.slice none 0 0, .int .i64 1]) ∧ ¬ (Planned words size ps ∧ 0 ≤ thread ∧ thread < ps.length ∧ okRows words rs = true)) ∨
   ∃ (k : Nat) (p : PlaceD), thread = k ∧ ps[k]? = some p ∧ Planned words size ps ∧ okRows words rs = true ∧
    ((e = .returned (.tuple #[.slice none 0 0, .int .i64 3]) ∧ ∃ j, j ≤ rs.length ∧ ((rowsCd (txOf words size p k) ((rs.take j).map Prod.snd)).over = true ∨ (rowsCd (txOf words size p k) ((rs.take j).map Prod.snd)).halt.over = true)) ∨
     ∃ g, e = .returned (.tuple #[.slice (some ⟨g, 0, none⟩) (rowsCd (txOf words size p k) (rs.map Prod.snd)).halt.ops.length (rowsCd (txOf words size p k) (rs.map Prod.snd)).halt.ops.length, .int .i64 0]) ∧
      w'.heap[g]? = some (.cells ((rowsCd (txOf words size p k) (rs.map Prod.snd)).halt.done.flatMap encOp).toArray 101 (0, 0)) ∧ w.heap.size ≤ g ∧ (rowsCd (txOf words size p k) (rs.map Prod.snd)).halt.over = false ∧ (rowsCd (txOf words size p k) (rs.map Prod.snd)).halt.ops.length ≤ 262144))
theorem straight_any {tao ra : Option Addr} {tcap rc : Nat} {ps : List PlaceD} {rs : List (Value × List Tx)} (hp : RdT encP w 5 (.slice tao ps.length tcap) ps) (hr : RowsAt w (.slice ra rs.length rc) rs) (hpl : ps.length ≤ 262144) (htot : txTotal rs ≤ 262144) (words size thread : Int) :
    Calls Tryz.prog 20 #[.agg #[.int .i64 words, .slice tao ps.length tcap, .int .i64 size], .int .i64 thread, .slice ra rs.length rc] w (StraightPost words size ps thread rs w) := by
  have HP := hidI hp
  have HR := hidI hr
  have HPL := hidI hpl
  have HTOT := hidI htot
  have HRL := hidI (Nat.le_trans (txTotal_len rs) htot)
  clear hp hr hpl htot
  go_enter Tryz.func20, Tryz.ntmps20
  go_wp2_with fail
  have HB0 := hidI ((Below.refl w.heap.size w).alloc (Nat.le_refl _) (.cells #[.int .i64 words, .slice tao ps.length tcap, .int .i64 size] 76))
  have HX0 := hidI (block_new w (.cells #[.int .i64 words, .slice tao ps.length tcap, .int .i64 size] 76))
  have HG0 := hidI (Nat.le_refl w.heap.size)
  obtain ⟨bp, hbp⟩ : ∃ b, b = w.heap.size := ⟨_, rfl⟩
  have HBP := hidI hbp
  rw [← hbp] at HX0 ⊢
  generalize w.alloc (.cells #[.int .i64 words, .slice tao ps.length tcap, .int .i64 size] 76) = w0 at HB0 HX0 ⊢
  clear hbp
  have p0 : w0.cell? ⟨bp, 0, none⟩ = some (.int .i64 words) := cell_of_block HX0.out rfl
  have p1 : w0.cell? ⟨bp, 1, none⟩ = some (.slice tao ps.length tcap) := cell_of_block HX0.out rfl
  have p2 : w0.cell? ⟨bp, 2, none⟩ = some (.int .i64 size) := cell_of_block HX0.out rfl
  refine (planned_any (Rd.below HP.out HB0.out) HPL.out words size).mono ?_
  rintro e w1 ⟨b, rfl, hb, hb1⟩
  have HB1 := hidI (HB0.out.trans (hb1.mono HB0.out.size))
  have HX1 := hidI (blk hb1 HX0.out)
  have HPB := hidI hb
  clear hb hb1 p0 p1 p2
  have p0 : w1.cell? ⟨bp, 0, none⟩ = some (.int .i64 words) := cell_of_block HX1.out rfl
  have p1 : w1.cell? ⟨bp, 1, none⟩ = some (.slice tao ps.length tcap) := cell_of_block HX1.out rfl
  have p2 : w1.cell? ⟨bp, 2, none⟩ = some (.int .i64 size) := cell_of_block HX1.out rfl
  cases b with
  | false =>
    have HNO := hidI (show ¬ (Planned words size ps ∧ 0 ≤ thread ∧ thread < ps.length ∧ okRows words rs = true) from fun h => by have := HPB.out.2 h.1; cases this)
    go_wp2_with fail
    go_ret2
    exact ⟨HB1.out, .inl ⟨rfl, HNO.out⟩⟩
  | true =>
    have HPD := hidI (HPB.out.1 rfl)
    by_cases ht0 : thread < 0
    · have q1 : decide (thread < 0) = true := decide_eq_true ht0
      have HNO := hidI (show ¬ (Planned words size ps ∧ 0 ≤ thread ∧ thread < ps.length ∧ okRows words rs = true) from fun h => by have := h.2.1; omega)
      clear ht0
      go_wp2_with fail
      go_ret2
      exact ⟨HB1.out, .inl ⟨rfl, HNO.out⟩⟩
    obtain ⟨th, rfl⟩ : ∃ n : Nat, thread = n := ⟨thread.toNat, by omega⟩
    have q1 : decide ((th : Int) < 0) = false := decide_eq_false (by omega)
    by_cases htl : ps.length ≤ th
    · have q2 : decide (ps.length ≤ th) = true := decide_eq_true htl
      have HNO := hidI (show ¬ (Planned words size ps ∧ 0 ≤ (th : Int) ∧ (th : Int) < ps.length ∧ okRows words rs = true) from fun h => by have := h.2.2.1; omega)
      clear ht0 htl
      go_wp2_with fail
      go_ret2
      exact ⟨HB1.out, .inl ⟨rfl, HNO.out⟩⟩
    have q2 : decide (ps.length ≤ th) = false := decide_eq_false htl
    have HTL := hidI htl
    clear ht0 htl
    go_wp2_with fail
    have hrl := HRL.out
    go_loopw [30] (fun i wr => ∃ j : Nat, j ≤ rs.length ∧ i = .int .i64 (j : Int) ∧ Hid (∀ p ∈ rs.take j, p.2.all (okTx words) = true) ∧ Hid (Below w.heap.size w wr) ∧ Hid (wr.heap[bp]? = some (.cells #[.int .i64 words, .slice tao ps.length tcap, .int .i64 size] 76 (0, 0)))) (fun i _ => ((rs.length : Int) - intOf i).toNat)
    case atStart => exact ⟨0, Nat.zero_le _, rfl, hidI (fun p hp => by simp at hp), HB1, HX1⟩
    case round =>
      obtain ⟨j, hj, rfl, HA, HB, HX⟩ := hrel
      clear HB1 HX1 p0 p1 p2
      have hrl := HRL.out
      by_cases hlt : j < rs.length
      · obtain ⟨⟨rv, l⟩, hx⟩ := some_at hlt
        obtain ⟨g, off, rfl, hg, hc⟩ := RdT.at encR_len (Rd.below HR.out.rows HB.out) hx
        have d0 := hc 0 _ rfl
        simp only [Nat.mul_one, Nat.add_zero] at d0
        have hE := HR.out.each _ (List.mem_of_getElem? hx)
        obtain ⟨lo, lc, hrv⟩ := Rd.shape hE
        simp only at hrv
        subst hrv
        have hll : l.length ≤ 262144 := by
          have h1 := txTotal_step hx
          have h2 := txTotal_le rs (j + 1)
          have := HTOT.out
          simp only at h1; omega
        have HLL := hidI hll
        have HE := hidI (Rd.below hE HB.out)
        have HTK := hidI (take_snoc hx)
        have HXX := hidI hx
        clear hx hc hE hll
        go_wp2_with fail
        refine (containstx_any HX.out HE.out HLL.out).mono ?_
        rintro e w2 ⟨rfl, hb2⟩
        have HB2 := hidI (HB.out.trans (hb2.mono HB.out.size))
        have HX2 := hidI (blk hb2 HX.out)
        clear hb2 d0
        cases hall : l.all (okTx words) with
        | false =>
          have HNO := hidI (show ¬ (Planned words size ps ∧ 0 ≤ (th : Int) ∧ (th : Int) < ps.length ∧ okRows words rs = true) from fun h => by
            have h9 := List.all_eq_true.1 h.2.2.2 _ (List.mem_of_getElem? HXX.out)
            simp only at h9
            rw [hall] at h9
            cases h9)
          clear hall
          go_wp2_with fail
          go_ret2
          exact ⟨HB2.out, .inl ⟨rfl, HNO.out⟩⟩
        | true =>
          have HALL := hidI hall
          have HA2 := hidI (show ∀ p ∈ rs.take (j + 1), p.2.all (okTx words) = true from fun p hp => by
            rw [HTK.out] at hp
            rcases List.mem_append.1 hp with hp | hp
            · exact HA.out p hp
            · simp at hp; subst hp; exact HALL.out)
          clear hall
          go_wp2_with fail
          exact ⟨⟨j + 1, by omega, by go_num, HA2, HB2, HX2⟩, by simp [intOf]; omega⟩
      · obtain rfl : j = rs.length := by omega
        have HOK := hidI (show okRows words rs = true from List.all_eq_true.2 (fun p hp => HA.out p (by rw [List.take_length]; exact hp)))
        clear HA hj hlt hrl
        obtain ⟨w2, rfl⟩ : ∃ x, x = wr := ⟨_, rfl⟩
        have p0 : w2.cell? ⟨bp, 0, none⟩ = some (.int .i64 words) := cell_of_block HX.out rfl
        have p1 : w2.cell? ⟨bp, 1, none⟩ = some (.slice tao ps.length tcap) := cell_of_block HX.out rfl
        have p2 : w2.cell? ⟨bp, 2, none⟩ = some (.int .i64 size) := cell_of_block HX.out rfl
        obtain ⟨⟨xa, xb, xc, xd, xe⟩, hpx⟩ := some_at (l := ps) (k := th) (by have := HTL.out; omega)
        obtain ⟨g, off, hto, hg, hc⟩ := RdT.at encP_len (Rd.below HP.out HB.out) hpx
        subst hto
        have d0 := hc 0 _ rfl
        have d1 := hc 1 _ rfl
        have d2 := hc 2 _ rfl
        have d3 := hc 3 _ rfl
        have d4 := hc 4 _ rfl
        simp only [Nat.add_zero] at d0
        have HPX := hidI hpx
        have hti : (th : Int) < (ps.length : Int) := by have := HTL.out; omega
        have htn : th < ps.length := by have := HTL.out; omega
        clear hc hpx
        go_wp2_with fail
        have HB3 := hidI (HB.out.alloc HB.out.size (.cells #[.int .i64 xa, .int .i64 xb, .int .i64 xc, .int .i64 xd, .int .i64 xe] 113))
        have HX3 := hidI (block_alloc (o := .cells #[.int .i64 xa, .int .i64 xb, .int .i64 xc, .int .i64 xd, .int .i64 xe] 113) HX.out)
        have HY3 := hidI (block_new w2 (.cells #[.int .i64 xa, .int .i64 xb, .int .i64 xc, .int .i64 xd, .int .i64 xe] 113))
        have HZ3 := hidI (show w2.heap.size + 1 ≤ (w2.alloc (.cells #[.int .i64 xa, .int .i64 xb, .int .i64 xc, .int .i64 xd, .int .i64 xe] 113)).heap.size from by rw [World.size_alloc]; omega)
        obtain ⟨bl, hbl⟩ : ∃ b, b = w2.heap.size := ⟨_, rfl⟩
        have HBL := hidI (show w.heap.size ≤ bl from by have := HB.out.size; omega)
        rw [← hbl] at HY3 HZ3 ⊢
        clear hbl p0 p1 p2 d0 d1 d2 d3 d4 hti htn
        generalize w2.alloc (.cells #[.int .i64 xa, .int .i64 xb, .int .i64 xc, .int .i64 xd, .int .i64 xe] 113) = w3 at HB3 HX3 HY3 HZ3 ⊢
        have e1 : IntKind.i64.wrap (xa + 1) = xa + 1 := IntWalk.i64_in _ (by have h9 := (HPD.out.mem _ (List.mem_of_getElem? HPX.out)).1.1; unfold InMem at h9; simp only at h9; omega)
        have p0 : w3.cell? ⟨bp, 0, none⟩ = some (.int .i64 words) := cell_of_block HX3.out rfl
        have p1 : w3.cell? ⟨bp, 1, none⟩ = some (.slice (some ⟨g, off, none⟩) ps.length tcap) := cell_of_block HX3.out rfl
        have p2 : w3.cell? ⟨bp, 2, none⟩ = some (.int .i64 size) := cell_of_block HX3.out rfl
        have d0 : w3.cell? ⟨bl, 0, none⟩ = some (.int .i64 xa) := cell_of_block HY3.out rfl
        have d1 : w3.cell? ⟨bl, 1, none⟩ = some (.int .i64 xb) := cell_of_block HY3.out rfl
        have d2 : w3.cell? ⟨bl, 2, none⟩ = some (.int .i64 xc) := cell_of_block HY3.out rfl
        have d3 : w3.cell? ⟨bl, 3, none⟩ = some (.int .i64 xd) := cell_of_block HY3.out rfl
        have d4 : w3.cell? ⟨bl, 4, none⟩ = some (.int .i64 xe) := cell_of_block HY3.out rfl
        go_region_held3 (fun w' => w'.cell? ⟨bp, 0, none⟩ = some (.int .i64 words) ∧ w'.cell? ⟨bp, 1, none⟩ = some (.slice (some ⟨g, off, none⟩) ps.length tcap) ∧ w'.cell? ⟨bp, 2, none⟩ = some (.int .i64 size) ∧ w'.cell? ⟨bl, 0, none⟩ = some (.int .i64 xa) ∧ w'.cell? ⟨bl, 1, none⟩ = some (.int .i64 xb) ∧ w'.cell? ⟨bl, 2, none⟩ = some (.int .i64 xc) ∧ w'.cell? ⟨bl, 3, none⟩ = some (.int .i64 xd) ∧ w'.cell? ⟨bl, 4, none⟩ = some (.int .i64 xe)) (refine ⟨?_, ?_, ?_, ?_, ?_, ?_, ?_, ?_⟩ <;> first | assumption | simp only [World.cell?_drew, *] | exact pA0 _ | exact pA1 _ | exact pA2 _ | exact dA0 _ | exact dA1 _ | exact dA2 _ | exact dA3 _ | exact dA4 _) (first
          | (go_at_call 117; refine (emnew_any _).mono ?_; rintro e w4 ⟨bc, own0, rfl, hc0, ho0, hb4⟩; have HC0 := hidI hc0; have HO0 := hidI ho0; have HB4 := hidI (show Below w.heap.size w w4 from HB3.out.drew.trans (hb4.mono HB3.out.size)); have HS4 := hidI hb4.size; have HX4 := hidI (show w4.heap[bp]? = _ from blk hb4 HX3.out); have HY4 := hidI (show w4.heap[bl]? = _ from blk hb4 HY3.out); clear hc0 ho0 hb4 p0 p1 p2 d0 d1 d2 d3 d4; have p0 : w4.cell? ⟨bp, 0, none⟩ = some (.int .i64 words) := cell_of_block HX4.out rfl; have p1 : w4.cell? ⟨bp, 1, none⟩ = some (.slice (some ⟨g, off, none⟩) ps.length tcap) := cell_of_block HX4.out rfl; have p2 : w4.cell? ⟨bp, 2, none⟩ = some (.int .i64 size) := cell_of_block HX4.out rfl; have d0 : w4.cell? ⟨bl, 0, none⟩ = some (.int .i64 xa) := cell_of_block HY4.out rfl; have d1 : w4.cell? ⟨bl, 1, none⟩ = some (.int .i64 xb) := cell_of_block HY4.out rfl; have d2 : w4.cell? ⟨bl, 2, none⟩ = some (.int .i64 xc) := cell_of_block HY4.out rfl; have d3 : w4.cell? ⟨bl, 3, none⟩ = some (.int .i64 xd) := cell_of_block HY4.out rfl; have d4 : w4.cell? ⟨bl, 4, none⟩ = some (.int .i64 xe) := cell_of_block HY4.out rfl; have pA0 : ∀ o : Obj, (w4.alloc o).cell? ⟨bp, 0, none⟩ = some (.int .i64 words) := fun o => cell_of_block (block_alloc HX4.out) rfl; have pA1 : ∀ o : Obj, (w4.alloc o).cell? ⟨bp, 1, none⟩ = some (.slice (some ⟨g, off, none⟩) ps.length tcap) := fun o => cell_of_block (block_alloc HX4.out) rfl; have pA2 : ∀ o : Obj, (w4.alloc o).cell? ⟨bp, 2, none⟩ = some (.int .i64 size) := fun o => cell_of_block (block_alloc HX4.out) rfl; have dA0 : ∀ o : Obj, (w4.alloc o).cell? ⟨bl, 0, none⟩ = some (.int .i64 xa) := fun o => cell_of_block (block_alloc HY4.out) rfl; have dA1 : ∀ o : Obj, (w4.alloc o).cell? ⟨bl, 1, none⟩ = some (.int .i64 xb) := fun o => cell_of_block (block_alloc HY4.out) rfl; have dA2 : ∀ o : Obj, (w4.alloc o).cell? ⟨bl, 2, none⟩ = some (.int .i64 xc) := fun o => cell_of_block (block_alloc HY4.out) rfl; have dA3 : ∀ o : Obj, (w4.alloc o).cell? ⟨bl, 3, none⟩ = some (.int .i64 xd) := fun o => cell_of_block (block_alloc HY4.out) rfl; have dA4 : ∀ o : Obj, (w4.alloc o).cell? ⟨bl, 4, none⟩ = some (.int .i64 xe) := fun o => cell_of_block (block_alloc HY4.out) rfl)
          )
        have HT5 := hidI (show TxAt (w4.alloc (.cells (encRow bc (.slice (some ⟨g, off, none⟩) ps.length tcap) (txOf words size ⟨xa, xb, xc, xd, xe⟩ th)) 123)) own0 w4.heap.size bc (.slice (some ⟨g, off, none⟩) ps.length tcap) (txOf words size ⟨xa, xb, xc, xd, xe⟩ th) Cd.new 0 from ⟨HC0.out.alloc _, Keep.new HC0.out _⟩)
        have HB5 := hidI (show Below w.heap.size w (w4.alloc (.cells (encRow bc (.slice (some ⟨g, off, none⟩) ps.length tcap) (txOf words size ⟨xa, xb, xc, xd, xe⟩ th)) 123)) from HB4.out.alloc HB4.out.size _)
        have HW5 := hidI (show ∀ q, own0 q → w.heap.size ≤ q from fun q hq => Nat.le_trans HB3.out.size (HO0.out q hq))
        have HOKT := hidI (HPD.out.ok HPX.out)
        obtain ⟨br, hbr⟩ : ∃ b, b = w4.heap.size := ⟨_, rfl⟩
        rw [← hbr] at HT5 ⊢
        change Exit.then _ _ Exit.normal _ (w4.alloc (.cells (encRow bc (.slice (some ⟨g, off, none⟩) ps.length tcap) (txOf words size ⟨xa, xb, xc, xd, xe⟩ th)) 123))
        generalize w4.alloc (.cells (encRow bc (.slice (some ⟨g, off, none⟩) ps.length tcap) (txOf words size ⟨xa, xb, xc, xd, xe⟩ th)) 123) = w5 at HT5 HB5 ⊢
        obtain ⟨t, ht⟩ : ∃ t, t = txOf words size ⟨xa, xb, xc, xd, xe⟩ th := ⟨_, rfl⟩
        obtain ⟨tv, htv⟩ : ∃ v, v = Value.slice (some ⟨g, off, none⟩) ps.length tcap := ⟨_, rfl⟩
        rw [← ht] at HOKT
        rw [← ht, ← htv] at HT5
        have HTEQ := hidI ht
        clear hbr ht htv p0 p1 p2 d0 d1 d2 d3 d4 pA0 pA1 pA2 dA0 dA1 dA2 dA3 dA4 e1 HC0 HO0
        have x0 := HT5.out.x0
        go_wp2_with fail
        refine (txstart_any HT5.out HOKT.out (by omega)).mono ?_
        rintro e w6 ⟨rfl, own1, r1, r2, r3⟩
        have HT6 := hidI r1
        have HB6 := hidI (Chg.below HB5.out HB5.out.size r2.chg HW5.out)
        have HW6 := hidI (show ∀ q, own1 q → w.heap.size ≤ q from fun q hq => by
          rcases Nat.lt_or_ge q w5.heap.size with hl | hl
          · exact HW5.out q (r2.less q hl hq)
          · exact Nat.le_trans HB5.out.size hl)
        clear r1 r2 r3 x0 HT5 HB5 HW5
        have hrl := HRL.out
        go_wp2_with fail
        go_loopw [61] (fun i wr => ∃ (j : Nat) (cj : Cd) (oj : Nat → Prop), j ≤ rs.length ∧ i = .int .i64 (j : Int) ∧ Hid (TxAt wr oj br bc tv t cj (65 * j + 17 * txTotal (rs.take j))) ∧ Hid (∀ q, oj q → w.heap.size ≤ q) ∧ Hid (Below w.heap.size w wr) ∧ Hid (rowsCd t ((rs.take j).map Prod.snd) = cj)) (fun i _ => ((rs.length : Int) - intOf i).toNat)
        case atStart => exact ⟨0, _, own1, Nat.zero_le _, rfl, HT6, HW6, HB6, hidI rfl⟩
        case round =>
          obtain ⟨j, cj, oj, hj, rfl, HT, HW, HB, HC⟩ := hrel
          clear HT6 HW6 HB6
          have hrl := HRL.out
          have x0 := HT.out.x0
          by_cases hlt : j < rs.length
          · obtain ⟨⟨rv, l⟩, hx⟩ := some_at hlt
            obtain ⟨g9, off9, rfl, hg9, hc⟩ := RdT.at encR_len (Rd.below HR.out.rows HB.out) hx
            have d0 := hc 0 _ rfl
            simp only [Nat.mul_one, Nat.add_zero] at d0
            have hE := HR.out.each _ (List.mem_of_getElem? hx)
            obtain ⟨lo, lc, hrv⟩ := Rd.shape hE
            simp only at hrv
            subst hrv
            have hst := txTotal_step hx
            have hle := txTotal_le rs (j + 1)
            have hto := HTOT.out
            simp only at hst
            have HLL := hidI (show l.length ≤ 262144 from by omega)
            have HKB := hidI (show 65 * j + 17 * txTotal (rs.take j) + 17 * l.length ≤ 1099506000000 from by omega)
            have HKN := hidI (show 65 * j + 17 * txTotal (rs.take j) + 65 + 17 * l.length ≤ 65 * (j + 1) + 17 * txTotal (rs.take (j + 1)) from by omega)
            have HE := hidI (show RdK wr oj (.slice lo l.length lc) l from ⟨Rd.below hE HB.out, fun hl b hb ho => by
              obtain ⟨b', hb', hlt'⟩ := Rd.lt hE hl
              rw [hb] at hb'
              simp only [Option.some.injEq] at hb'
              have := HW.out b ho
              omega⟩)
            have HKI := hidI (show ∀ o ∈ l, o.kind = 2 ∨ o.kind = 3 from fun o ho => by
              have h9 := List.all_eq_true.1 (List.all_eq_true.1 HOK.out _ (List.mem_of_getElem? hx)) o ho
              simp only [okTx, Bool.and_eq_true, Bool.or_eq_true, decide_eq_true_eq] at h9
              exact h9.1.1)
            have HTK := hidI (take_snoc hx)
            clear hx hc hE hst hle hto
            go_wp2_with fail
            refine (txtxs_any HT.out HOKT.out HE.out HKI.out HLL.out HKB.out).mono ?_
            rintro e w7 ⟨rfl, own2, r1, r2, r3⟩
            have HT7 := hidI (r1.more HKN.out)
            have HB7 := hidI (Chg.below HB.out HB.out.size r2.chg HW.out)
            have HW7 := hidI (show ∀ q, own2 q → w.heap.size ≤ q from fun q hq => by
              rcases Nat.lt_or_ge q wr.heap.size with hl | hl
              · exact HW.out q (r2.less q hl hq)
              · exact Nat.le_trans HB.out.size hl)
            have HC7 := hidI (show rowsCd t ((rs.take (j + 1)).map Prod.snd) = cj.txs t l from by
              rw [HTK.out, List.map_append]
              unfold rowsCd at HC ⊢
              rw [List.foldl_append, HC.out]
              rfl)
            clear r1 r2 r3 x0 d0
            generalize cj.txs t l = c7 at HT7 HC7
            have x0 := HT7.out.x0
            obtain ⟨oo7, oc7, lo7, lc7, mb7, hin⟩ := HT7.out.code
            have c3 : w7.cell? ⟨bc, 3, none⟩ = some (.bool c7.over) := cell_of_block hin.blk rfl
            clear hin
            cases hov : c7.over with
            | true =>
              rw [hov] at c3
              have HOV := hidI hov
              clear hov
              go_wp2_with fail
              go_ret2
              refine ⟨HB7.out, .inr ⟨th, _, rfl, HPX.out, HPD.out, HOK.out, .inl ⟨rfl, j + 1, by omega, .inl ?_⟩⟩⟩
              rw [← HTEQ.out, HC7.out]
              exact HOV.out
            | false =>
              rw [hov] at c3
              clear hov
              go_wp2_with fail
              exact ⟨⟨j + 1, c7, own2, by omega, by go_num, HT7, HW7, HB7, HC7⟩, by simp [intOf]; omega⟩
          · obtain rfl : j = rs.length := by omega
            have hcj := HC.out
            rw [List.take_length] at hcj
            have HCJ := hidI hcj
            have HKB := hidI (show 65 * rs.length + 17 * txTotal (rs.take rs.length) ≤ 1099511627776 from by have h1 := txTotal_le rs rs.length; have h2 := HTOT.out; omega)
            clear hcj
            go_wp2_with fail
            refine (emhalt_any HT.out.code).mono ?_
            rintro e w7 ⟨rfl, own2, r1, r2, r3⟩
            have HT7 := hidI (HT.out.next r1 r2)
            have HB7 := hidI (Chg.below HB.out HB.out.size r2.chg HW.out)
            have HC7 := hidI (show (rowsCd t (rs.map Prod.snd)).halt = cj.halt from by rw [HCJ.out])
            clear r1 r2 r3 x0
            generalize cj.halt = c7 at HT7 HC7
            have x0 := HT7.out.x0
            obtain ⟨oo7, oc7, lo7, lc7, mb7, hin⟩ := HT7.out.code
            have c3 : w7.cell? ⟨bc, 3, none⟩ = some (.bool c7.over) := cell_of_block hin.blk rfl
            have HFEW := hidI hin.few
            clear hin
            cases hov : c7.over with
            | true =>
              rw [hov] at c3
              have HOV := hidI hov
              clear hov
              go_wp2_with fail
              go_ret2
              refine ⟨HB7.out, .inr ⟨th, _, rfl, HPX.out, HPD.out, HOK.out, .inl ⟨rfl, rs.length, Nat.le_refl _, .inr ?_⟩⟩⟩
              rw [← HTEQ.out, List.take_length, HC7.out]
              exact HOV.out
            | false =>
              rw [hov] at c3
              have HOV := hidI hov
              clear hov
              go_wp2_with fail
              refine (ops_any HT7.out.code HKB.out).mono ?_
              rintro e w8 ⟨g8, rfl, hg8, hge, hb8⟩
              have HB8 := hidI (HB7.out.trans (hb8.mono HB7.out.size))
              have HG8 := hidI hg8
              have HGE := hidI (Nat.le_trans HB7.out.size hge)
              clear hg8 hge hb8 x0 c3
              go_wp2_with fail
              go_ret2
              refine ⟨HB8.out, .inr ⟨th, _, rfl, HPX.out, HPD.out, HOK.out, .inr ⟨g8, ?_, ?_, HGE.out, ?_, ?_⟩⟩⟩
              · rw [← HTEQ.out, HC7.out]; rfl
              · rw [← HTEQ.out, HC7.out]; exact HG8.out
              · rw [← HTEQ.out, HC7.out]; exact HOV.out
              · rw [← HTEQ.out, HC7.out]; exact HFEW.out
end Go.Proofs.YtgodmogkhgilmaaGreatDoor

/- The walk of TlAlone. -/
import Derived.Test.YtimepfmbienbkaaTlR
import Derived.Test.YtimepfmbienbkaaTlAlone
namespace Go.Proofs.Ytimepfmbienbkaa
open Go.RowKit

set_option maxHeartbeats 2000000 in
theorem beyond1 {w : World} {b : Nat} {t : TypeId} (n : Nat) (hb : w.heap[b]? = some (.cells #[.int .i64 (n : Int)] t (0, 0))) (hn : n < 2 ^ 62) :
    Calls Try.prog 7 #[.slice (some ⟨b, 0, none⟩) 1 1] w fun e w' => e = .returned (.bool (decide (262144 < n))) ∧ Below w.heap.size w w' := by
  have x0 : w.cell? ⟨b, 0, none⟩ = some (.int .i64 (n : Int)) := cell_of_block hb rfl
  clear hb
  have g1 : ¬ ((n : Int) < 0) := by omega
  by_cases h : n ≤ 262144
  · have h1 : ¬ ((n : Int) > 262144) := by omega
    rw [show decide (262144 < n) = false from by simp; omega]
    go_enter Try.func7, Try.ntmps7
    go_wp2_with fail
    go_loopw [4, 3] (fun i acc wr => wr = w ∧ (i = .int .i64 0 ∧ acc = .int .i64 0 ∨ i = .int .i64 1 ∧ acc = .int .i64 (n : Int))) (fun i _ _ => (1 - intOf i).toNat)
    case atStart => exact ⟨rfl, .inl ⟨rfl, rfl⟩⟩
    case round =>
      obtain ⟨rfl, ⟨rfl, rfl⟩ | ⟨rfl, rfl⟩⟩ := hrel
      · go_wp2
        exact ⟨⟨trivial, .inr ⟨rfl, rfl⟩⟩, by simp [intOf]⟩
      · go_wp2
        go_ret
        exact ⟨rfl, Below.refl _ _⟩
  · have h1 : ((n : Int) > 262144) := by omega
    rw [show decide (262144 < n) = true from by simp; omega]
    go_enter Try.func7, Try.ntmps7
    go_wp2_with fail
    go_loopw [4, 3] (fun i acc wr => wr = w ∧ i = .int .i64 0 ∧ acc = .int .i64 0) (fun i _ _ => (1 - intOf i).toNat)
    case atStart => exact ⟨rfl, rfl, rfl⟩
    case round =>
      obtain ⟨rfl, rfl, rfl⟩ := hrel
      go_wp2
      go_ret
      exact ⟨rfl, Below.refl _ _⟩

theorem aloneTx_yes {words : Int} {l : List Tx} {o : Tx} (h : aloneOk words o = true) : aloneTx words (l ++ [o]) = aloneTx words l ++ [zeroTh o] := by simp [aloneTx, List.filter_append, h]
theorem aloneTx_no {words : Int} {l : List Tx} {o : Tx} (h : aloneOk words o = false) : aloneTx words (l ++ [o]) = aloneTx words l := by simp [aloneTx, List.filter_append, h]
theorem aloneWant_yes {words : Nat} {l : List Tx} {o : Tx} (h : aloneOk words o = true) : aloneWant words (l ++ [o]) = if o.kind = 3 then (aloneWant words l).set o.at_.toNat o.v else aloneWant words l := by simp [aloneWant, List.filter_append, h]
theorem aloneWant_no {words : Nat} {l : List Tx} {o : Tx} (h : aloneOk words o = false) : aloneWant words (l ++ [o]) = aloneWant words l := by simp [aloneWant, List.filter_append, h]
theorem aloneWrites_yes {words : Int} {l : List Tx} {o : Tx} (h : aloneOk words o = true) : aloneWrites words (l ++ [o]) = (aloneWrites words l || o.kind == 3) := by simp [aloneWrites, List.filter_append, h]
theorem aloneWrites_no {words : Int} {l : List Tx} {o : Tx} (h : aloneOk words o = false) : aloneWrites words (l ++ [o]) = aloneWrites words l := by simp [aloneWrites, List.filter_append, h]
theorem aloneTx_len (words : Int) (l : List Tx) : (aloneTx words l).length ≤ l.length := by
  unfold aloneTx
  rw [List.length_map]
  exact List.length_filter_le _ _
theorem aloneWant_len (words : Nat) (l : List Tx) : (aloneWant words l).length = words + 1 := by
  unfold aloneWant
  have : ∀ (l : List Tx) (m : List Int), (l.foldl (fun m o => if o.kind = 3 then m.set o.at_.toNat o.v else m) m).length = m.length := by
    intro l
    induction l with
    | nil => intro m; rfl
    | cons o l ih =>
      intro m
      rw [List.foldl_cons, ih]
      split
      · simp
      · rfl
  rw [this]
  simp

/-- what the first loop keeps -/
structure AloneSt (w0 w' : World) (words : Nat) (l : List Tx) (so : Option Addr) (n sp gw : Nat) : Prop where
  num : n = 1 + (aloneTx words l).length
  ops : w'.ownsRow w0.heap.size 37 4 (.slice so n sp) n ((beginTx :: aloneTx words l).flatMap encTx)
  want : w'.heap[gw]? = some (.cells ((aloneWant words l).map (Value.int .i64)).toArray 2 (0, 0))
  bel : Below w0.heap.size w0 w'
  gwb : w0.heap.size ≤ gw
  ne : ∀ g, (Value.slice so n sp).ownBlock = some g → g ≠ gw

theorem AloneSt.alloc {w0 w' : World} {words n sp gw : Nat} {l : List Tx} {so : Option Addr} (h : AloneSt w0 w' words l so n sp gw) (o : Obj) : AloneSt w0 (w'.alloc o) words l so n sp gw :=
  ⟨h.num, ownsRow_chg h.ops ((Chg.refl (fun _ => False) w').alloc o) (fun _ _ => id), block_alloc h.want, h.bel.alloc h.bel.size o, h.gwb, h.ne⟩

theorem AloneSt.push {w0 wr wa w5 : World} {words n sp gw cp5 : Nat} {l : List Tx} {so ao5 : Option Addr} (h : AloneSt w0 wr words l so n sp gw) {x : Tx} (hs : aloneOk words x = true) (hwa : Below wr.heap.size wr wa)
    (hown : w5.ownsRow w0.heap.size 37 4 (.slice ao5 (n + 1) cp5) (n + 1) ((beginTx :: aloneTx words l).flatMap encTx ++ encTx (zeroTh x)))
    (hfrom : ∀ g, (Value.slice ao5 (n + 1) cp5).ownBlock = some g → (Value.slice so n sp).ownBlock = some g ∨ wr.heap.size ≤ g) (hgrown : wa.grownBy w5 (Value.slice so n sp).ownBlock) :
    n + 1 = 1 + (aloneTx words (l ++ [x])).length ∧ w5.ownsRow w0.heap.size 37 4 (.slice ao5 (n + 1) cp5) (n + 1) ((beginTx :: aloneTx words (l ++ [x])).flatMap encTx) ∧
      w5.heap[gw]? = some (.cells ((aloneWant words l).map (Value.int .i64)).toArray 2 (0, 0)) ∧ Below w0.heap.size w0 w5 ∧ ∀ g, (Value.slice ao5 (n + 1) cp5).ownBlock = some g → g ≠ gw := by
  have hgl := lt_of_block h.want
  have hsz := hwa.size
  have hb0 := h.bel.size
  refine ⟨?_, ?_, ?_, ?_, ?_⟩
  · rw [aloneTx_yes hs, List.length_append, h.num]; simp; omega
  · rw [aloneTx_yes hs, ← List.cons_append, flat_snoc]; exact hown
  · rw [hgrown.block gw (by omega) (fun e => h.ne gw e.symm rfl), hwa.block gw hgl]
    exact h.want
  · refine (h.bel.trans (hwa.mono hb0)).trans ?_
    exact (((Chg.refl (fun k => w0.heap.size ≤ k) wa)).grown hgrown (fun k hk => .inl (ownLt h.ops hk).1)).to_below (by omega) (fun k hk => hk)
  · intro g hg
    rcases hfrom g hg with e | e
    · exact h.ne g e
    · omega

/-- what the second loop keeps -/
structure OpsSt (w0 w' : World) (L : List Tx) (W : List Int) (so : Option Addr) (n sp gw : Nat) : Prop where
  num : n = L.length
  ops : w'.ownsRow w0.heap.size 37 4 (.slice so n sp) n (L.flatMap encTx)
  want : w'.heap[gw]? = some (.cells (W.map (Value.int .i64)).toArray 2 (0, 0))
  bel : Below w0.heap.size w0 w'
  gwb : w0.heap.size ≤ gw
  ne : ∀ g, (Value.slice so n sp).ownBlock = some g → g ≠ gw

theorem OpsSt.push {w0 wr wa w5 : World} {n sp gw cp5 : Nat} {L : List Tx} {W : List Int} {so ao5 : Option Addr} (h : OpsSt w0 wr L W so n sp gw) {x : Tx} (hwa : Below wr.heap.size wr wa)
    (hown : w5.ownsRow w0.heap.size 37 4 (.slice ao5 (n + 1) cp5) (n + 1) (L.flatMap encTx ++ encTx x))
    (hfrom : ∀ g, (Value.slice ao5 (n + 1) cp5).ownBlock = some g → (Value.slice so n sp).ownBlock = some g ∨ wr.heap.size ≤ g) (hgrown : wa.grownBy w5 (Value.slice so n sp).ownBlock) :
    OpsSt w0 w5 (L ++ [x]) W ao5 (n + 1) cp5 gw := by
  have hgl := lt_of_block h.want
  have hsz := hwa.size
  have hb0 := h.bel.size
  refine ⟨?_, ?_, ?_, ?_, h.gwb, ?_⟩
  · rw [List.length_append, h.num]; rfl
  · rw [flat_snoc]; exact hown
  · rw [hgrown.block gw (by omega) (fun e => h.ne gw e.symm rfl), hwa.block gw hgl]
    exact h.want
  · refine (h.bel.trans (hwa.mono hb0)).trans ?_
    exact (((Chg.refl (fun k => w0.heap.size ≤ k) wa)).grown hgrown (fun k hk => .inl (ownLt h.ops hk).1)).to_below (by omega) (fun k hk => hk)
  · intro g hg
    rcases hfrom g hg with e | e
    · exact h.ne g e
    · omega

set_option maxRecDepth 100000 in
set_option maxHeartbeats 2000000 in
theorem alone_walk {w : World} {ao : Option Addr} {ca : Nat} {l : List Tx} (hl : RdT encTx w 4 (.slice ao l.length ca) l) (words : Int) (n1 : l.length < 2 ^ 62) :
    Calls Try.prog 5 #[.int .i64 words, .slice ao l.length ca] w fun e w' => e = .returned (.bool true) ∧ Below w.heap.size w w' := by
  have HL := hidI hl
  clear hl
  go_enter Try.func5, Try.ntmps5
  go_wp2_with fail
  refine (beyond1 l.length (block_new w _) n1).mono ?_
  rintro e w1 ⟨rfl, b1⟩
  have HB1 := hidI (bnextA (Below.refl _ w) b1)
  clear b1 n1
  by_cases hbig : 262144 < l.length
  · rw [decide_eq_true hbig]
    clear hbig
    go_wp2_with fail
    refine (lives_any _).mono ?_
    rintro e w2 ⟨rfl, b2⟩
    have HB2 := hidI (bnext HB1.out b2)
    clear b2
    go_wp2_with fail
    go_ret
    exact ⟨rfl, HB2.out⟩
  rw [decide_eq_false hbig]
  clear hbig
  by_cases hw1 : words < 1
  · go_wp2_with fail
    refine (lives_any _).mono ?_
    rintro e w2 ⟨rfl, b2⟩
    have HB2 := hidI (bnext HB1.out b2)
    clear b2
    go_wp2_with fail
    go_ret
    exact ⟨rfl, HB2.out⟩
  by_cases hw2 : 64 < words
  · go_wp2_with fail
    refine (lives_any _).mono ?_
    rintro e w2 ⟨rfl, b2⟩
    have HB2 := hidI (bnext HB1.out b2)
    clear b2
    go_wp2_with fail
    go_ret
    exact ⟨rfl, HB2.out⟩
  by_cases hw3 : 1000 < l.length
  · have hw4 : (1000 : Int) < (l.length : Int) := by omega
    go_wp2_with fail
    refine (lives_any _).mono ?_
    rintro e w2 ⟨rfl, b2⟩
    have HB2 := hidI (bnext HB1.out b2)
    clear b2
    go_wp2_with fail
    go_ret
    exact ⟨rfl, HB2.out⟩
  have hw4 : ¬ ((1000 : Int) < (l.length : Int)) := by omega
  obtain ⟨m, rfl⟩ : ∃ m : Nat, words = (m : Int) := ⟨words.toNat, by omega⟩
  have h64 : m ≤ 64 := by omega
  have HLL := hidI (show l.length ≤ 1000 from by omega)
  have HM := hidI h64
  obtain ⟨Z1, hZ1⟩ : ∃ c : Array Value, c = (List.replicate (m + 1) (Value.int .i64 0)).toArray := ⟨_, rfl⟩
  have hm1 := fun w => make_wides w (m + 1) (by omega) ((m : Int) + 1) (by omega) Z1 hZ1
  have HZ1 := hidI hZ1
  have e1 : IntKind.i64.wrap ((m : Int) + 1) = m + 1 := IntWalk.i64_in _ (by omega)
  clear hZ1 hw3
  go_wp2_with fail
  refine (begin_tx _ _).mono ?_
  rintro e w2 ⟨rfl, b2⟩
  have HB2 := hidI (bnext HB1.out b2)
  clear b2
  go_wp2_with fail
  have hst : AloneSt w2 ((w2.alloc (.cells (encTx beginTx).toArray 37)).alloc (.cells Z1 2)) m [] (some ⟨w2.heap.size, 0, none⟩) 1 1 (w2.heap.size + 1) := by
    refine ⟨rfl, ?_, ?_, ((Below.refl _ w2).alloc (Nat.le_refl _) _).alloc (by simp) _, by omega, fun g hg => by simp only [Value.ownBlock, Option.some.injEq] at hg; omega⟩
    · refine own_of_full (xs := encTx beginTx) (block_alloc (block_new w2 _)) (Nat.le_refl _) (by unfold maxLen; omega) rfl
    · rw [block_new2, HZ1.out]
      simp [aloneWant]
  have HST := hidI hst
  obtain ⟨i0, hi, hz0, hz1, hz2⟩ := info_parts txInfo
  have HI := hidI hi
  have HZ0 := hidI hz0
  have HZI := hidI hz1
  have HZ2 := hidI hz2
  clear hi hz0 hz1 hz2 hst hm1
  go_loopw [8, 5, 7] (fun i ov wv w' => ∃ (k n : Nat) (so : Option Addr) (sp : Nat), k ≤ l.length ∧ i = .int .i64 (k : Int) ∧ ov = .slice so n sp ∧ wv = .bool (aloneWrites m (l.take k)) ∧ Hid (AloneSt w2 w' m (l.take k) so n sp (w2.heap.size + 1))) (fun i _ _ _ => ((l.length : Int) - intOf i).toNat)
  case atStart => exact ⟨0, 1, _, 1, by omega, rfl, rfl, rfl, HST⟩
  case round =>
    obtain ⟨k, n, so, sp, hk, rfl, rfl, rfl, HS⟩ := hrel
    have hll : l.length ≤ 1000 := HLL.out
    by_cases hlt : k < l.length
    · obtain ⟨⟨xt, xk, xa, xv⟩, hx⟩ := some_at hlt
      have HB := hidI (HB2.out.trans (HS.out.bel.mono HB2.out.size))
      obtain ⟨g, off, rfl, hg, hc⟩ := RdT.at encTx_len HL.out hx
      have d0 : wr.cell? ⟨g, off + k * 4, none⟩ = some (.int .i64 xt) := (HB.out.cell hg).trans (hc 0 _ rfl)
      have d1 : wr.cell? ⟨g, off + k * 4 + 1, none⟩ = some (.int .u8 xk) := (HB.out.cell hg).trans (hc 1 _ rfl)
      have d2 : wr.cell? ⟨g, off + k * 4 + 2, none⟩ = some (.int .i64 xa) := (HB.out.cell hg).trans (hc 2 _ rfl)
      have d3 : wr.cell? ⟨g, off + k * 4 + 3, none⟩ = some (.int .i64 xv) := (HB.out.cell hg).trans (hc 3 _ rfl)
      have hw1' : IntKind.i64.wrap ((k : Int) + 1) = k + 1 := IntWalk.i64_in _ (by omega)
      have HT := hidI (take_snoc hx)
      clear hx hc hg
      cases hs : aloneOk m ⟨xt, xk, xa, xv⟩ with
      | false =>
        have HN := hidI (show AloneSt w2 wr m (l.take (k + 1)) so n sp (w2.heap.size + 1) from by
          have h := HS.out
          rw [HT.out]
          exact ⟨by rw [aloneTx_no hs]; exact h.num, by rw [aloneTx_no hs]; exact h.ops, by rw [aloneWant_no hs]; exact h.want, h.bel, h.gwb, h.ne⟩)
        have HWR := hidI (show aloneWrites m (l.take (k + 1)) = aloneWrites m (l.take k) from by rw [HT.out, aloneWrites_no hs])
        have hno : ¬ (1 ≤ xa ∧ xa ≤ m ∧ (xk = 2 ∨ xk = 3)) := by simpa [aloneOk] using hs
        clear hs
        by_cases s1 : xa < 1
        · have q1 : decide (xa < 1) = true := decide_eq_true s1
          clear hno
          go_wp2_with fail
          refine ⟨⟨k + 1, n, so, sp, by omega, by go_num, rfl, by rw [HWR.out], hidI (HN.out.alloc _)⟩, by simp [intOf]; omega⟩
        · have q1 : decide (xa < 1) = false := decide_eq_false s1
          by_cases s2 : (m : Int) < xa
          · have q2 : decide ((m : Int) < xa) = true := decide_eq_true s2
            clear hno
            go_wp2_with fail
            refine ⟨⟨k + 1, n, so, sp, by omega, by go_num, rfl, by rw [HWR.out], hidI (HN.out.alloc _)⟩, by simp [intOf]; omega⟩
          · have q2 : decide ((m : Int) < xa) = false := decide_eq_false s2
            have q3 : (xk != 2) = true := by simp only [bne_iff_ne]; omega
            have q4 : (xk != 3) = true := by simp only [bne_iff_ne]; omega
            clear hno
            go_wp2_with fail
            refine ⟨⟨k + 1, n, so, sp, by omega, by go_num, rfl, by rw [HWR.out], hidI (HN.out.alloc _)⟩, by simp [intOf]; omega⟩
      | true =>
        obtain ⟨s1, s2, s3⟩ : 1 ≤ xa ∧ xa ≤ m ∧ (xk = 2 ∨ xk = 3) := by simpa [aloneOk] using hs
        obtain ⟨a, rfl⟩ : ∃ a : Nat, xa = (a : Int) := ⟨xa.toNat, by omega⟩
        have q1 : decide ((a : Int) < 1) = false := decide_eq_false (by omega)
        have q2 : decide ((m : Int) < (a : Int)) = false := decide_eq_false (by omega)
        have q3 : decide (m < a) = false := decide_eq_false (by omega)
        have q4 : ¬ a < 1 := by omega
        have q5 : ¬ a = 0 := by omega
        have hnb : n ≤ 1001 := by
          have h1 := HS.out.num
          have h2 := aloneTx_len m (l.take k)
          rw [List.length_take] at h2
          omega
        have HNB := hidI hnb
        have HK := hidI (And.intro s1 s2)
        have HSS := hidI hs
        have hi := HI.out
        have hz0 := HZ0.out
        have hz1 := HZI.out
        have hz2 := HZ2.out
        clear hs hnb s1 s2
        rcases s3 with rfl | rfl
        · go_wp2_with (at_builtin; refine wpList_append_d _ rfl _ _ 22 rfl w2.heap.size 37 i0 _ 4 32 Try.underlying22 hi hz0 hz1 hz2 rfl (by decide) (.slice so n sp) n _ (by simp [Act.eval]) (ownsRow_chg HS.out.ops (((Chg.refl (fun _ => False) wr).alloc _).alloc _) (fun _ _ => id)) ⟨wr.heap.size + 1, 0, none⟩ 1 1 (encTx (zeroTh ⟨xt, 2, a, xv⟩)) (by simp [Act.eval]) rfl ?c1 ?c2 ?c3 ?c4 ?c5 ?_)
          case c1 => exact news_at (block_new2 _ _ _)
          case c2 => exact one_tx _
          case c3 => have := HNB.out; unfold maxLen; omega
          case c4 => have := HNB.out; omega
          case c5 => have := HS.out.bel.size; simp; omega
          intro ao5 cp5 w5 hown hfrom hgrown
          obtain ⟨p1, p2, p3, p4, p5⟩ := HS.out.push HSS.out (((Below.refl _ wr).alloc (Nat.le_refl _) _).alloc (by simp) _) hown (fun g hg => (hfrom g hg).imp id (fun e => by omega)) hgrown
          have hk5 : w5.heap[wr.heap.size]? = some (.cells #[.int .i64 0, .int .u8 2, .int .i64 (a : Int), .int .i64 xv] 37 (0, 0)) := by
            rw [hgrown.block _ (by simp; omega) (fun e => by have := (ownLt HS.out.ops e.symm).2; omega)]
            exact block_alloc (block_new wr _)
          have k1 := cell_of_block (o := 1) hk5 rfl
          have k2 := cell_of_block (o := 2) hk5 rfl
          have k3 := cell_of_block (o := 3) hk5 rfl
          have HN := hidI (show AloneSt w2 w5 m (l.take (k + 1)) ao5 (n + 1) cp5 (w2.heap.size + 1) from by
            rw [HT.out]
            exact ⟨p1, p2, by rw [aloneWant_yes HSS.out]; simpa using p3, p4, HS.out.gwb, p5⟩)
          have HWR := hidI (show aloneWrites m (l.take (k + 1)) = aloneWrites m (l.take k) from by rw [HT.out, aloneWrites_yes HSS.out]; simp)
          clear p1 p2 p3 p4 p5 hown hfrom hgrown hi hz0 hz1 hz2 hk5
          go_wp2_with fail
          refine ⟨⟨k + 1, n + 1, ao5, cp5, by omega, by go_num, rfl, by rw [HWR.out], HN⟩, by simp [intOf]; omega⟩
        · go_wp2_with (at_builtin; refine wpList_append_d _ rfl _ _ 22 rfl w2.heap.size 37 i0 _ 4 32 Try.underlying22 hi hz0 hz1 hz2 rfl (by decide) (.slice so n sp) n _ (by simp [Act.eval]) (ownsRow_chg HS.out.ops (((Chg.refl (fun _ => False) wr).alloc _).alloc _) (fun _ _ => id)) ⟨wr.heap.size + 1, 0, none⟩ 1 1 (encTx (zeroTh ⟨xt, 3, a, xv⟩)) (by simp [Act.eval]) rfl ?c1 ?c2 ?c3 ?c4 ?c5 ?_)
          case c1 => exact news_at (block_new2 _ _ _)
          case c2 => exact one_tx _
          case c3 => have := HNB.out; unfold maxLen; omega
          case c4 => have := HNB.out; omega
          case c5 => have := HS.out.bel.size; simp; omega
          intro ao5 cp5 w5 hown hfrom hgrown
          obtain ⟨p1, p2, p3, p4, p5⟩ := HS.out.push HSS.out (((Below.refl _ wr).alloc (Nat.le_refl _) _).alloc (by simp) _) hown (fun g hg => (hfrom g hg).imp id (fun e => by omega)) hgrown
          have hk5 : w5.heap[wr.heap.size]? = some (.cells #[.int .i64 0, .int .u8 3, .int .i64 (a : Int), .int .i64 xv] 37 (0, 0)) := by
            rw [hgrown.block _ (by simp; omega) (fun e => by have := (ownLt HS.out.ops e.symm).2; omega)]
            exact block_alloc (block_new wr _)
          have k1 := cell_of_block (o := 1) hk5 rfl
          have k2 := cell_of_block (o := 2) hk5 rfl
          have k3 := cell_of_block (o := 3) hk5 rfl
          have hal : a < (aloneWant m (l.take k)).length := by rw [aloneWant_len]; have := HK.out; omega
          have k4 : w5.cell? ⟨w2.heap.size + 1, a, none⟩ = some (.int .i64 ((aloneWant m (l.take k)).getD a 0)) := cell_of_block p3 (by simp [hal])
          have k5 : w5.frozen? ⟨w2.heap.size + 1, a, none⟩ = false := free_of_block p3
          have k6 : a < m + 1 := by have := HK.out; omega
          have hset := block_setCell (o := a) (.int .i64 xv) p3
          have HN := hidI (show AloneSt w2 (w5.setCell ⟨w2.heap.size + 1, a, none⟩ (.int .i64 xv)) m (l.take (k + 1)) ao5 (n + 1) cp5 (w2.heap.size + 1) from by
            rw [HT.out]
            refine ⟨p1, ownsRow_keep p2 fun g hg _ => Below.heap_setCell _ _ _ _ (p5 g hg), ?_, ?_, HS.out.gwb, p5⟩
            · rw [hset, aloneWant_yes HSS.out]
              simp [List.map_set]
            · exact p4.trans (((Chg.refl (fun k => k = w2.heap.size + 1) w5).setCell (p := ⟨w2.heap.size + 1, a, none⟩) (.inl rfl) _).to_below p4.size (fun k hk => by omega)))
          have HWR := hidI (show aloneWrites m (l.take (k + 1)) = true from by rw [HT.out, aloneWrites_yes HSS.out]; simp)
          clear p1 p2 p3 p4 p5 hown hfrom hgrown hi hz0 hz1 hz2 hk5 hset hal
          go_wp2_with fail
          refine ⟨⟨k + 1, n + 1, ao5, cp5, by omega, by go_num, rfl, by rw [HWR.out], HN⟩, by simp [intOf]; omega⟩
    · obtain rfl : k = l.length := by omega
      obtain ⟨wz, rfl⟩ : ∃ x, x = wr := ⟨_, rfl⟩
      rw [List.take_length]
      have h0 := HS.out
      rw [List.take_length] at h0
      have HS0 := hidI (show OpsSt w2 wz (beginTx :: aloneTx m l) (aloneWant m l) so n sp (w2.heap.size + 1) from ⟨by rw [h0.num]; simp; omega, h0.ops, h0.want, h0.bel, h0.gwb, h0.ne⟩)
      have HN0 := hidI (show (beginTx :: aloneTx m l).length ≤ 1001 from by have := aloneTx_len m l; simp; omega)
      have HAA := hidI (alone_all HM.out l)
      generalize hA : aloneWrites m l = wri at HAA ⊢
      generalize hW : aloneWant m l = W at HAA HS0
      generalize hL : beginTx :: aloneTx m l = L at HAA HS0 HN0
      have HWL := hidI (show W.length = m + 1 from by rw [← hW]; exact aloneWant_len m l)
      clear h0 hA hW hL HS hll hlt hk
      go_wp2_with fail
      go_loopw [10, 5] (fun i ov w' => ∃ (k n : Nat) (so : Option Addr) (sp : Nat), k ≤ 83 ∧ i = .int .i64 (k : Int) ∧ ov = .slice so n sp ∧ Hid (OpsSt w2 w' (L ++ List.replicate k stepTx) W so n sp (w2.heap.size + 1))) (fun i _ _ => ((83 : Int) - intOf i).toNat)
      case atStart => exact ⟨0, n, so, sp, by omega, rfl, rfl, hidI (by simpa using HS0.out)⟩
      case round =>
        obtain ⟨k, n, so, sp, hk, rfl, rfl, HS⟩ := hrel
        by_cases hlt : k < 83
        · have hw1' : IntKind.i64.wrap ((k : Int) + 1) = k + 1 := IntWalk.i64_in _ (by omega)
          have HNB := hidI (show n ≤ 1084 from by rw [HS.out.num]; have := HN0.out; simp; omega)
          go_wp2_with fail
          refine (step_tx _ _).mono ?_
          rintro e w4 ⟨rfl, b4⟩
          have HB4 := hidI b4
          have hi := HI.out
          have hz0 := HZ0.out
          have hz1 := HZI.out
          have hz2 := HZ2.out
          clear b4
          go_wp2_with (at_builtin; refine wpList_append_d _ rfl _ _ 22 rfl w2.heap.size 37 i0 _ 4 32 Try.underlying22 hi hz0 hz1 hz2 rfl (by decide) (.slice so n sp) n _ (by simp [Act.eval]) (ownsRow_chg HS.out.ops ((Chg.of_below (S := fun _ => False) HB4.out).alloc _) (fun _ _ => id)) ⟨w4.heap.size, 0, none⟩ 1 1 (encTx stepTx) (by simp [Act.eval]) rfl ?c1 ?c2 ?c3 ?c4 ?c5 ?_)
          case c1 => exact news_at (block_new _ _)
          case c2 => exact one_tx _
          case c3 => have := HNB.out; unfold maxLen; omega
          case c4 => have := HNB.out; omega
          case c5 => have := HS.out.bel.size; have := HB4.out.size; simp; omega
          intro ao5 cp5 w5 hown hfrom hgrown
          have HP := hidI (HS.out.push (HB4.out.alloc HB4.out.size _) (by rw [List.flatMap_append, List.append_assoc]; exact hown) (fun g hg => (hfrom g hg).imp id (fun e => by have := HB4.out.size; omega)) hgrown)
          clear hown hfrom hgrown hi hz0 hz1 hz2
          go_wp2_with fail
          refine ⟨⟨k + 1, n + 1, ao5, cp5, by omega, by go_num, rfl, hidI (by rw [List.replicate_succ', ← List.append_assoc]; exact HP.out)⟩, by simp [intOf]; omega⟩
        · obtain rfl : k = 83 := by omega
          obtain ⟨wy, rfl⟩ : ∃ x, x = wr := ⟨_, rfl⟩
          obtain ⟨a1, a2, a3⟩ := HAA.out
          obtain ⟨E, hE⟩ : ∃ E, (runT m 1 (L ++ List.replicate 83 stepTx)).evs = E := ⟨_, rfl⟩
          have hEl := (TOk.run m 1 (L ++ List.replicate 83 stepTx)).evs
          rw [hE] at a2 a3 hEl
          obtain ⟨q, hq⟩ : ∃ q, E.length = q + 1 := ⟨E.length - 1, by omega⟩
          have hq1 : 1 ≤ q := by omega
          rw [show E.length - 1 = q from by omega] at a3
          obtain rfl := HS.out.num
          have HLN := hidI (show (L ++ List.replicate 83 stepTx).length ≤ 65536 from by have := HN0.out; simp; omega)
          have HQB := hidI (show q ≤ 65536 from by have := HLN.out; omega)
          have HE := hidI hE
          have HQ := hidI hq
          have HA1 := hidI a1
          have HA3 := hidI a3
          have hrd : RdT encTx wy 4 (.slice so (L ++ List.replicate 83 stepTx).length sp) (L ++ List.replicate 83 stepTx) := Rd.of_own HS.out.ops
          have HRD := hidI hrd
          clear hrd hE hq a1 a2 a3 hk hlt hEl
          generalize (L ++ List.replicate 83 stepTx).length = nn at HRD ⊢
          go_wp2_with fail
          refine (run_ok (n := nn) HRD.out m 1 (by have := HM.out; omega) (by decide) HLN.out E W HE.out HA1.out).mono ?_
          rintro e w6 ⟨eo, ec, g3, rfl, b6, he, hmem, -⟩
          rw [HQ.out]
          have HB6 := hidI (bnext (HB2.out.trans (HS.out.bel.mono HB2.out.size)) b6)
          have HG1 := hidI (blk b6 HS.out.want)
          have HG2 := hidI hmem
          have he' := he
          rw [HQ.out] at he'
          obtain ⟨g7, o7, rfl, hg7, hc7⟩ := RdT.at encEv_len he' HA3.out
          have s1 := rdt_mem HG2.out HWL.out.symm
          have s2 := rdt_mem HG1.out HWL.out.symm
          have HS1 := hidI s1
          have HS2 := hidI s2
          have HC7 := hidI hc7
          have HG7 := hidI hg7
          clear b6 he he' hmem hc7 s1 s2 hg7
          go_wp2_with fail
          have s1 := HS1.out
          have s2 := HS2.out
          rw [← HWL.out] at s1 s2 ⊢
          refine (sameWides_true (l := W) s1 s2 (by have := HWL.out; have := HM.out; omega)).mono ?_
          rintro e w7 ⟨rfl, b7⟩
          have HB7 := hidI (bnext HB6.out b7)
          clear s1 s2
          cases wri with
          | true =>
            have d0 : w7.cell? ⟨g7, o7 + q * 4, none⟩ = some (.int .i64 0) := (b7.cell HG7.out).trans (HC7.out 0 _ rfl)
            have d1 : w7.cell? ⟨g7, o7 + q * 4 + 1, none⟩ = some (.int .u8 7) := (b7.cell HG7.out).trans (HC7.out 1 _ rfl)
            have d2 : w7.cell? ⟨g7, o7 + q * 4 + 2, none⟩ = some (.int .i64 1) := (b7.cell HG7.out).trans (HC7.out 2 _ rfl)
            have d3 : w7.cell? ⟨g7, o7 + q * 4 + 3, none⟩ = some (.int .i64 1) := (b7.cell HG7.out).trans (HC7.out 3 _ rfl)
            clear b7
            have hql : (2 : Int) ≤ (q : Int) + 1 := by omega
            have hwq : wrap64 (q : Int) = q := by have := HQB.out; unfold wrap64; omega
            go_wp2_with fail
            refine (lives_any _).mono ?_
            rintro e w8 ⟨rfl, b8⟩
            have HB8 := hidI (bnextA HB7.out b8)
            clear b8
            go_wp2_with fail
            go_ret
            exact ⟨rfl, HB8.out⟩
          | false =>
            have d0 : w7.cell? ⟨g7, o7 + q * 4, none⟩ = some (.int .i64 0) := (b7.cell HG7.out).trans (HC7.out 0 _ rfl)
            have d1 : w7.cell? ⟨g7, o7 + q * 4 + 1, none⟩ = some (.int .u8 7) := (b7.cell HG7.out).trans (HC7.out 1 _ rfl)
            have d2 : w7.cell? ⟨g7, o7 + q * 4 + 2, none⟩ = some (.int .i64 0) := (b7.cell HG7.out).trans (HC7.out 2 _ rfl)
            have d3 : w7.cell? ⟨g7, o7 + q * 4 + 3, none⟩ = some (.int .i64 0) := (b7.cell HG7.out).trans (HC7.out 3 _ rfl)
            clear b7
            have hql : (2 : Int) ≤ (q : Int) + 1 := by omega
            have hwq : wrap64 (q : Int) = q := by have := HQB.out; unfold wrap64; omega
            go_wp2_with fail
            refine (lives_any _).mono ?_
            rintro e w8 ⟨rfl, b8⟩
            have HB8 := hidI (bnextA HB7.out b8)
            clear b8
            go_wp2_with fail
            go_ret
            exact ⟨rfl, HB8.out⟩

end Go.Proofs.Ytimepfmbienbkaa

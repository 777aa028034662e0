/- Part of the proof: ImA -/
import Derived.Test.YtgodmogkhgilmaaGreatDoorP34
namespace Go.Proofs.YtgodmogkhgilmaaGreatDoor
open Go.RowKit
set_option linter.unusedVariables false
set_option linter.unusedSimpArgs false
set_option maxHeartbeats 2000000
variable {w w' : World}
theorem tk_yes {n : Int} {s : Int × Bool} (h : (tk n s).2 = false) : s.2 = false ∧ tk n s = (s.1 + n, false) ∧ s.1 + n ≤ 262144 := by
  unfold tk at h ⊢
  split at h
  · cases h
  · rename_i q
    rw [if_neg q]
    simp only at h
    exact ⟨h, by rw [h], by omega⟩
theorem fin_no {zs : List Int} {s : Int × Bool} (h : (fin zs s).2 = false) : s.2 = false := by
  cases hs : s.2 with
  | false => rfl
  | true => rw [fin_over zs hs] at h; cases h
theorem adv_yes {s : Int × Bool} (h : (adv 32 s).2 = false) : s.2 = false ∧ tk 32 s = (s.1 + 32, false) ∧ tk 128 (tk 32 s) = (s.1 + 160, false) ∧ tk 64 (tk 128 (tk 32 s)) = (s.1 + 224, false) ∧ adv 32 s = (s.1 + 4320, false) ∧ s.1 + 4320 ≤ 262144 := by
  obtain ⟨h3, e3, b3⟩ := tk_yes (show (tk 4096 (tk 64 (tk 128 (tk 32 s)))).2 = false from h)
  obtain ⟨h2, e2, b2⟩ := tk_yes h3
  obtain ⟨h1, e1, b1⟩ := tk_yes h2
  obtain ⟨h0, e0, b0⟩ := tk_yes h1
  have f1 : (tk 32 s).1 = s.1 + 32 := by rw [e0]
  have f2 : (tk 128 (tk 32 s)).1 = s.1 + 160 := by rw [e1]; simp only; omega
  have f3 : (tk 64 (tk 128 (tk 32 s))).1 = s.1 + 224 := by rw [e2]; simp only; omega
  have f4 : (tk 4096 (tk 64 (tk 128 (tk 32 s)))).1 = s.1 + 4320 := by rw [e3]; simp only; omega
  refine ⟨h0, e0, ?_, ?_, ?_, by omega⟩
  · rw [e1, f1]; congr 1; omega
  · rw [e2, f2]; congr 1; omega
  · show tk 4096 (tk 64 (tk 128 (tk 32 s))) = _
    rw [e3, f3]; congr 1; omega
theorem places_at (k : Nat) : ∀ {s : Int × Bool}, (fin (imgZs k) s).2 = false → (∀ i, i < k → (placesOf (imgZs k) s)[i]? = some ⟨s.1 + 4320 * (i : Int), s.1 + 4320 * (i : Int) + 32, s.1 + 4320 * (i : Int) + 160, s.1 + 4320 * (i : Int) + 224, s.1 + 4320 * (i : Int) + 4320⟩) ∧ (fin (imgZs k) s).1 = s.1 + 4320 * (k : Int) := by
  induction k with
  | zero => intro s h; exact ⟨fun i hi => by omega, by simp [imgZs, fin]⟩
  | succ k ih =>
    intro s h
    have h1 : (fin (imgZs k) (adv 32 s)).2 = false := h
    obtain ⟨q0, q1, q2, q3, q4, q5⟩ := adv_yes (fin_no h1)
    obtain ⟨i1, i2⟩ := ih h1
    have e : placesOf (imgZs (k + 1)) s = ⟨s.1, (tk 32 s).1, (tk 128 (tk 32 s)).1, (tk 64 (tk 128 (tk 32 s))).1, (tk 4096 (tk 64 (tk 128 (tk 32 s)))).1⟩ :: placesOf (imgZs k) (adv 32 s) := rfl
    refine ⟨fun i hi => ?_, ?_⟩
    · rw [e]
      cases i with
      | zero =>
        have q6 : (tk 4096 (tk 64 (tk 128 (tk 32 s)))).1 = s.1 + 4320 := by
          have : adv 32 s = tk 4096 (tk 64 (tk 128 (tk 32 s))) := rfl
          rw [← this, q4]
        rw [List.getElem?_cons_zero, q6, q3, q2, q1]
        simp
      | succ i =>
        rw [List.getElem?_cons_succ, i1 i (by omega), q4]
        simp only
        congr 2 <;> omega
    · show (fin (imgZs k) (adv 32 s)).1 = _
      rw [i2, q4]
      simp only
      omega
theorem img_at {words : Int} {n : Nat} (h : mkErr words (imgZs n) = 0) : 0 ≤ words ∧ imgSize words n = words + 18 + 4320 * (n : Int) ∧ imgSize words n ≤ 262144 ∧ ∀ i : Nat, i < n → imgTx words n i = txOf words (imgSize words n) ⟨words + 18 + 4320 * (i : Int), words + 18 + 4320 * (i : Int) + 32, words + 18 + 4320 * (i : Int) + 160, words + 18 + 4320 * (i : Int) + 224, words + 18 + 4320 * (i : Int) + 4320⟩ i := by
  have hw := mkErr_words h
  have hf : (fin (imgZs n) (s0 words)).2 = false := by
    cases hq : (fin (imgZs n) (s0 words)).2 with
    | false => rfl
    | true =>
      exfalso
      unfold mkErr at h
      split at h
      · cases h
      · split at h
        · cases h
        · split at h
          · cases h
          · first | (rw [if_pos hq] at h; cases h) | cases h
  have hs := fin_no hf
  obtain ⟨h1, e1, b1⟩ := tk_yes (show (tk 17 (tk words (1, false))).2 = false from hs)
  obtain ⟨h0, e0, b0⟩ := tk_yes h1
  have es : s0 words = (words + 18, false) := by
    show tk 17 (tk words (1, false)) = _
    rw [e1, e0]
    simp only
    congr 1
    omega
  obtain ⟨p1, p2⟩ := places_at n hf
  have hsz : imgSize words n = words + 18 + 4320 * (n : Int) := by
    show mkS words (imgZs n) = _
    unfold mkS
    rw [if_pos h, p2, es]
  refine ⟨hw.1, hsz, ?_, fun i hi => ?_⟩
  · rw [hsz]
    rcases n with _ | n
    · have : (tk 17 (tk words (1, false))).1 ≤ 262144 := by rw [e1]; exact b1
      rw [show tk 17 (tk words (1, false)) = s0 words from rfl, es] at this
      simp only at this
      omega
    · have h2 : (fin (imgZs (n + 1)) (s0 words)).1 ≤ 262144 := by
        have key : ∀ (k : Nat) {s : Int × Bool}, s.1 ≤ 262144 → (fin (imgZs k) s).2 = false → (fin (imgZs k) s).1 ≤ 262144 := by
          intro k
          induction k with
          | zero => intro s h _; exact h
          | succ k ih =>
            intro s _ h
            have h1 : (fin (imgZs k) (adv 32 s)).2 = false := h
            obtain ⟨-, -, -, -, q4, q5⟩ := adv_yes (fin_no h1)
            exact ih (by rw [q4]; exact q5) h1
        exact key _ (by rw [show (s0 words).1 = words + 18 by rw [es]]; simp only at b1 e0; rw [e0] at b1; simp only at b1; omega) hf
      rw [p2, es] at h2
      exact h2
  · unfold imgTx
    have hp : imgPs words n = placesOf (imgZs n) (s0 words) := if_pos h
    rw [hp, List.getD_eq_getElem?_getD, p1 i hi, es]
    rfl
structure ThsIn (w : World) (v : Value) (ts : Ths) : Prop where
  rows : RdT encR2 w 1 v ts
  each : ∀ p ∈ ts, RowsAt w p.1 p.2
  len : ts.length ≤ 9223372036854775807
  len1 : ∀ p ∈ ts, p.2.length ≤ 9223372036854775807
  len2 : ∀ p ∈ ts, ∀ q ∈ p.2, q.2.length ≤ 9223372036854775807
  wf : ∀ p ∈ ts, ∀ q ∈ p.2, ∀ o ∈ q.2, TxWf o
theorem ThsIn.below {v : Value} {ts : Ths} (h : ThsIn w v ts) (hb : Below w.heap.size w w') : ThsIn w' v ts := ⟨Rd.below h.rows hb, fun p hp => (h.each p hp).below hb, h.len, h.len1, h.len2, h.wf⟩
theorem ThsIn.at {v : Value} {ts : Ths} (h : ThsIn w v ts) (ht : ∀ p ∈ ts, txTotal p.2 ≤ 262144) : ThsAt w v ts := ⟨h.rows, h.each, ht⟩
theorem size_any {ta : Option Addr} {tc : Nat} {ts : Ths} (h : ThsIn w (.slice ta ts.length tc) ts) :
    Calls Tryz.prog 5 #[.slice ta ts.length tc] w fun e w' => ∃ z : Int, e = .returned (.int .i64 z) ∧ 0 ≤ z ∧ z ≤ 1310721 ∧ (z ≤ 262144 → ∀ p ∈ ts, txTotal p.2 ≤ 262144) ∧ Below w.heap.size w w' := by
  have H := hidI h
  have hlen := h.len
  clear h
  go_enter Tryz.func5, Tryz.ntmps5
  go_wp2_with fail
  go_loopw [3, 4] (fun z i wr => ∃ (j : Nat) (y : Int), j ≤ ts.length ∧ i = .int .i64 (j : Int) ∧ z = .int .i64 y ∧ 0 ≤ y ∧ y ≤ 1310721 ∧ Hid (y ≤ 262144 → ∀ p ∈ ts.take j, txTotal p.2 ≤ 262144) ∧ Hid (Below w.heap.size w wr)) (fun _ i _ => ts.length - (intOf i).toNat)
  case atStart => exact ⟨0, 0, Nat.zero_le _, rfl, rfl, by decide, by decide, fun _ p hp => by simp at hp, Below.refl _ _⟩
  case round =>
    obtain ⟨j, y, hj, rfl, rfl, hy0, hy1, HT, HB⟩ := hrel
    by_cases hlt : j < ts.length
    · by_cases hy : y < 1048576
      · obtain ⟨t, hx⟩ := some_at hlt
        obtain ⟨g, off, rfl, hg, hc⟩ := RdT.at encR2_len (Rd.below H.out.rows HB.out) hx
        have hrows := (H.out.each t (List.mem_of_getElem? hx)).below HB.out
        obtain ⟨ra, rc, hrv⟩ := rd_shape hrows.rows
        have d0 : wr.cell? ⟨g, off + j, none⟩ = some (.slice ra t.2.length rc) := by have := hc 0 _ rfl; rw [← hrv]; simpa [encR2] using this
        rw [hrv] at hrows
        have HR := hidI hrows
        have HL := hidI (H.out.len1 t (List.mem_of_getElem? hx))
        have HE := hidI (H.out.len2 t (List.mem_of_getElem? hx))
        have HTK := hidI (show ∀ p ∈ ts.take (j + 1), p ∈ ts.take j ∨ p = t from fun p hp => by
          rw [List.take_add_one, hx, Option.toList_some] at hp
          rcases List.mem_append.1 hp with hp | hp
          · exact .inl hp
          · exact .inr (List.mem_singleton.1 hp))
        have HLT := hidI hlt
        clear hx hc hrv hrows
        go_wp2_with fail
        refine (txsize_any HR.out HL.out HE.out).mono ?_
        rintro e w1 ⟨z, rfl, hz0, hz1, hz2, hb⟩
        have HB1 := hidI (bnext HB.out hb)
        have HT1 := hidI (show y + z ≤ 262144 → ∀ p ∈ ts.take (j + 1), txTotal p.2 ≤ 262144 from fun hle p hp => by
          rcases HTK.out p hp with hp | rfl
          · exact HT.out (by omega) p hp
          · have := hz2 (by omega); omega)
        clear hz2 hb d0
        go_wp2_with fail
        exact ⟨⟨j + 1, y + z, by have := HLT.out; omega, by go_num, by go_num, by omega, by omega, hidI HT1.out, HB1⟩, by simp [intOf]; have := HLT.out; omega⟩
      · have HT1 := hidI (show y ≤ 262144 → ∀ p ∈ ts, txTotal p.2 ≤ 262144 from fun hle => by omega)
        have HY := hidI (show 0 ≤ y ∧ y ≤ 1310721 by omega)
        clear hy0 hy1
        go_wp2_with fail
        go_ret
        exact ⟨y, rfl, HY.out.1, HY.out.2, by simpa using HT1.out, HB.out⟩
    · obtain rfl : j = ts.length := by omega
      have hT := HT.out
      rw [List.take_length] at hT
      have HT1 := hidI hT
      have HY := hidI (show 0 ≤ y ∧ y ≤ 1310721 by omega)
      clear hT hy0 hy1
      go_wp2_with fail
      go_ret
      exact ⟨y, rfl, HY.out.1, HY.out.2, by simpa using HT1.out, HB.out⟩
theorem image_yes {words : Int} {ts : Ths} {cs : List (Nat × List OpD)} (h : CodesAre words ts.length ts cs) : (∀ t ∈ ts, progLen (rowsOf t) ≤ 262144) ∧ cs.map Prod.snd = ts.mapIdx (fun i t => xprog (imgTx words ts.length i) (rowsOf t)) := by
  have h1 : ∀ t ∈ ts, progLen (rowsOf t) ≤ 262144 := fun t ht => by
    obtain ⟨i, hi⟩ := List.getElem?_of_mem ht
    have hil := (List.getElem?_eq_some_iff.1 hi).1
    have hc := List.getElem?_eq_getElem (show i < cs.length by rw [h.len]; exact hil)
    exact prog_room (h.at_ i _ _ hc hi).2
  exact ⟨h1, codes_prog h h1⟩
theorem lenSum_mem {cs : List (Nat × List OpD)} {p : Nat × List OpD} (h : p ∈ cs) : p.2.length ≤ lenSum cs := by
  unfold lenSum
  induction cs with
  | nil => cases h
  | cons a l ih =>
    rcases List.mem_cons.1 h with rfl | h
    · simp
    · have := ih h; simp; omega
theorem few_progs {words : Int} {ts : Ths} (h : FewS words ts) : progs ts ≤ 262144 := by
  have h1 : ∀ l : Ths, (∀ t ∈ l, t.2.length ≤ 16 ∧ ∀ p ∈ t.2, p.2.length ≤ 8) → progs l ≤ 9107 * l.length := fun l => by
    induction l with
    | nil => intro _; simp [progs]
    | cons t r ih =>
      intro hl
      have h2 := ih fun x hx => hl x (List.mem_cons_of_mem _ hx)
      have h3 := hl t List.mem_cons_self
      have h4 := rowsLen_few (rs := rowsOf t) (fun x hx => by
        obtain ⟨q, hq, rfl⟩ := List.mem_map.1 hx
        exact h3.2 q hq)
      have h5 : (rowsOf t).length = t.2.length := by unfold rowsOf; simp
      unfold progs at h2 ⊢
      rw [List.map_cons, List.sum_cons, List.length_cons]
      unfold progLen at h2 ⊢
      omega
  have := h1 ts h.1
  have := h.2.2.2
  omega
structure ImgY (w : World) (base top : Nat) (words : Int) (ts : Ths) (co : Option Addr) (cc : Nat) (cs : List (Nat × List OpD)) : Prop where
  own : w.ownsRow base 79 1 (.slice co cs.length cc) cs.length (cs.map codeV1)
  cin : CodesIn w base cs
  are : CodesAre words ts.length ts cs
  sum : lenSum cs ≤ 262144
  lt1 : ∀ g, (Value.slice co cs.length cc).ownBlock = some g → g < top
  lt2 : ∀ p ∈ cs, p.1 < top
  plan : mkErr words (imgZs ts.length) = 0
  few : ts.length ≤ 4
  rows : ∀ t ∈ ts, okRows words t.2 = true
  code : ∃ l : List (Value × List OpD), l.length = cs.length ∧ CodeAt w (.slice co cs.length cc) l ∧ l.map (·.2) = cs.map Prod.snd ∧ checkM (imgSize words ts.length) l [] = 0
def ImgR (words : Int) (ts : Ths) (w : World) (e : Ending) (w' : World) : Prop :=
  Below w.heap.size w w' ∧ ((∃ en, e = .returned (.tuple #[.agg #[.slice none 0 0, .int .i64 0, .slice none 0 0], .int .i64 en]) ∧ ErrX words ts en ∧ en ≠ 0 ∧ (en = 1 ∧ (words < 0 ∨ ∃ t ∈ ts, okRows words t.2 = false) ∨ en = 3) ∧ ¬ (FewS words ts ∧ ∀ t ∈ ts, okRows words t.2 = true)) ∨
    ∃ co cc cs, e = .returned (.tuple #[.agg #[.slice co cs.length cc, .int .i64 (imgSize words ts.length), .slice none 0 0], .int .i64 0]) ∧ ImgY w' w.heap.size w'.heap.size words ts co cc cs)
theorem imgR {words : Int} {ts : Ths} {e : Ending} (h : ImagePost words ts w e w') (hx : ErrPost words ts e) (hw : ∀ p ∈ ts, ∀ q ∈ p.2, ∀ o ∈ q.2, TxWf o) : ImgR words ts w e w' := by
  have hall := h
  obtain ⟨hb, h⟩ := h
  refine ⟨hb, ?_⟩
  rcases h with ⟨en, rfl, h⟩ | ⟨co, cc, cs, rfl, hown, hin, hcs, hsum, hplan, hlen, hrows⟩
  · have hne : en ≠ 0 := by rcases h with ⟨rfl, -⟩ | ⟨rfl, -⟩ <;> decide
    refine .inl ⟨en, rfl, (hx _ en rfl).resolve_left hne, hne, h.imp id (fun q => q.1), fun ⟨hf, hr⟩ => ?_⟩
    obtain ⟨-, co, cc, cs, e, -⟩ := image_few hall hf.2.1 hf.2.2.1 hf.2.2.2 (few_progs hf) hr
    simp only [Ending.returned.injEq, Value.tuple.injEq] at e
    have e2 := congrArg (fun a => a[1]?) e
    simp at e2
    exact hne e2
  · obtain ⟨hp, hc⟩ := image_yes hcs
    have hcl := hcs.len
    have hok : ∀ p ∈ cs, AllOk p.2 := by
      intro p hp2
      obtain ⟨k, hk, e⟩ := List.getElem_of_mem hp2
      have hkt : k < ts.length := by omega
      have h3 : (cs.map Prod.snd)[k]'(by simpa using hk) = (ts.mapIdx (fun i t => xprog (imgTx words ts.length i) (rowsOf t)))[k]'(by simpa using hkt) := by simp only [hc]
      rw [List.getElem_map, List.getElem_mapIdx, e] at h3
      rw [h3]
      refine prog_ok (imgTx_ok hplan hkt) (hp _ (List.getElem_mem hkt)) fun l hl o ho => ?_
      obtain ⟨q, hq, rfl⟩ := List.mem_map.1 hl
      exact hw _ (List.getElem_mem hkt) q hq o ho
    obtain ⟨l, hll, hcode, hl2⟩ := img_code hown hin hok
    obtain ⟨w0, hsz, hle, -⟩ := img_at hplan
    exact .inr ⟨co, cc, cs, rfl, hown, hin, hcs, hsum, fun g hg => (rowLt hown hg).2, fun p hp => lt_of_block (hin.blk p hp).1, hplan, hlen, hrows, l, hll, by rw [← hll]; exact hcode, hl2, img_check (mem := imgSize words ts.length) hl2 hsum (by omega) (by omega) hok⟩
theorem codes_pre {words : Int} {n : Nat} {ts : Ths} {cs cs' : List (Nat × List OpD)} {j j' : Nat} (h : CodesAre words n (ts.take j) cs) (h' : CodesAre words n (ts.take j') cs') (hj : j ≤ j') (hl : j' ≤ ts.length) : cs.map Prod.snd = (cs'.map Prod.snd).take j := by
  have l1 := h.len
  have l2 := h'.len
  rw [List.length_take] at l1 l2
  refine List.ext_getElem (by simp; omega) fun i h1 h2 => ?_
  have hi : i < cs.length := by simpa using h1
  have hi' : i < cs'.length := by omega
  have ht : i < ts.length := by omega
  have e1 := (h.at_ i _ _ (List.getElem?_eq_getElem hi) (by rw [List.getElem?_take, if_pos (by omega)]; exact List.getElem?_eq_getElem ht)).1
  have e2 := (h'.at_ i _ _ (List.getElem?_eq_getElem hi') (by rw [List.getElem?_take, if_pos (by omega)]; exact List.getElem?_eq_getElem ht)).1
  rw [List.getElem_map, List.getElem_take, List.getElem_map, e1, e2]
theorem sum_take (l : List Nat) (j : Nat) : (l.take j).sum ≤ l.sum := by
  conv => rhs; rw [← List.take_append_drop j l, List.sum_append]
  omega
theorem lenSum_snd (cs : List (Nat × List OpD)) : lenSum cs = ((cs.map Prod.snd).map List.length).sum := by unfold lenSum; rw [List.map_map]; rfl
theorem err3_no {words : Int} {n : Nat} {ts : Ths} {cs cs' : List (Nat × List OpD)} {j j' : Nat} {t : Value × List (Value × List Tx)} (h : CodesAre words n (ts.take j) cs) (h' : CodesAre words n (ts.take j') cs') (hs' : lenSum cs' ≤ 262144) (hjj : j < j') (hl : j' ≤ ts.length) (ht : ts[j]? = some t)
    (hf : (∃ jj, jj ≤ t.2.length ∧ ((rowsCd (imgTx words n j) ((t.2.take jj).map Prod.snd)).over = true ∨ (rowsCd (imgTx words n j) ((t.2.take jj).map Prod.snd)).halt.over = true)) ∨ (imgCd words n j (rowsOf t)).over = false ∧ 262144 < lenSum cs + (imgCd words n j (rowsOf t)).done.length) : False := by
  have l2 := h'.len
  rw [List.length_take] at l2
  have hc' : j < cs'.length := by omega
  have e2 := h'.at_ j _ _ (List.getElem?_eq_getElem hc') (by rw [List.getElem?_take, if_pos hjj]; exact ht)
  rcases hf with ⟨jj, -, q⟩ | ⟨-, q⟩
  · have hp : progLen (rowsOf t) ≤ 262144 := prog_room (t := imgTx words n j) e2.2
    have := prog_fits_take (t := imgTx words n j) hp jj
    unfold rowsOf at this
    rw [← List.map_take] at this
    rcases q with q | q
    · rw [this.1] at q; cases q
    · rw [this.2] at q; cases q
  · have e1 := codes_pre h h' (by omega) hl
    have h3 : lenSum cs + (imgCd words n j (rowsOf t)).done.length ≤ lenSum cs' := by
      rw [lenSum_snd, lenSum_snd, e1, ← e2.1]
      have h4 := sum_take ((cs'.map Prod.snd).map List.length) (j + 1)
      rw [List.take_add_one, List.sum_append] at h4
      rw [List.map_take]
      have h5 : ((cs'.map Prod.snd).map List.length)[j]? = some (cs'[j].2.length) := by simp [hc']
      rw [h5] at h4
      simpa using h4
    omega
theorem errX_no {words : Int} {ts : Ths} {en : Int} {co : Option Addr} {cc base top : Nat} {cs : List (Nat × List OpD)} (h : ErrX words ts en) (hy : ImgY w base top words ts co cc cs) : False := by
  rcases h with ⟨h, -⟩ | ⟨-, h, h0⟩ | ⟨-, -, j, cs', t, ht, hc, hs, hr, h⟩
  · have := hy.few; omega
  · exact h0 (h.symm.trans hy.plan)
  · have hj := (List.getElem?_eq_some_iff.1 ht).1
    rcases h with ⟨-, h⟩ | ⟨-, -, h⟩
    · rw [hy.rows t (List.mem_of_getElem? ht)] at h; cases h
    · exact err3_no hc (j' := ts.length) (by rw [List.take_length]; exact hy.are) hy.sum hj (Nat.le_refl _) ht h
theorem errX_one {words : Int} {ts : Ths} {en en' : Int} (h : ErrX words ts en) (h' : ErrX words ts en') : en = en' := by
  rcases h with ⟨h, rfl⟩ | ⟨h4, h, h0⟩ | ⟨h4, hm, j, cs, t, ht, hc, hs, hr, h⟩ <;> rcases h' with ⟨g, rfl⟩ | ⟨g4, g, g0⟩ | ⟨g4, gm, j', cs', t', ht', hc', hs', hr', h'⟩
  · rfl
  · omega
  · omega
  · omega
  · exact h.symm.trans g
  · exact absurd (h.symm.trans gm) h0
  · omega
  · exact absurd (g.symm.trans hm) g0
  · have hj := (List.getElem?_eq_some_iff.1 ht).1
    have hj' := (List.getElem?_eq_some_iff.1 ht').1
    have mem : ∀ {i k : Nat} {u : Value × List (Value × List Tx)}, ts[i]? = some u → i < k → u ∈ ts.take k := fun hu hk => List.mem_of_getElem? (by rw [List.getElem?_take, if_pos hk]; exact hu)
    rcases h with ⟨rfl, q⟩ | ⟨rfl, q, f⟩ <;> rcases h' with ⟨rfl, q'⟩ | ⟨rfl, q', f'⟩
    · rfl
    · exfalso
      rcases Nat.lt_trichotomy j j' with e | e | e
      · rw [hr' t (mem ht e)] at q; cases q
      · subst e
        rw [ht] at ht'
        cases ht'
        rw [q] at q'; cases q'
      · exact err3_no hc' hc hs e (by omega) ht' f'
    · exfalso
      rcases Nat.lt_trichotomy j j' with e | e | e
      · exact err3_no hc hc' hs' e (by omega) ht f
      · subst e
        rw [ht] at ht'
        cases ht'
        rw [q] at q'; cases q'
      · rw [hr t' (mem ht' e)] at q'; cases q'
    · rfl
theorem ImgY.below {base top : Nat} {words : Int} {ts : Ths} {co : Option Addr} {cc : Nat} {cs : List (Nat × List OpD)} (h : ImgY w base top words ts co cc cs) (hb : Below w.heap.size w w') : ImgY w' base top words ts co cc cs :=
  ⟨ownRow_keep h.own fun g _ hl => hb.block g hl, h.cin.below hb, h.are, h.sum, h.lt1, h.lt2, h.plan, h.few, h.rows, by obtain ⟨l, h1, h2, h3⟩ := h.code; exact ⟨l, h1, h2.below hb, h3⟩⟩
theorem ImgY.len {base top : Nat} {words : Int} {ts : Ths} {co : Option Addr} {cc : Nat} {cs : List (Nat × List OpD)} (h : ImgY w base top words ts co cc cs) : ∀ p ∈ cs, p.2.length ≤ 262144 := fun p hp => Nat.le_trans (lenSum_mem hp) h.sum
def ImgQ (w : World) (base top : Nat) (words : Int) (ts : Ths) (co : Option Addr) (n cc : Nat) (mem en : Int) : Prop :=
  (co = none ∧ n = 0 ∧ cc = 0 ∧ mem = 0 ∧ en ≠ 0 ∧ ErrX words ts en ∧ (en = 1 ∧ (words < 0 ∨ ∃ t ∈ ts, okRows words t.2 = false) ∨ en = 3) ∧ ¬ (FewS words ts ∧ ∀ t ∈ ts, okRows words t.2 = true)) ∨
  (en = 0 ∧ mem = imgSize words ts.length ∧ ∃ cs, n = cs.length ∧ ImgY w base top words ts co cc cs)
def ImgQP (words : Int) (ts : Ths) (w : World) (e : Ending) (w' : World) : Prop := ∃ co n cc mem en, e = .returned (.tuple #[.agg #[.slice co n cc, .int .i64 mem, .slice none 0 0], .int .i64 en]) ∧ ImgQ w' w.heap.size w'.heap.size words ts co n cc mem en ∧ Below w.heap.size w w'
theorem imgQ_any {ta : Option Addr} {tc : Nat} {ts : Ths} (h : ThsAt w (.slice ta ts.length tc) ts) (hw : ∀ p ∈ ts, ∀ q ∈ p.2, ∀ o ∈ q.2, TxWf o) (hl : ts.length ≤ 9000000000000) (words : Int) :
    Calls Tryz.prog 7 #[.int .i64 words, .slice ta ts.length tc] w (ImgQP words ts w) := by
  refine (image2_any h hl words).mono ?_
  rintro e w1 ⟨h1, h2⟩
  obtain ⟨hb, ⟨en, rfl, q⟩ | ⟨co, cc, cs, rfl, q⟩⟩ := imgR h1 h2 hw
  · exact ⟨none, 0, 0, 0, en, rfl, .inl ⟨rfl, rfl, rfl, rfl, q.2.1, q.1, q.2.2.1, q.2.2.2⟩, hb⟩
  · exact ⟨co, cs.length, cc, _, 0, rfl, .inr ⟨rfl, rfl, cs, rfl, q⟩, hb⟩
theorem ImgQ.below {base top n cc : Nat} {words mem en : Int} {ts : Ths} {co : Option Addr} (h : ImgQ w base top words ts co n cc mem en) (hb : Below w.heap.size w w') : ImgQ w' base top words ts co n cc mem en := by
  rcases h with h | ⟨h1, h2, cs, h3, h4⟩
  · exact .inl h
  · exact .inr ⟨h1, h2, cs, h3, h4.below hb⟩
theorem ImgQ.one {wa wb : World} {ba bb ta tb n cc n' cc' : Nat} {words mem en mem' en' : Int} {ts : Ths} {co co' : Option Addr} (h : ImgQ wa ba ta words ts co n cc mem en) (h' : ImgQ wb bb tb words ts co' n' cc' mem' en') : en = en' ∧ mem = mem' := by
  rcases h with ⟨-, -, -, e1, -, x, -⟩ | ⟨rfl, e1, cs, -, y⟩ <;> rcases h' with ⟨-, -, -, e2, -, x', -⟩ | ⟨rfl, e2, cs', -, y'⟩
  · exact ⟨errX_one x x', by rw [e1, e2]⟩
  · exact (errX_no x y').elim
  · exact (errX_no x' y).elim
  · exact ⟨rfl, by rw [e1, e2]⟩
theorem ImgQ.codes {w : World} {ba bb ta tb n cc n' cc' : Nat} {words mem en mem' en' : Int} {ts : Ths} {co co' : Option Addr} (h : ImgQ w ba ta words ts co n cc mem en) (h' : ImgQ w bb tb words ts co' n' cc' mem' en') :
    ∃ l l' : List (Value × List OpD), l.length = n ∧ l'.length = n' ∧ CodeAt w (.slice co n cc) l ∧ CodeAt w (.slice co' n' cc') l' ∧ l.map (·.2) = l'.map (·.2) ∧ l.length ≤ 262144 ∧ ∀ p ∈ l, p.2.length ≤ 262144 := by
  have hn : CodeAt w (.slice none 0 0) [] := ⟨Rd.nil w 1, fun p hp => (by cases hp), fun p hp => (by cases hp)⟩
  rcases h with ⟨rfl, rfl, rfl, e1, -, x, -⟩ | ⟨rfl, e1, cs, rfl, y⟩ <;> rcases h' with ⟨rfl, rfl, rfl, e2, -, x', -⟩ | ⟨rfl, e2, cs', rfl, y'⟩
  · exact ⟨[], [], rfl, rfl, hn, hn, rfl, by simp, by simp⟩
  · exact (errX_no x y').elim
  · exact (errX_no x' y).elim
  · obtain ⟨l, a1, a2, a3, -⟩ := y.code
    obtain ⟨l', b1, b2, b3, -⟩ := y'.code
    refine ⟨l, l', a1, b1, a2, b2, ?_, ?_, fun p hp => ?_⟩
    · rw [a3, b3, (image_yes y.are).2, (image_yes y'.are).2]
    · have := y.are.len; have := y.few; omega
    · have h1 : p.2 ∈ l.map (·.2) := List.mem_map_of_mem hp
      rw [a3] at h1
      obtain ⟨q, hq, e⟩ := List.mem_map.1 h1
      rw [← e]
      exact y.len q hq
end Go.Proofs.YtgodmogkhgilmaaGreatDoor

/- Part of the proof: BnC, BnD, BnE, BnG, BnH -/
import Derived.Test.YtgodmogkhgilmaaGreatDoorP33
namespace Go.Proofs.YtgodmogkhgilmaaGreatDoor
open Go.RowKit
set_option linter.unusedVariables false
set_option linter.unusedSimpArgs false
set_option maxHeartbeats 8000000
set_option maxRecDepth 100000
section
variable {w w' : World}
theorem fin_eq (n : Nat) : ∀ {s : Int × Bool}, s.1 + 4320 * n ≤ 262144 → fin (imgZs n) s = (s.1 + 4320 * n, s.2) := by
  induction n with
  | zero => intro s _; show s = _; simp
  | succ n ih =>
    intro s h2
    have e : adv 32 s = (s.1 + 4320, s.2) := by
      unfold adv
      rw [tk_fit (n := 32) (s := s) (by omega), tk_fit (n := 128) (by simp only; omega), tk_fit (n := 64) (by simp only; omega), tk_fit (n := 4096) (by simp only; omega)]
      simp only
      congr 1
      omega
    show fin (imgZs n) (adv 32 s) = _
    rw [e, ih (by simp only; omega)]
    simp only
    congr 1
    omega
theorem imgSize_few {words : Int} {n : Nat} (h : 0 ≤ words) (h2 : words ≤ 65536) (hn : n ≤ 4) : imgSize words n = words + 18 + 4320 * n := by
  unfold imgSize mkS
  rw [if_pos (mkErr_few h h2 hn)]
  have e : s0 words = (words + 18, false) := by
    unfold s0
    rw [tk_fit (n := words) (by simp only; omega), tk_fit (n := 17) (by simp only; omega)]
    simp only
    congr 1
    omega
  rw [e, fin_eq n (by simp only; omega)]
theorem imgTx_ok {words : Int} {n i : Nat} (h : mkErr words (imgZs n) = 0) (hi : i < n) : TxOk (imgTx words n i) := by
  obtain ⟨hp, hl⟩ := img_planned h
  have hx : (imgPs words n)[i]? = some ((imgPs words n).getD i ⟨0, 0, 0, 0, 0⟩) := by
    rw [List.getD_eq_getElem?_getD, List.getElem?_eq_getElem (by omega)]
    rfl
  exact hp.ok hx
theorem bn_lit {α : Type} {enc : α → List Value} {sz g : Nat} {T : TypeId} {l : List α} (he : ∀ a, (enc a).length = sz) (hg : w.heap[g]? = some (.cells (l.flatMap enc).toArray T (0, 0))) : RdT enc w sz (.slice (some ⟨g, 0, none⟩) l.length l.length) l :=
  ⟨flat_len he l, some ⟨g, 0, none⟩, l.length, rfl, Nat.le_refl _, fun _ => ⟨g, 0, rfl, lt_of_block hg, fun j u hj => by
    rw [Nat.zero_add]
    exact cell_of_block hg (by rw [List.getElem?_toArray]; exact hj)⟩⟩
theorem img_code {base : Nat} {co : Option Addr} {cc : Nat} {cs : List (Nat × List OpD)} (hown : w.ownsRow base 79 1 (.slice co cs.length cc) cs.length (cs.map codeV1)) (hin : CodesIn w base cs) (hok : ∀ p ∈ cs, AllOk p.2) :
    ∃ l : List (Value × List OpD), l.length = cs.length ∧ CodeAt w (.slice co l.length cc) l ∧ l.map (·.2) = cs.map Prod.snd := by
  refine ⟨cs.map fun p => (codeV1 p, p.2), by simp, ⟨?_, ?_, ?_⟩, by simp [Function.comp_def]⟩
  · have e : ∀ cs : List (Nat × List OpD), (cs.map fun p => (codeV1 p, p.2)).flatMap encC = cs.map codeV1 := by
      intro cs
      induction cs with
      | nil => rfl
      | cons a l ih => rw [List.map_cons, List.flatMap_cons, ih]; rfl
    have := Rd.of_own hown
    rw [List.length_map]
    unfold RdT
    rw [e, List.length_map]
    exact this
  · intro p hp
    obtain ⟨q, hq, rfl⟩ := List.mem_map.1 hp
    exact bn_lit encOp_len (hin.blk q hq).1
  · intro p hp
    obtain ⟨q, hq, rfl⟩ := List.mem_map.1 hp
    exact fun o ho => (hok q hq o ho).2
theorem img_check {mem : Int} {l : List (Value × List OpD)} {cs : List (Nat × List OpD)} (he : l.map (·.2) = cs.map Prod.snd) (hs : lenSum cs ≤ 262144) (hn : l.length ≤ 4) (hm : 1 ≤ mem ∧ mem ≤ 262144) (hok : ∀ p ∈ cs, AllOk p.2) : checkM mem l [] = 0 := by
  have hc : countS l ≤ lenSum cs := by
    have e1 : countS l = ((l.map (·.2)).map fun c => min c.length 262145).sum := by unfold countS; rw [List.map_map]; rfl
    have e2 : lenSum cs = ((cs.map Prod.snd).map List.length).sum := by unfold lenSum; rw [List.map_map]; rfl
    rw [e1, e2, he]
    generalize cs.map Prod.snd = m
    induction m with
    | nil => simp
    | cons a r ih => simp only [List.map_cons, List.sum_cons]; omega
  have ha : (l.all fun p => p.2.all checkS) = true := by
    rw [List.all_eq_true]
    intro p hp
    have h1 : p.2 ∈ l.map (·.2) := List.mem_map_of_mem hp
    rw [he] at h1
    obtain ⟨q, hq, e⟩ := List.mem_map.1 h1
    rw [← e, List.all_eq_true]
    exact fun o ho => (hok q hq o ho).1
  unfold checkM
  rw [if_neg (by omega), if_neg (by omega), if_neg (by rw [ha]; simp), if_neg (by simp [cellsOk])]
def bothS (os : List Int) : List PickD := os.map fun z => ⟨2, z, 20000⟩
theorem bothS_len (os : List Int) : (bothS os).length = os.length := by simp [bothS]
theorem bothS_total (os : List Int) : total (bothS os) = 40000 * os.length := by
  unfold total bothS
  induction os with
  | nil => simp
  | cons a l ih =>
    simp only [List.map_cons, List.sum_cons, List.length_cons]
    rw [ih]
    have : plen ⟨2, a, 20000⟩ = 40000 := rfl
    rw [this]
    omega
theorem bothS_ok {os : List Int} (h : os.length ≤ 4) : (lengthS (bothS os)).2 = 0 := by
  unfold lengthS
  rw [if_neg (by rw [bothS_len]; omega), if_neg, if_neg (by rw [bothS_total]; omega)]
  rw [List.any_eq_true]
  rintro ⟨p, hp, hb⟩
  obtain ⟨z, hz, rfl⟩ := List.mem_map.1 hp
  simp [pbad] at hb
theorem bothS_n {os : List Int} : ∀ p ∈ bothS os, -9223372036854775808 ≤ p.n ∧ 0 ≤ p.kind := by
  intro p hp
  obtain ⟨z, hz, rfl⟩ := List.mem_map.1 hp
  exact ⟨show (-9223372036854775808 : Int) ≤ 20000 by decide, show (0 : Int) ≤ 2 by decide⟩
theorem pkInfo25 : (Tryz.prog.info? 134).map (fun i => (i.zero, i.size, i.bytes)) = some (some (.agg #[.int .u8 0, .int .i64 0, .int .i64 0]), 3, 24) := by kernel_rfl
theorem one_pk25 (p : PickD) : ∀ u ∈ encPk p, u.oneCell' = true := by intro u hu; simp [encPk] at hu; rcases hu with rfl | rfl | rfl <;> rfl
def toldM (words : Int) (ts : Ths) (os : List Int) : MM × Int := doActs (newM (imgSize words ts.length) (ts.mapIdx fun i t => xprog (imgTx words ts.length i) (rowsOf t)) [], 0) (actsS (bothS os))
def ToldPost (out : List (List Int × Int)) (w : World) (e : Ending) (w' : World) : Prop :=
  ∃ (ga : Nat) (ls : List SX), e = .returned (.slice (some ⟨ga, 0, none⟩) ls.length ls.length) ∧ RdT encS w' 2 (.slice (some ⟨ga, 0, none⟩) ls.length ls.length) ls ∧
    (∀ s ∈ ls, RdT encI w' 1 s.v s.out) ∧ ls.map (fun s => (s.out, s.fin)) = out ∧ Below w.heap.size w w'
theorem told_any {ta : Option Addr} {tc : Nat} {ts : Ths} (h : ThsAt w (.slice ta ts.length tc) ts) {words : Int} (h0 : 0 ≤ words) (h1 : words ≤ 65536) (hn : ts.length ≤ 4) (hp : progs ts ≤ 262144) (ho : ∀ t ∈ ts, okRows words t.2 = true)
    (hw : ∀ t ∈ ts, ∀ l ∈ rowsOf t, ∀ o ∈ l, TxWf o) {oa : Option Addr} {oc : Nat} {os : List Int} (hos : RdT encI w 1 (.slice oa os.length oc) os) (hol : os.length ≤ 4) {out : List (List Int × Int)} (hrun : (toldM words ts os).1.ths.map (fun t => (t.out, t.fin)) = out) :
    Calls Tryz.prog 26 #[.int .i64 words, .slice ta ts.length tc, .slice oa os.length oc] w (ToldPost out w) := by
  have H := hidI h
  have HW := hidI hw
  have HO := hidI ho
  have HP := hidI hp
  have HOS := hidI hos
  have HRUN := hidI hrun
  have HN := hidI hn
  have HOL := hidI hol
  have H0 := hidI h0
  have H1 := hidI h1
  have HM := hidI (mkErr_few (n := ts.length) h0 h1 hn)
  have HSZ := hidI (imgSize_few (n := ts.length) h0 h1 hn)
  clear h hw ho hp hos hrun hn hol h0 h1
  obtain ⟨i0, hi, hz0, hz1, hz2⟩ := info_parts pkInfo25
  go_enter Tryz.func26, Tryz.ntmps26
  go_wp2_with fail
  refine (image_any H.out (by have := HN.out; omega) words).mono ?_
  intro e w1 hpost
  obtain ⟨hb1, co, cc, cs, rfl, hown, hin, hcs, hsum⟩ := image_few hpost H0.out H1.out HN.out HP.out HO.out
  have hcl : cs.length = ts.length := by have := congrArg List.length hcs; simpa using this
  have hok : ∀ p ∈ cs, AllOk p.2 := by
    intro p hp
    obtain ⟨k, hk, e⟩ := List.getElem_of_mem hp
    have hkt : k < ts.length := by omega
    have h3 : (cs.map Prod.snd)[k]'(by simpa using hk) = (ts.mapIdx (fun i t => xprog (imgTx words ts.length i) (rowsOf t)))[k]'(by simpa using hkt) := by simp only [hcs]
    rw [List.getElem_map, List.getElem_mapIdx, e] at h3
    rw [h3]
    exact prog_ok (imgTx_ok HM.out hkt) (Nat.le_trans (progs_mem (List.getElem_mem hkt)) HP.out) (HW.out _ (List.getElem_mem hkt))
  obtain ⟨l, hll, hcode, hl2⟩ := img_code hown hin hok
  have hchk := img_check (mem := imgSize words ts.length) hl2 hsum (by have := HN.out; omega) (by have := HSZ.out; have := H0.out; have := H1.out; have := HN.out; omega) hok
  have HCO := hidI hcode
  have HCH := hidI hchk
  have HL2 := hidI (hl2.trans hcs)
  have HLL := hidI (show l.length ≤ 4 from by have := HN.out; omega)
  rw [← hll]
  have HB1 := hidI hb1
  have HOS1 := hidI (Rd.below HOS.out hb1)
  clear hb1 hown hin hcs hsum hcl hok hll hcode hl2 hchk hpost HOS H
  obtain ⟨mem, hmem⟩ : ∃ z, z = imgSize words ts.length := ⟨_, rfl⟩
  have HMEM := hidI hmem
  rw [← hmem] at HCH HSZ ⊢
  clear hmem
  go_wp2_with fail
  have HM1 := hidI (block_new w1 (.cells #[.slice co l.length cc, .int .i64 mem, .slice none 0 0] 30))
  have hbi := (Below.refl w1.heap.size w1).alloc (Nat.le_refl _) (.cells #[.slice co l.length cc, .int .i64 mem, .slice none 0 0] 30)
  have HBI := hidI (bnext HB1.out hbi)
  have HCO1 := hidI (HCO.out.below hbi)
  have HOS2 := hidI (Rd.below HOS1.out hbi)
  have HS0 := hidI (show w1.heap.size + 1 = (w1.alloc (.cells #[.slice co l.length cc, .int .i64 mem, .slice none 0 0] 30)).heap.size from by rw [World.size_alloc])
  generalize w1.alloc (.cells #[.slice co l.length cc, .int .i64 mem, .slice none 0 0] 30) = w2 at HM1 HBI HCO1 HOS2 HS0 hbi ⊢
  obtain ⟨bm, hbm⟩ : ∃ b, b = w1.heap.size := ⟨_, rfl⟩
  rw [← hbm] at HM1 HS0 ⊢
  have HSM := hidI (show w.heap.size ≤ bm from by have := HB1.out.size; omega)
  clear hbi hbm HOS1 HCO HB1
  go_loopw [9, 10] (fun v i wr => ∃ (j : Nat) (ao : Option Addr) (cp : Nat), j ≤ os.length ∧ i = .int .i64 (j : Int) ∧ v = .slice ao j cp ∧ Hid (wr.ownsRow (bm + 1) 134 3 (.slice ao j cp) j ((bothS (os.take j)).flatMap encPk)) ∧ Hid (Below w2.heap.size w2 wr) ∧ Hid (wr.heap[bm]? = some (.cells #[.slice co l.length cc, .int .i64 mem, .slice none 0 0] 30 (0, 0)))) (fun _ i _ => os.length - (intOf i).toNat)
  case atStart => exact ⟨0, none, 0, Nat.zero_le _, rfl, rfl, hidI (World.ownsRow_nil _ _ _ _), hidI (Below.refl _ _), HM1⟩
  case round =>
    obtain ⟨j, ao, cp, hj, rfl, rfl, HOR, HB, HM2⟩ := hrel
    have hol := HOL.out
    by_cases hlt : j < os.length
    · obtain ⟨z, hx⟩ := some_at hlt
      obtain ⟨g, off, rfl, hg, hc⟩ := RdT.at encI_len (Rd.below HOS2.out HB.out) hx
      have d0 : wr.cell? ⟨g, off + j, none⟩ = some (.int .i64 z) := by have := hc 0 _ rfl; simpa [encI] using this
      have HTK := hidI (take_snoc hx)
      have HJ := hidI hlt
      clear hx hc
      go_wp2_with (at_builtin; refine Hid.out ?_)
      refine wpList_append_d _ rfl _ _ 131 rfl (bm + 1) 134 i0 _ 3 24 Tryz.underlying131 hi hz0 hz1 hz2 rfl (by decide) (.slice ao j cp) j _ (by simp [Act.eval]) (ownsRow_chg HOR.out ((Chg.refl (fun _ => False) wr).alloc _) (fun _ _ => id)) ⟨wr.heap.size, 0, none⟩ 1 1 (encPk ⟨2, z, 20000⟩) (by simp [Act.eval]) rfl ?c1 ?c2 ?c3 ?c4 ?c5 ?_
      case c1 => exact news_at (block_new _ _)
      case c2 => exact one_pk25 _
      case c3 => have := HOL.out; have := HJ.out; unfold maxLen; omega
      case c4 => have := HOL.out; have := HJ.out; omega
      case c5 => have := HS0.out; have := HB.out.size; simp; omega
      intro ao5 cp5 w5 hown hfrom hgrown
      have hc5 : Chg (fun k => bm + 1 ≤ k) wr w5 := (((Chg.refl (fun k => bm + 1 ≤ k) wr)).alloc _).grown hgrown (fun k hk => .inl (HOR.out.lt k hk).1)
      have HB5 := hidI (hc5.below HB.out HB.out.size (fun k hk => by have := HS0.out; omega))
      have HM5 := hidI (chgblk hc5 HM2.out (by omega))
      have HO5 := hidI (show w5.ownsRow (bm + 1) 134 3 (.slice ao5 (j + 1) cp5) (j + 1) ((bothS (os.take (j + 1))).flatMap encPk) from by rw [HTK.out]; unfold bothS; rw [List.map_append, List.flatMap_append]; exact hown)
      clear hown hfrom hgrown hc5 d0
      go_wp2_with fail
      exact ⟨⟨j + 1, ao5, cp5, by omega, by go_num, rfl, HO5, HB5, HM5⟩, by simp [intOf]; omega⟩
    · obtain rfl : j = os.length := by omega
      have hor := HOR.out
      rw [List.take_length] at hor
      have HSC := hidI (show RdT encPk wr 3 (.slice ao (bothS os).length cp) (bothS os) from by unfold RdT; rw [bothS_len]; exact Rd.of_own hor)
      have hcr := HCO1.out.below HB.out
      have HCR := hidI hcr
      have m0 : wr.cell? ⟨bm, 0, none⟩ = some (.slice co l.length cc) := cell_of_block HM2.out rfl
      have m1 : wr.cell? ⟨bm, 1, none⟩ = some (.int .i64 mem) := cell_of_block HM2.out rfl
      have m2 : wr.cell? ⟨bm, 2, none⟩ = some (.slice none 0 0) := cell_of_block HM2.out rfl
      clear hor hcr
      go_wp2_with fail
      refine ((show Calls Tryz.prog 125 #[.agg #[.slice co l.length cc, .int .i64 mem, .slice none 0 0], .slice ao os.length cp] wr (RunTrace (doActs (newM mem (l.map (·.2)) [], 0) (actsS (bothS os))) wr) from by
        have h9 := run_yes (l := l) (cs := []) (sc := bothS os) (ca := co) (ccap := cc) (cca := none) (ccca := 0) (sa := ao) (scap := cp) HCR.out (Rd.nil _ 2) mem (by have := HLL.out; omega) (by simp) HCH.out HSC.out (by rw [bothS_len]; have := HOL.out; omega) bothS_n (bothS_ok HOL.out)
        rw [bothS_len] at h9
        exact h9)).mono ?_
      rintro e w6 ⟨ga, ls, ve, vec, rfl, hrow, hse, -, hms, hev, -, hb6⟩
      have HRW := hidI (Rd.of_own hrow)
      have HSE := hidI (show ∀ s ∈ ls, RdT encI w6 1 s.v s.out from fun s hs => Rd.of_own (hse s hs).1)
      have HMS := hidI (show ls.map (fun s => (s.out, s.fin)) = out from by
        rw [hms, ← HRUN.out]
        unfold toldM
        rw [← HL2.out, ← HMEM.out])
      have HB6 := hidI (bnext (bnext HBI.out HB.out) hb6)
      obtain ⟨st, hst⟩ : ∃ z, z = (doActs (newM mem (l.map (·.2)) [], 0) (actsS (bothS os))).2 := ⟨_, rfl⟩
      obtain ⟨ne, hne⟩ : ∃ z, z = (doActs (newM mem (l.map (·.2)) [], 0) (actsS (bothS os))).1.evs.length := ⟨_, rfl⟩
      rw [← hst, ← hne]
      clear hst hne hrow hse hms hev hb6
      go_wp2_with fail
      go_ret
      exact ⟨ga, ls, rfl, Rd.alloc HRW.out _, fun s hs => Rd.alloc (HSE.out s hs) _, HMS.out, HB6.out.alloc HB6.out.size _⟩
end
section
def cts : List Tx := [⟨0, 2, 1, 0⟩, ⟨0, 3, 1, 1⟩]
def f0 : FT := ⟨List.replicate 8 0, 0, [], [], 0⟩
def toldR (words : Int) (rs : List (List (List Tx))) (os : List Int) : MM × Int := doActs (newM (imgSize words rs.length) (rs.mapIdx fun i r => xprog (imgTx words rs.length i) r) [], 0) (actsS (bothS os))
theorem toldM_eq (words : Int) (ts : Ths) (os : List Int) : toldM words ts os = toldR words (ts.map rowsOf) os := by
  unfold toldM toldR
  rw [List.length_map]
  have e : (ts.map rowsOf).mapIdx (fun i r => xprog (imgTx words ts.length i) r) = ts.mapIdx fun i t => xprog (imgTx words ts.length i) (rowsOf t) := by
    refine List.ext_getElem (by simp) fun i h1 h2 => ?_
    simp
  rw [e]
variable {mm mm' : MM} {n m : Nat} {code : List OpD} {sz : Int} {M M' : List (Int × Int)} {f f' : FT}
theorem f0_reg : ∀ i, f0.reg.getD i 0 = 0 := by
  intro i
  simp only [f0, List.getD_eq_getElem?_getD, List.getElem?_replicate]
  split <;> rfl
theorem Rep.start {codes : List (List OpD)} (h : codes[n]? = some code) (hs : 0 ≤ sz) : Rep (newM sz codes []) n code sz [] f0 := by
  refine ⟨⟨MT.new code, by simp [newM, h], rfl, fun i _ => by rw [f0_reg]; rfl, rfl, rfl, rfl, rfl⟩, by simp [newM, fillS]; omega, fun a h1 h2 => ?_, fun c hc => by simp [f0] at hc, rfl⟩
  simp only [MM.at, newM, fillS, lkM, List.getD_eq_getElem?_getD]
  first
  | rfl
  | (simp [List.getElem?_replicate]; split <;> rfl)
theorem Rep.other (h : Rep mm' n code sz M f) (ho : Oth n mm mm') {c : List OpD} (hm : mm.ths[m]? = some (MT.new c)) (hne : m ≠ n) : Rep mm' m c sz M f0 :=
  ⟨⟨MT.new c, by rw [ho m hne]; exact hm, rfl, fun i _ => by rw [f0_reg]; rfl, rfl, rfl, rfl, rfl⟩, h.len, h.mem, fun c hc => by simp [f0] at hc, rfl⟩
theorem Rep.whole (h : Rep mm n code sz M f) {K : Nat} (hs : frun code sz K M f = some (M', f')) (hf : f'.fin ≠ 0) (hw : f'.wait = []) (hK : K ≤ 20000) (st : Int) :
    Rep (doActs (mm, st) (pickS ⟨2, n, 20000⟩)).1 n code sz M' f' ∧ Oth n mm (doActs (mm, st) (pickS ⟨2, n, 20000⟩)).1 := by
  have e : pickS ⟨2, n, 20000⟩ = timesS ⟨2, n, 0⟩ (K + (20000 - K)) := by
    rw [Nat.add_sub_cancel' hK]
    exact timesS_n n 20000 20000
  rw [e]
  refine Rep.run (K + (20000 - K)) st h ?_
  rw [frun_add K (20000 - K) hs]
  exact frun_end hf hw _
def okEnd (f : FT) (o : List Int) : Bool := decide (f.fin = 1) && f.wait.isEmpty && decide (f.out = o)
theorem okEnd_iff {f : FT} {o : List Int} (h : okEnd f o = true) : f.fin = 1 ∧ f.wait = [] ∧ f.out = o := by
  unfold okEnd at h
  simp only [Bool.and_eq_true, decide_eq_true_eq, List.isEmpty_iff] at h
  exact ⟨h.1.1, h.1.2, h.2⟩
def ok1 (c : List OpD) (sz : Int) (K : Nat) (o : List Int) : Bool := match frun c sz K [] f0 with
  | none => false
  | some (_, f) => okEnd f o
def ok2 (c c' : List OpD) (sz : Int) (K : Nat) (o o' : List Int) : Bool := match frun c sz K [] f0 with
  | none => false
  | some (M, f) => okEnd f o && (match frun c' sz K M f0 with
    | none => false
    | some (_, f') => okEnd f' o')
theorem end2 {c c' : List OpD} {K : Nat} {o o' : List Int} {codes : List (List OpD)} {a b : Nat} (hab : a < 2 ∧ b < 2 ∧ a ≠ b) (hc : codes.length = 2) (ha : codes[a]? = some c) (hb : codes[b]? = some c') (hs : 0 ≤ sz) (hK : K ≤ 20000) (h : ok2 c c' sz K o o' = true) :
    ((doActs (newM sz codes [], 0) (actsS (bothS [(a : Int), (b : Int)]))).1.ths.map (fun t => (t.out, t.fin)))[a]? = some (o, 1) ∧
    ((doActs (newM sz codes [], 0) (actsS (bothS [(a : Int), (b : Int)]))).1.ths.map (fun t => (t.out, t.fin)))[b]? = some (o', 1) ∧
    (doActs (newM sz codes [], 0) (actsS (bothS [(a : Int), (b : Int)]))).1.ths.length = 2 := by
  unfold ok2 at h
  cases hr : frun c sz K [] f0 with
  | none => rw [hr] at h; cases h
  | some p =>
    obtain ⟨M1, f1⟩ := p
    rw [hr] at h
    simp only [Bool.and_eq_true] at h
    obtain ⟨h, h'⟩ := h
    cases hr' : frun c' sz K M1 f0 with
    | none => rw [hr'] at h'; cases h'
    | some p =>
      obtain ⟨M2, f2⟩ := p
      rw [hr'] at h'
      obtain ⟨e1, e2, e3⟩ := okEnd_iff h
      obtain ⟨d1, d2, d3⟩ := okEnd_iff h'
      have hst : Rep (newM sz codes []) a c sz [] f0 := Rep.start ha hs
      obtain ⟨h1, h2⟩ := hst.whole hr (by rw [e1]; decide) e2 hK 0
      have ea : actsS (bothS [(a : Int), (b : Int)]) = pickS ⟨2, (a : Nat), 20000⟩ ++ pickS ⟨2, (b : Nat), 20000⟩ := by simp [actsS, bothS]
      rw [ea, doActs_app]
      obtain ⟨⟨mm1, st1⟩, hS⟩ : ∃ S, S = doActs (newM sz codes [], 0) (pickS ⟨2, (a : Nat), 20000⟩) := ⟨_, rfl⟩
      rw [← hS] at h1 h2 ⊢
      have hx : (newM sz codes []).ths[b]? = some (MT.new c') := by simp [newM, hb]
      obtain ⟨h3, h4⟩ := (h1.other h2 hx (fun e => hab.2.2 e.symm)).whole hr' (by rw [d1]; decide) d2 hK st1
      generalize doActs (mm1, st1) (pickS ⟨2, (b : Nat), 20000⟩) = S at h3 h4 ⊢
      obtain ⟨t, ht, -, -, -, -, q5, q6⟩ := h1.th
      obtain ⟨u, hu, -, -, -, -, p5, p6⟩ := h3.th
      refine ⟨?_, ?_, ?_⟩
      · rw [List.getElem?_map, h4 a hab.2.2, ht]; simp [q5, q6, e1, e3]
      · rw [List.getElem?_map, hu]; simp [p5, p6, d1, d3]
      · have g2 : S.1.ths[2]? = none := by rw [h4 2 (by omega), h2 2 (by omega)]; simp [newM, hc]
        have ga : a < S.1.ths.length := by
          have : S.1.ths[a]? = some t := by rw [h4 a hab.2.2, ht]
          exact (List.getElem?_eq_some_iff.1 this).1
        have gb := (List.getElem?_eq_some_iff.1 hu).1
        have := List.getElem?_eq_none_iff.1 g2
        omega
theorem two_of {α : Type} {l : List α} {x y : α} (h0 : l[0]? = some x) (h1 : l[1]? = some y) (h : l.length = 2) : l = [x, y] := by
  match l, h with
  | [a, b], _ => simp at h0 h1; rw [h0, h1]
theorem run10 : ok2 (xprog (imgTx 1 2 1) [cts]) (xprog (imgTx 1 2 0) [cts]) (imgSize 1 2) 800 [0] [1] = true := by kernel_rfl
theorem size_nn (n : Nat) (h : n ≤ 4) : 0 ≤ imgSize 1 n := by rw [imgSize_few (by decide) (by decide) h]; omega
theorem codes2 : (([[cts], [cts]] : List (List (List Tx))).mapIdx fun i r => xprog (imgTx 1 2 i) r) = [xprog (imgTx 1 2 0) [cts], xprog (imgTx 1 2 1) [cts]] := rfl
theorem toldR2 (os : List Int) : toldR 1 [[cts], [cts]] os = doActs (newM (imgSize 1 2) [xprog (imgTx 1 2 0) [cts], xprog (imgTx 1 2 1) [cts]] [], 0) (actsS (bothS os)) := by
  unfold toldR
  rw [show ([[cts], [cts]] : List (List (List Tx))).length = 2 from rfl, codes2]
attribute [local irreducible] doActs actsS bothS xprog imgTx imgSize ok2 ok1 newM
theorem c0 : ((0 : Nat) : Int) = 0 := rfl
theorem c1 : ((1 : Nat) : Int) = 1 := rfl
theorem seen10 : (toldR 1 [[cts], [cts]] [1, 0]).1.ths.map (fun t => (t.out, t.fin)) = [([1], 1), ([0], 1)] := by
  have h := end2 (a := 1) (b := 0) (codes := [xprog (imgTx 1 2 0) [cts], xprog (imgTx 1 2 1) [cts]]) (sz := imgSize 1 2) (by omega) rfl rfl rfl (size_nn 2 (by decide)) (by omega) run10
  rw [toldR2]
  rw [c0, c1] at h
  exact two_of h.2.1 h.1 (by rw [List.length_map]; exact h.2.2)
end
section
variable {w w' : World}
theorem counts_any (w : World) : Calls Tryz.prog 25 #[] w fun e w' => e = .returned (.slice (some ⟨w.heap.size, 0, none⟩) 2 2) ∧ w'.heap[w.heap.size]? = some (.cells (cts.flatMap encTxD).toArray 88 (0, 0)) ∧ Below w.heap.size w w' := by
  go_enter Tryz.func25, Tryz.ntmps25
  go_wp2_with fail
  go_ret
  exact ⟨rfl, block_new w _, (Below.refl _ _).alloc (Nat.le_refl _) _⟩
theorem rd_shape {α : Type} {enc : α → List Value} {sz : Nat} {v : Value} {l : List α} (h : RdT enc w sz v l) : ∃ ao c, v = .slice ao l.length c := by
  obtain ⟨h1, ao, cap, e, _⟩ := h
  exact ⟨ao, cap, e⟩
theorem told2 {e : Ending} {o o' : List Int} {k k' : Int} (h : ToldPost [(o, k), (o', k')] w e w') :
    ∃ ga a0 c0 a1 c1, e = .returned (.slice (some ⟨ga, 0, none⟩) 2 2) ∧ w'.cell? ⟨ga, 0, none⟩ = some (.slice a0 o.length c0) ∧ w'.cell? ⟨ga, 1, none⟩ = some (.int .u8 k) ∧ w'.cell? ⟨ga, 2, none⟩ = some (.slice a1 o'.length c1) ∧ w'.cell? ⟨ga, 3, none⟩ = some (.int .u8 k') ∧
      RdT encI w' 1 (.slice a0 o.length c0) o ∧ RdT encI w' 1 (.slice a1 o'.length c1) o' ∧ ga < w'.heap.size ∧ Below w.heap.size w w' := by
  obtain ⟨ga, ls, rfl, hr, hs, hm, hb⟩ := h
  obtain ⟨s, s', rfl⟩ : ∃ s s', ls = [s, s'] := by
    match ls, hm with
    | [s, s'], _ => exact ⟨s, s', rfl⟩
  obtain ⟨v, so, sf⟩ := s
  obtain ⟨v', so', sf'⟩ := s'
  simp only [List.map_cons, List.map_nil, List.cons.injEq, Prod.mk.injEq, and_true] at hm
  obtain ⟨⟨rfl, rfl⟩, rfl, rfl⟩ := hm
  have h0 := hs _ List.mem_cons_self
  have h1 := hs ⟨v', so', sf'⟩ (by simp)
  simp only at h0 h1
  obtain ⟨a0, c0, rfl⟩ := rd_shape h0
  obtain ⟨a1, c1, rfl⟩ := rd_shape h1
  obtain ⟨gb, co, e1, hgb, hcc⟩ := RdT.at encS_len hr (k := 0) rfl
  obtain ⟨gb', co', e1', hgb', hcc'⟩ := RdT.at encS_len hr (k := 1) rfl
  cases e1
  cases e1'
  exact ⟨ga, a0, c0, a1, c1, rfl, by have := hcc 0 _ rfl; simpa using this, by have := hcc 1 _ rfl; simpa using this, by have := hcc' 0 _ rfl; simpa using this, by have := hcc' 1 _ rfl; simpa using this, h0, h1, hgb, hb⟩
theorem cts_wf : ∀ o ∈ cts, TxWf o := by intro o ho; simp [cts] at ho; rcases ho with rfl | rfl <;> exact ⟨⟨by decide, by decide⟩, by decide, by decide⟩
theorem cts_ok : cts.all (okTx 1) = true := by decide
def cRow (g : Nat) : Value × List Tx := (.slice (some ⟨g, 0, none⟩) 2 2, cts)
theorem rowsAt_lit {r : Nat} {l : List (Value × List Tx)} {T : TypeId} (hr : w.heap[r]? = some (.cells (l.flatMap encR).toArray T (0, 0))) (he : ∀ p ∈ l, RdT encTxD w 4 p.1 p.2) : RowsAt w (.slice (some ⟨r, 0, none⟩) l.length l.length) l := ⟨bn_lit (fun _ => rfl) hr, he⟩
theorem thsAt_lit {t : Nat} {ts : Ths} {T : TypeId} (ht : w.heap[t]? = some (.cells (ts.flatMap encR2).toArray T (0, 0))) (he : ∀ p ∈ ts, RowsAt w p.1 p.2) (hn : ∀ p ∈ ts, txTotal p.2 ≤ 262144) : ThsAt w (.slice (some ⟨t, 0, none⟩) ts.length ts.length) ts := ⟨bn_lit (fun _ => rfl) ht, he, hn⟩
theorem cts_ths {ts : Ths} (h : ∀ t ∈ ts, ∀ p ∈ t.2, p.2 = cts) : (∀ t ∈ ts, okRows 1 t.2 = true) ∧ (∀ t ∈ ts, ∀ l ∈ rowsOf t, ∀ o ∈ l, TxWf o) := by
  refine ⟨fun t ht => ?_, fun t ht l hl => ?_⟩
  · unfold okRows
    rw [List.all_eq_true]
    intro p hp
    rw [h t ht p hp]
    exact cts_ok
  · obtain ⟨p, hp, rfl⟩ := List.mem_map.1 hl
    rw [h t ht p hp]
    exact cts_wf
theorem progs_eq (ts : Ths) : progs ts = ((ts.map rowsOf).map progLen).sum := by unfold progs; rw [List.map_map]; rfl
theorem three_new (w : World) (a b c : Obj) : (((w.alloc a).alloc b).alloc c).heap[w.heap.size]? = some a ∧ (((w.alloc a).alloc b).alloc c).heap[w.heap.size + 1]? = some b ∧ (((w.alloc a).alloc b).alloc c).heap[w.heap.size + 1 + 1]? = some c ∧
    Below w.heap.size w (((w.alloc a).alloc b).alloc c) := by
  refine ⟨block_alloc (block_alloc (block_new w a)), block_alloc (block_new2 w a b), ?_, (((Below.refl w.heap.size w).alloc (Nat.le_refl _) _).alloc (by simp) _).alloc (by simp; omega) _⟩
  have := block_new2 (w.alloc a) b c
  rw [World.size_alloc] at this
  exact this
def livesTs (r g : Nat) : Ths := [(.slice (some ⟨r, 0, none⟩) 1 1, [cRow g]), (.slice (some ⟨r, 0, none⟩) 1 1, [cRow g])]
theorem lives25 (w : World) : Calls Tryz.prog 12 #[] w fun e w' => e = .returned (.bool true) ∧ Below w.heap.size w w' := by
  go_enter Tryz.func12, Tryz.ntmps12
  go_wp2_with fail
  refine (counts_any w).mono ?_
  rintro e w1 ⟨rfl, hc1, hb1⟩
  have HC1 := hidI hc1
  have HB1 := hidI hb1
  clear hc1 hb1
  obtain ⟨g, hg⟩ : ∃ g, g = w.heap.size := ⟨_, rfl⟩
  rw [← hg] at HC1 ⊢
  clear hg
  go_wp2_with fail
  obtain ⟨hR, hT, hO, hB⟩ := three_new w1 (.cells #[.slice (some ⟨g, 0, none⟩) 2 2] 71) (.cells #[.slice (some ⟨w1.heap.size, 0, none⟩) 1 1, .slice (some ⟨w1.heap.size, 0, none⟩) 1 1] 25) (.cells #[.int .i64 1, .int .i64 0] 3)
  obtain ⟨w4, hw4⟩ : ∃ x, x = (((w1.alloc (.cells #[.slice (some ⟨g, 0, none⟩) 2 2] 71)).alloc (.cells #[.slice (some ⟨w1.heap.size, 0, none⟩) 1 1, .slice (some ⟨w1.heap.size, 0, none⟩) 1 1] 25)).alloc (.cells #[.int .i64 1, .int .i64 0] 3)) := ⟨_, rfl⟩
  rw [← hw4] at hR hT hO hB ⊢
  have hG := blk hB HC1.out
  have hrow : RowsAt w4 (.slice (some ⟨w1.heap.size, 0, none⟩) 1 1) [cRow g] := rowsAt_lit (l := [cRow g]) hR (fun p hp => by
    rw [List.mem_singleton.1 hp]
    exact bn_lit encTxD_len hG)
  have hths : ThsAt w4 (.slice (some ⟨w1.heap.size + 1, 0, none⟩) 2 2) (livesTs w1.heap.size g) :=
    thsAt_lit (ts := (livesTs w1.heap.size g)) hT (fun p hp => by
      rcases List.mem_cons.1 hp with rfl | hp
      · exact hrow
      · rw [List.mem_singleton.1 hp]; exact hrow) (fun p hp => by
      rcases List.mem_cons.1 hp with rfl | hp
      · show 3 ≤ 262144; decide
      · rw [List.mem_singleton.1 hp]; show 3 ≤ 262144; decide)
  have hcts := cts_ths (ts := (livesTs w1.heap.size g)) (fun t ht p hp => by
    rcases List.mem_cons.1 ht with rfl | ht
    · rw [List.mem_singleton.1 hp]; rfl
    · rw [List.mem_singleton.1 ht] at hp; rw [List.mem_singleton.1 hp]; rfl)
  have hrs : List.map rowsOf (livesTs w1.heap.size g) = [[cts], [cts]] := rfl
  have hord : RdT encI w4 1 (.slice (some ⟨w1.heap.size + 1 + 1, 0, none⟩) ([1, 0] : List Int).length ([1, 0] : List Int).length) [1, 0] := bn_lit (l := [1, 0]) encI_len hO
  have HB4 := hidI (HB1.out.trans (hB.mono HB1.out.size))
  refine (told_any (out := [([1], 1), ([0], 1)]) (ts := livesTs w1.heap.size g) hths (by decide) (by decide) (show 2 ≤ 4 by decide) (by rw [progs_eq, hrs]; decide) hcts.1 hcts.2 hord (by decide) (by rw [toldM_eq, hrs]; exact seen10)).mono ?_
  intro e w2 hpost
  obtain ⟨ga, a0, c0, a1, c1, rfl, i0, i1, i2, i3, hd0, hd1, hga, hb2⟩ := told2 hpost
  have HB2 := hidI (HB4.out.trans (hb2.mono HB4.out.size))
  have HD0 := hidI hd0
  have HD1 := hidI hd1
  have I2 := hidI i2
  clear hpost hR hT hO hB hw4 hG hrow hths hcts hrs hord hb2 hd0 hd1
  have i0a := fun o => cell_allocU i0 o
  have i1a := fun o => cell_allocU i1 o
  go_wp2_with fail
  have hbt : Below w2.heap.size w2 (w2.alloc (.cells #[.int .i64 1] 2)) := (Below.refl _ _).alloc (Nat.le_refl _) _
  have hlit : RdT encI (w2.alloc (.cells #[.int .i64 1] 2)) 1 (.slice (some ⟨w2.heap.size, 0, none⟩) [(1 : Int)].length [(1 : Int)].length) [1] := bn_lit (l := [1]) (T := 2) encI_len (block_new w2 _)
  refine (sameWides_true (l := [1]) (Rd.below HD0.out hbt) hlit (by simp)).mono ?_
  rintro e w3 ⟨rfl, hb3⟩
  have hb23 := bnext hbt hb3
  have HB3 := hidI (HB2.out.trans (hb23.mono HB2.out.size))
  have HD3 := hidI (Rd.below HD1.out hb23)
  have i2 : w3.cell? ⟨ga, 2, none⟩ = some (.slice a1 1 c1) := (hb23.cell hga).trans I2.out
  have i2a := fun o => cell_allocU i2 o
  clear hb23 hb3 hlit hbt i0 i1 i3 i0a i1a
  go_wp2_with fail
  have hbt : Below w3.heap.size w3 (w3.alloc (.cells #[.int .i64 0] 2)) := (Below.refl _ _).alloc (Nat.le_refl _) _
  have hlit : RdT encI (w3.alloc (.cells #[.int .i64 0] 2)) 1 (.slice (some ⟨w3.heap.size, 0, none⟩) [(0 : Int)].length [(0 : Int)].length) [0] := bn_lit (l := [0]) (T := 2) encI_len (block_new w3 _)
  refine (sameWides_true (l := [0]) (Rd.below HD3.out hbt) hlit (by simp)).mono ?_
  rintro e w5 ⟨rfl, hb5⟩
  have HB5 := hidI (HB3.out.trans ((bnext hbt hb5).mono HB3.out.size))
  clear hbt hb5 hlit i2 i2a
  go_wp2_with fail
  go_ret
  exact ⟨rfl, HB5.out⟩
end
section
variable {w w' : World}
theorem counted_any (w : World) (z : Int) (h : -9223372036854775808 ≤ z ∧ z ≤ 262144) : Calls Tryz.prog 111 #[.int .i64 z] w fun e w' => e = .returned (.int .i64 (if z < 0 then 262145 else 262144 - z)) ∧ Below w.heap.size w w' := by
  obtain ⟨h1, h2⟩ := h
  by_cases hz : z < 0
  · rw [if_pos hz]
    go_enter Tryz.func111, Tryz.ntmps111
    go_wp2_with fail
    go_ret
    exact ⟨rfl, Below.refl _ _⟩
  · rw [if_neg hz]
    go_enter Tryz.func111, Tryz.ntmps111
    go_wp2_with fail
    go_ret
    exact ⟨rfl, Below.refl _ _⟩
theorem bn_total_take (rs : List (Value × List Tx)) (k : Nat) : txTotal (rs.take k) ≤ txTotal rs := by
  unfold txTotal
  have : rs = rs.take k ++ rs.drop k := (List.take_append_drop _ _).symm
  conv => rhs; rw [this, List.map_append, List.sum_append]
  omega
theorem txsize_any {ra : Option Addr} {rc : Nat} {rs : List (Value × List Tx)} (h : RowsAt w (.slice ra rs.length rc) rs) (hl : rs.length ≤ 9223372036854775807) (he : ∀ p ∈ rs, p.2.length ≤ 9223372036854775807) :
    Calls Tryz.prog 16 #[.slice ra rs.length rc] w fun e w' => ∃ z : Int, e = .returned (.int .i64 z) ∧ 0 ≤ z ∧ z ≤ 262145 ∧ (z ≤ 262144 → (txTotal rs : Int) = z) ∧ Below w.heap.size w w' := by
  have H := hidI h
  have HE := hidI he
  have HL := hidI hl
  clear h he
  go_enter Tryz.func16, Tryz.ntmps16
  go_wp2_with fail
  go_loopw [4, 3] (fun i z wr => ∃ (j : Nat) (y : Int), j ≤ rs.length ∧ i = .int .i64 (j : Int) ∧ z = .int .i64 y ∧ y = 262144 - (txTotal (rs.take j) : Int) ∧ -9223372036854775808 ≤ y ∧ wr = w) (fun i _ _ => rs.length - (intOf i).toNat)
  case atStart => exact ⟨0, 262144, Nat.zero_le _, rfl, rfl, by simp [txTotal], by decide, rfl⟩
  case round =>
    obtain ⟨j, y, hj, rfl, rfl, hy, hyl, rfl⟩ := hrel
    have hll := HL.out
    have HY := hidI hy
    have hyu : y ≤ 262144 := by omega
    clear hy
    by_cases hlt : j < rs.length
    · by_cases hy0 : y < 0
      · have q1 : ¬ (y ≥ 0) := by omega
        go_wp2_with fail
        refine (counted_any _ y ⟨hyl, hyu⟩).mono ?_
        rintro e w1 ⟨rfl, hb⟩
        rw [if_pos hy0]
        have HB := hidI hb
        clear hb
        go_wp2_with fail
        go_ret
        exact ⟨262145, rfl, by decide, by decide, fun h => absurd h (by decide), HB.out⟩
      · have q1 : y ≥ 0 := by omega
        obtain ⟨p, hx⟩ := some_at hlt
        obtain ⟨g, off, rfl, hg, hc⟩ := RdT.at (enc := encR) (fun _ => rfl) H.out.rows hx
        obtain ⟨pa, pc, hpv⟩ := rd_shape (H.out.each p (List.mem_of_getElem? hx))
        have d0 : wr.cell? ⟨g, off + j, none⟩ = some (.slice pa p.2.length pc) := by have := hc 0 _ rfl; rw [← hpv]; simpa [encR] using this
        have hpl := HE.out p (List.mem_of_getElem? hx)
        have HT := hidI (txTotal_step hx)
        clear hx hc hpv
        go_wp2_with fail
        exact ⟨⟨j + 1, y - 1 - (p.2.length : Int), by omega, by go_num, rfl, by rw [HT.out, HY.out]; omega, by omega, trivial⟩, by simp [intOf]; omega⟩
    · obtain rfl : j = rs.length := by omega
      rw [List.take_length] at HY
      go_wp2_with fail
      refine (counted_any _ y ⟨hyl, hyu⟩).mono ?_
      rintro e w1 ⟨rfl, hb⟩
      have HB := hidI hb
      clear hb
      obtain ⟨z, hz⟩ : ∃ z, z = (if y < 0 then 262145 else 262144 - y) := ⟨_, rfl⟩
      rw [← hz]
      have HZ := hidI (show 0 ≤ z ∧ z ≤ 262145 ∧ (z ≤ 262144 → (txTotal rs : Int) = z) from by
        have hy := HY.out
        rw [hz]
        split <;> omega)
      clear hz
      go_wp2_with fail
      go_ret
      exact ⟨z, rfl, HZ.out.1, HZ.out.2.1, HZ.out.2.2, HB.out⟩
end
section
variable {w w' : World}
theorem all_take {α : Type} {l : List α} {f : α → Bool} (h : ∀ x ∈ l, f x = true) : l.all f = true := List.all_eq_true.2 h
theorem mem_take_snoc {α : Type} {l : List α} {j : Nat} {x y : α} (h : l[j]? = some x) (hy : y ∈ l.take (j + 1)) : y ∈ l.take j ∨ y = x := by
  rw [take_snoc h] at hy
  rcases List.mem_append.1 hy with hy | hy
  · exact .inl hy
  · exact .inr (by simpa using hy)
def MayPost (words : Int) (ts : Ths) (w : World) (e : Ending) (w' : World) : Prop := ∃ b, e = .returned (.bool b) ∧ (b = true ↔ ∀ t ∈ ts, okRows words t.2 = true) ∧ Below w.heap.size w w'
theorem may_any {ta : Option Addr} {tc : Nat} {ts : Ths} (h : ThsAt w (.slice ta ts.length tc) ts) (hl : ts.length ≤ 9000000000000) (words : Int) :
    Calls Tryz.prog 11 #[.int .i64 words, .slice ta ts.length tc] w (MayPost words ts w) := by
  have H := hidI h
  have HL := hidI hl
  clear h
  go_enter Tryz.func11, Tryz.ntmps11
  go_wp2_with fail
  go_loopw [5] (fun i wr => ∃ a : Nat, a ≤ ts.length ∧ i = .int .i64 (a : Int) ∧ wr = w ∧ Hid (∀ t ∈ ts.take a, okRows words t.2 = true)) (fun i _ => ts.length - (intOf i).toNat)
  case atStart => exact ⟨0, Nat.zero_le _, rfl, rfl, fun t ht => by simp at ht⟩
  case round =>
    obtain ⟨a, ha, rfl, rfl, HA⟩ := hrel
    have hll := HL.out
    by_cases hlt : a < ts.length
    · obtain ⟨t, hx⟩ := some_at hlt
      obtain ⟨g, off, rfl, hg, hc⟩ := RdT.at encR2_len H.out.rows hx
      have hrows := H.out.each t (List.mem_of_getElem? hx)
      obtain ⟨ra, rc, hrv⟩ := rd_shape hrows.rows
      have d0 : wr.cell? ⟨g, off + a, none⟩ = some (.slice ra t.2.length rc) := by have := hc 0 _ rfl; rw [← hrv]; simpa [encR2] using this
      have htl : t.2.length ≤ 262144 := by
        have h1 := H.out.tot t (List.mem_of_getElem? hx)
        unfold txTotal at h1
        have h2 : ∀ l : List (Value × List Tx), l.length ≤ (l.map fun p => p.2.length + 1).sum := by
          intro l
          induction l with
          | nil => simp
          | cons q r ih => simp only [List.length_cons, List.map_cons, List.sum_cons]; omega
        exact Nat.le_trans (h2 _) h1
      have htt := H.out.tot t (List.mem_of_getElem? hx)
      rw [hrv] at hrows
      have HT := hidI hx
      have HR := hidI hrows
      have HTT := hidI htt
      have HLT := hidI hlt
      clear hx hc hrv hrows htt
      go_wp2_with fail
      go_loopw [6] (fun k wr' => ∃ b : Nat, b ≤ t.2.length ∧ k = .int .i64 (b : Int) ∧ wr' = wr ∧ Hid (∀ p ∈ t.2.take b, p.2.all (okTx words) = true)) (fun k _ => t.2.length - (intOf k).toNat)
      case atStart => exact ⟨0, Nat.zero_le _, rfl, rfl, fun t ht => by simp at ht⟩
      case round =>
        obtain ⟨b, hb, rfl, rfl, HB⟩ := hrel
        by_cases hlt2 : b < t.2.length
        · obtain ⟨p, hx⟩ := some_at hlt2
          obtain ⟨g2, off2, hra, hg2, hc⟩ := RdT.at (enc := encR) (fun _ => rfl) HR.out.rows hx
          obtain ⟨pa, pc, hpv⟩ := rd_shape (HR.out.each p (List.mem_of_getElem? hx))
          have d1 : wr.cell? ⟨g2, off2 + b, none⟩ = some (.slice pa p.2.length pc) := by have := hc 0 _ rfl; rw [← hpv]; simpa [encR] using this
          have hpl : p.2.length ≤ 262144 := by
            have h1 := HTT.out
            have h2 := bn_total_take t.2 (b + 1)
            rw [txTotal_step hx] at h2
            omega
          have hp := HR.out.each p (List.mem_of_getElem? hx)
          rw [hpv] at hp
          subst hra
          have HP := hidI hp
          have HX := hidI hx
          clear hx hc hpv hp
          go_wp2_with fail
          go_loopw [8] (fun n wr' => ∃ c : Nat, c ≤ p.2.length ∧ n = .int .i64 (c : Int) ∧ wr' = wr ∧ Hid (∀ o ∈ p.2.take c, okTx words o = true)) (fun n _ => p.2.length - (intOf n).toNat)
          case atStart => exact ⟨0, Nat.zero_le _, rfl, rfl, fun t ht => by simp at ht⟩
          case round =>
            obtain ⟨c, hc, rfl, rfl, HC⟩ := hrel
            by_cases hlt3 : c < p.2.length
            · obtain ⟨o, hx⟩ := some_at hlt3
              obtain ⟨g3, off3, hpa, hg3, hcc⟩ := RdT.at encTxD_len HP.out hx
              subst hpa
              obtain ⟨oth, kind, oa, ov⟩ := o
              have e1 : wr.cell? ⟨g3, off3 + c * 4 + 1, none⟩ = some (.int .u8 kind) := hcc 1 _ rfl
              have e2 : wr.cell? ⟨g3, off3 + c * 4 + 2, none⟩ = some (.int .i64 oa) := hcc 2 _ rfl
              have HO := hidI hx
              clear hx hcc
              have HLT3 := hidI hlt3
              by_cases hk : kind = 2 ∨ kind = 3
              · by_cases h1 : oa < 1
                · have HE := hidI (show okTx words ⟨oth, kind, oa, ov⟩ = false from by simp [okTx]; omega)
                  have HNO := hidI (show ¬ ∀ t ∈ ts, okRows words t.2 = true from fun hall => by
                  have h1 := List.all_eq_true.1 (hall t (List.mem_of_getElem? HT.out)) p (List.mem_of_getElem? HX.out)
                  have h2 := List.all_eq_true.1 h1 _ (List.mem_of_getElem? HO.out)
                  rw [HE.out] at h2
                  cases h2)
                  have q1 : decide (oa < 1) = true := decide_eq_true h1
                  rcases hk with rfl | rfl
                  all_goals (
                    go_wp2_with fail
                    go_ret
                    exact ⟨false, rfl, ⟨fun h => (by cases h), fun h => absurd h HNO.out⟩, Below.refl _ _⟩)
                · have q1 : decide (oa < 1) = false := decide_eq_false h1
                  by_cases h2 : oa > words
                  · have HE := hidI (show okTx words ⟨oth, kind, oa, ov⟩ = false from by simp [okTx]; omega)
                    have HNO := hidI (show ¬ ∀ t ∈ ts, okRows words t.2 = true from fun hall => by
                    have h1 := List.all_eq_true.1 (hall t (List.mem_of_getElem? HT.out)) p (List.mem_of_getElem? HX.out)
                    have h2 := List.all_eq_true.1 h1 _ (List.mem_of_getElem? HO.out)
                    rw [HE.out] at h2
                    cases h2)
                    have q2 : decide (oa > words) = true := decide_eq_true h2
                    rcases hk with rfl | rfl
                    all_goals (
                      go_wp2_with fail
                      go_ret
                      exact ⟨false, rfl, ⟨fun h => (by cases h), fun h => absurd h HNO.out⟩, Below.refl _ _⟩)
                  · have HC' := hidI (show ∀ u ∈ p.2.take (c + 1), okTx words u = true from fun u hu => by
                      rcases mem_take_snoc HO.out hu with hu | rfl
                      · exact HC.out u hu
                      · simp [okTx]; omega)
                    have q2 : decide (oa > words) = false := decide_eq_false h2
                    rcases hk with rfl | rfl
                    all_goals (
                      go_wp2_with fail
                      exact ⟨⟨c + 1, by omega, by go_num, trivial, HC'⟩, by simp [intOf]; omega⟩)
              · have HE := hidI (show okTx words ⟨oth, kind, oa, ov⟩ = false from by simp [okTx]; omega)
                have HNO := hidI (show ¬ ∀ t ∈ ts, okRows words t.2 = true from fun hall => by
                have h1 := List.all_eq_true.1 (hall t (List.mem_of_getElem? HT.out)) p (List.mem_of_getElem? HX.out)
                have h2 := List.all_eq_true.1 h1 _ (List.mem_of_getElem? HO.out)
                rw [HE.out] at h2
                cases h2)
                have q1 : (kind != 2) = true := by simp; omega
                have q2 : (kind != 3) = true := by simp; omega
                clear hk
                go_wp2_with fail
                go_ret
                exact ⟨false, rfl, ⟨fun h => (by cases h), fun h => absurd h HNO.out⟩, Below.refl _ _⟩
            · obtain rfl : c = p.2.length := by omega
              have hc' := HC.out
              rw [List.take_length] at hc'
              have HB' := hidI (show ∀ q ∈ t.2.take (b + 1), q.2.all (okTx words) = true from fun q hq => by
                rcases mem_take_snoc HX.out hq with hq | rfl
                · exact HB.out q hq
                · exact all_take hc')
              clear hc'
              go_wp2_with fail
              exact ⟨⟨b + 1, by omega, by go_num, trivial, HB'⟩, by simp [intOf]; omega⟩
        · obtain rfl : b = t.2.length := by omega
          have hb' := HB.out
          rw [List.take_length] at hb'
          have HA' := hidI (show ∀ u ∈ ts.take (a + 1), okRows words u.2 = true from fun u hu => by
            rcases mem_take_snoc HT.out hu with hu | rfl
            · exact HA.out u hu
            · exact all_take hb')
          clear hb'
          have hlt := HLT.out
          go_wp2_with fail
          exact ⟨⟨a + 1, by omega, by go_num, trivial, HA'⟩, by simp [intOf]; omega⟩
    · obtain rfl : a = ts.length := by omega
      have ha' := HA.out
      rw [List.take_length] at ha'
      have HA' := hidI ha'
      clear ha'
      go_wp2_with fail
      go_ret
      exact ⟨true, rfl, ⟨fun _ => HA'.out, fun _ => rfl⟩, Below.refl _ _⟩
def FewS (words : Int) (ts : Ths) : Prop := (∀ t ∈ ts, t.2.length ≤ 16 ∧ ∀ p ∈ t.2, p.2.length ≤ 8) ∧ 0 ≤ words ∧ words ≤ 65536 ∧ ts.length ≤ 4
def FewPost (words : Int) (ts : Ths) (w : World) (e : Ending) (w' : World) : Prop := ∃ b, e = .returned (.bool b) ∧ (b = true → FewS words ts) ∧ Below w.heap.size w w'
theorem few_any {ta : Option Addr} {tc : Nat} {ts : Ths} (h : ThsAt w (.slice ta ts.length tc) ts) (hl : ts.length ≤ 9000000000000) (words : Int) :
    Calls Tryz.prog 10 #[.int .i64 words, .slice ta ts.length tc] w (FewPost words ts w) := by
  have H := hidI h
  have HL := hidI hl
  clear h
  go_enter Tryz.func10, Tryz.ntmps10
  go_wp2_with fail
  go_loopw [5] (fun i wr => ∃ a : Nat, a ≤ ts.length ∧ i = .int .i64 (a : Int) ∧ wr = w ∧ Hid (∀ t ∈ ts.take a, t.2.length ≤ 16 ∧ ∀ p ∈ t.2, p.2.length ≤ 8)) (fun i _ => ts.length - (intOf i).toNat)
  case atStart => exact ⟨0, Nat.zero_le _, rfl, rfl, fun t ht => by simp at ht⟩
  case round =>
    obtain ⟨a, ha, rfl, rfl, HA⟩ := hrel
    have hll := HL.out
    by_cases hlt : a < ts.length
    · obtain ⟨t, hx⟩ := some_at hlt
      obtain ⟨g, off, rfl, hg, hc⟩ := RdT.at encR2_len H.out.rows hx
      have hrows := H.out.each t (List.mem_of_getElem? hx)
      obtain ⟨ra, rc, hrv⟩ := rd_shape hrows.rows
      have d0 : wr.cell? ⟨g, off + a, none⟩ = some (.slice ra t.2.length rc) := by have := hc 0 _ rfl; rw [← hrv]; simpa [encR2] using this
      rw [hrv] at hrows
      have HT := hidI hx
      have HR := hidI hrows
      have HLT := hidI hlt
      clear hx hc hrv hrows
      by_cases h16 : t.2.length ≤ 16
      · have q1 : decide ((t.2.length : Int) > 16) = false := decide_eq_false (by omega)
        go_wp2_with fail
        go_loopw [6] (fun k wr' => ∃ b : Nat, b ≤ t.2.length ∧ k = .int .i64 (b : Int) ∧ wr' = wr ∧ Hid (∀ p ∈ t.2.take b, p.2.length ≤ 8)) (fun k _ => t.2.length - (intOf k).toNat)
        case atStart => exact ⟨0, Nat.zero_le _, rfl, rfl, fun t ht => by simp at ht⟩
        case round =>
          obtain ⟨b, hb, rfl, rfl, HB⟩ := hrel
          by_cases hlt2 : b < t.2.length
          · obtain ⟨p, hx⟩ := some_at hlt2
            obtain ⟨g2, off2, hra, hg2, hc⟩ := RdT.at (enc := encR) (fun _ => rfl) HR.out.rows hx
            obtain ⟨pa, pc, hpv⟩ := rd_shape (HR.out.each p (List.mem_of_getElem? hx))
            have d1 : wr.cell? ⟨g2, off2 + b, none⟩ = some (.slice pa p.2.length pc) := by have := hc 0 _ rfl; rw [← hpv]; simpa [encR] using this
            subst hra
            have HX := hidI hx
            clear hx hc hpv
            by_cases h8 : p.2.length ≤ 8
            · have q2 : decide ((p.2.length : Int) > 8) = false := decide_eq_false (by omega)
              have HB' := hidI (show ∀ q ∈ t.2.take (b + 1), q.2.length ≤ 8 from fun q hq => by
                rcases mem_take_snoc HX.out hq with hq | rfl
                · exact HB.out q hq
                · exact h8)
              go_wp2_with fail
              exact ⟨⟨b + 1, by omega, by go_num, trivial, HB'⟩, by simp [intOf]; omega⟩
            · have q2 : decide ((p.2.length : Int) > 8) = true := decide_eq_true (by omega)
              go_wp2_with fail
              go_ret
              exact ⟨false, rfl, fun h => (by cases h), Below.refl _ _⟩
          · obtain rfl : b = t.2.length := by omega
            have hb' := HB.out
            rw [List.take_length] at hb'
            have HA' := hidI (show ∀ u ∈ ts.take (a + 1), u.2.length ≤ 16 ∧ ∀ p ∈ u.2, p.2.length ≤ 8 from fun u hu => by
              rcases mem_take_snoc HT.out hu with hu | rfl
              · exact HA.out u hu
              · exact ⟨h16, hb'⟩)
            clear hb'
            have hlt := HLT.out
            go_wp2_with fail
            exact ⟨⟨a + 1, by omega, by go_num, trivial, HA'⟩, by simp [intOf]; omega⟩
      · have q1 : decide ((t.2.length : Int) > 16) = true := decide_eq_true (by omega)
        go_wp2_with fail
        go_ret
        exact ⟨false, rfl, fun h => (by cases h), Below.refl _ _⟩
    · obtain rfl : a = ts.length := by omega
      have ha' := HA.out
      rw [List.take_length] at ha'
      have HA' := hidI ha'
      clear ha'
      by_cases k1 : words ≥ 0
      · have q1 : decide (words ≥ 0) = true := decide_eq_true k1
        by_cases k2 : words ≤ 65536
        · have q2 : decide (words ≤ 65536) = true := decide_eq_true k2
          by_cases k3 : (ts.length : Int) ≤ 4
          · have q3 : decide ((ts.length : Int) ≤ 4) = true := decide_eq_true k3
            go_wp2_with fail
            go_ret
            exact ⟨true, rfl, fun _ => ⟨HA'.out, k1, k2, by omega⟩, Below.refl _ _⟩
          · have q3 : decide ((ts.length : Int) ≤ 4) = false := decide_eq_false k3
            go_wp2_with fail
            go_ret
            exact ⟨false, rfl, fun h => (by cases h), Below.refl _ _⟩
        · have q2 : decide (words ≤ 65536) = false := decide_eq_false k2
          go_wp2_with fail
          go_ret
          exact ⟨false, rfl, fun h => (by cases h), Below.refl _ _⟩
      · have q1 : decide (words ≥ 0) = false := decide_eq_false k1
        go_wp2_with fail
        go_ret
        exact ⟨false, rfl, fun h => (by cases h), Below.refl _ _⟩
end
end Go.Proofs.YtgodmogkhgilmaaGreatDoor

/- IsaDecodes: both decoders, the lists apart. -/
import Derived.Test.YtbfghkhfiflibaaGreatDoorIsaU
import Derived.Test.YtbfghkhfiflibaaGreatDoorBookApartOp
import Derived.ProofKit
namespace Go.Proofs.YtbfghkhfiflibaaGreatDoor
open Go.RowKit
set_option linter.unusedVariables false
set_option linter.unusedSimpArgs false

set_option maxHeartbeats 1000000 in
theorem sameOps_true {w : World} {ao bo : Option Addr} {ca cb : Nat} {l : List OpD} (ha : RdT encOp w 6 (.slice ao l.length ca) l) (hb : RdT encOp w 6 (.slice bo l.length cb) l) (hm : l.length ≤ 9223372036854775807) :
    Calls Tryz.prog 6 #[.slice ao l.length ca, .slice bo l.length cb] w fun e w' => e = .returned (.bool true) ∧ Below w.heap.size w w' := by
  have HA := hidI ha
  have HB := hidI hb
  clear ha hb
  go_enter Tryz.func6, Tryz.ntmps6
  go_wp2
  go_loopw [13] (fun i wr => ∃ k n : Nat, k ≤ l.length ∧ i = .int .i64 k ∧ wr = w.drewN n) (fun i _ => l.length - (intOf i).toNat)
  case atStart => exact ⟨0, 0, Nat.zero_le _, rfl, rfl⟩
  case round =>
    obtain ⟨k, n, hk, rfl, rfl⟩ := hrel
    by_cases hlt : k < l.length
    · obtain ⟨x, hx⟩ := some_at hlt
      obtain ⟨b1, o1, rfl, hs1, hc1⟩ := HA.out.at encOp_len hx
      obtain ⟨b2, o2, rfl, hs2, hc2⟩ := HB.out.at encOp_len hx
      have x0 := hc1 0 _ rfl
      have y0 := hc2 0 _ rfl
      have x1 := hc1 1 _ rfl
      have y1 := hc2 1 _ rfl
      have x2 := hc1 2 _ rfl
      have y2 := hc2 2 _ rfl
      have x3 := hc1 3 _ rfl
      have y3 := hc2 3 _ rfl
      have x4 := hc1 4 _ rfl
      have y4 := hc2 4 _ rfl
      have x5 := hc1 5 _ rfl
      have y5 := hc2 5 _ rfl
      simp only [Nat.add_zero] at x0 y0
      clear hc1 hc2 hx hs1 hs2
      go_wp2_with fail
      go_quiet (fail)
      go_wp2
      exact ⟨⟨k + 1, _, by omega, by go_num, rfl⟩, by simp [intOf]; omega⟩
    · obtain rfl : k = l.length := by omega
      go_wp2
      go_ret
      exact ⟨rfl, below_drewN (Below.refl _ _) n⟩

/-- what any bytes say: instructions, or where they go wrong -/
def Says (bs : List UInt8) (xs : List OpD) (p c : Int) : Prop := (p = 0 ∧ c = 0 ∧ Good xs ∧ xs.flatMap bytesS = bs) ∨ (xs = [] ∧ ∃ q d : Nat, p = q ∧ c = d ∧ StuckAt bs q d)
theorem Says.same {bs : List UInt8} {xs ys : List OpD} {p c q d : Int} (hn : xs.length ≤ 262144) (hm : ys.length ≤ 262144) (h : Says bs xs p c) (g : Says bs ys q d) : ys = xs ∧ q = p ∧ d = c := by
  rcases h with ⟨rfl, rfl, h1, h2⟩ | ⟨rfl, p, c, rfl, rfl, h1⟩ <;> rcases g with ⟨rfl, rfl, g1, g2⟩ | ⟨rfl, q, d, rfl, rfl, g1⟩
  · exact ⟨same_bytes g1 h1 (g2.trans h2.symm), rfl, rfl⟩
  · exact (g1.never h1 hn h2).elim
  · exact (h1.never g1 hm g2).elim
  · obtain ⟨e1, e2⟩ := h1.same g1
    exact ⟨rfl, by rw [e1], by rw [e2]⟩

def DecR (bs : List UInt8) (w : World) (e : Ending) (w' : World) : Prop :=
  ∃ (ao : Option Addr) (cp : Nat) (xs : List OpD) (p c : Int), e = .returned (.tuple #[.slice ao xs.length cp, .int .i64 p, .int .i64 c]) ∧ w'.ownsRow w.heap.size 62 6 (.slice ao xs.length cp) xs.length (xs.flatMap encOp) ∧ Says bs xs p c ∧ xs.length ≤ 262144 ∧ Below w.heap.size w w'
theorem DecR.of {bs : List UInt8} {w : World} {e : Ending} {w' : World} (h : DecYes bs w e w' ∨ DecNo bs w e w') : DecR bs w e w' := by
  rcases h with ⟨ao, cp, xs, rfl, h1, h2, h3, h4, h5⟩ | ⟨p, c, rfl, h1, h2⟩
  · exact ⟨ao, cp, xs, 0, 0, rfl, h1, .inl ⟨rfl, rfl, h2, h4⟩, h3, h5⟩
  · exact ⟨none, 0, [], p, c, rfl, World.ownsRow_nil _ _ _ _, .inr ⟨rfl, p, c, rfl, rfl, h1⟩, by simp, h2⟩

def zeroBook : Array Value := (.int .i64 0 :: List.replicate 27 (.slice none 0 0)).toArray
theorem zero_book (w : World) : (zeroValue 55).run Tryz.prog w = .ok (.agg zeroBook) w := by kernel_rfl
theorem zbook_size : zeroBook.size = 28 := by decide +kernel
theorem zbook_one : zeroBook.all (·.oneCell') = true := by decide +kernel
theorem zbook_info : (Tryz.prog.info? 55).map (·.size) = some zeroBook.size := by kernel_rfl
theorem zbook_at (i : Nat) (h0 : 0 < i) (h : i < 28) : zeroBook[i]? = some (.slice none 0 0) := by
  unfold zeroBook
  obtain ⟨j, rfl⟩ : ∃ j, i = j + 1 := ⟨i - 1, by omega⟩
  rw [List.getElem?_toArray, List.getElem?_cons_succ, List.getElem?_replicate, if_pos (by omega)]
theorem zbook_0 : zeroBook[0]? = some (.int .i64 0) := by kernel_rfl
theorem book_set7 {C : Array Value} {hv x : Value} (hs : C.size = 28) : ((C.setIfInBounds 7 hv).setIfInBounds 0 x)[7]? = some hv := by
  rw [Array.getElem?_setIfInBounds_ne (by decide), Array.getElem?_setIfInBounds_self, if_pos (by omega)]
theorem book_set0 {C : Array Value} {hv x : Value} (hs : C.size = 28) : ((C.setIfInBounds 7 hv).setIfInBounds 0 x)[0]? = some x := by
  rw [Array.getElem?_setIfInBounds_self, if_pos (by rw [Array.size_setIfInBounds]; omega)]
theorem book_setN {C : Array Value} {hv x : Value} {i : Nat} (h0 : i ≠ 0) (h7 : i ≠ 7) : ((C.setIfInBounds 7 hv).setIfInBounds 0 x)[i]? = C[i]? := by
  rw [Array.getElem?_setIfInBounds_ne (by omega), Array.getElem?_setIfInBounds_ne (by omega)]
theorem book_store (w : World) : Sem.run Tryz.prog (storeCells ⟨w.heap.size, 0, none⟩ zeroBook.toList 0) (w.alloc (.cells zeroBook 55)) = .ok () ((w.alloc (.cells zeroBook 55)).setCells w.heap.size 0 zeroBook.toList) := by
  have hb := block_new w (.cells zeroBook 55)
  have := run_storeCells_cells (P := Tryz.prog) w.heap.size 0 zeroBook.toList 0 (w.alloc (.cells zeroBook 55)) (fun i hi => by
      rw [Nat.add_zero, Nat.zero_add, cell_of_block hb (Array.getElem?_eq_getElem (by rw [Array.length_toList] at hi; exact hi))]; rfl) (fun i _ => free_of_block hb)
    (fun v hv => Array.all_eq_true_iff_forall_mem.1 zbook_one v (by simpa using hv))
  simpa using this
/-- a block of its own may be stored into, whole -/
theorem whole_there {w : World} {b : Nat} {c : Array Value} {t : TypeId} (h : w.heap[b]? = some (.cells c t (0, 0))) : w.there b 0 c.size := fun j hj => by
  rw [Nat.zero_add]
  exact ⟨by rw [cell_of_block h (Array.getElem?_eq_getElem hj)]; rfl, free_of_block h⟩

set_option maxHeartbeats 400000 in
theorem ops_any {w : World} {base kb : Nat} {hv : Value} {es : List EntOp} {C : Array Value} {cnt : Int} {lo : Option Addr} {n lc : Nat} {cs : List Value} (h : KindOp w base kb hv es) (hb : w.heap[kb]? = some (.cells C 55 (0, 0))) (hc : C[7]? = some hv) (h0 : C[0]? = some (.int .i64 cnt))
    (hcnt : 0 ≤ cnt ∧ cnt ≤ 1000) (hl : es.length ≤ 1000) (hown : w.ownsRow base 62 6 (.slice lo n lc) n cs) (hne : ∀ g, (Value.slice lo n lc).ownBlock = some g → hv.ownBlock ≠ some g ∧ g ≠ kb)
    (hlg : ∀ (i g : Nat) e, es[i]? = some e → e.lv.ownBlock = some g → (Value.slice lo n lc).ownBlock ≠ some g) (hbase : base ≤ w.heap.size) :
    Calls Tryz.prog 7 #[.pointer (some ⟨kb, 0, none⟩), .slice lo n lc] w fun r w' => r = .returned (.tuple #[]) ∧ KeptOp w w' base kb C cnt hv (es ++ [⟨.slice lo n lc, cnt, n⟩]) := by
  have HK := hidI (keepOp_any h hb hc h0 hcnt hl hown hne hlg hbase)
  clear h hb hc h0 hcnt hl hown hne hlg hbase
  go_enter Tryz.func7, Tryz.ntmps7
  go_wp2_with fail
  refine HK.out.mono ?_
  rintro e w1 ⟨rfl, hk⟩
  have HK1 := hidI hk
  clear hk
  go_wp2_with fail
  go_end0
  exact ⟨rfl, HK1.out⟩

/-- an empty book -/
theorem kind_nil (w : World) (base kb : Nat) : KindOp w base kb (.slice none 0 0) [] :=
  ⟨World.ownsRow_nil _ _ _ _, fun i e h => by simp at h, fun i e h => by simp at h, fun i g e h => by simp at h, fun i j g e f _ h => by simp at h, by simp [Value.ownBlock]⟩

set_option maxHeartbeats 4000000 in
theorem decodes_any (w : World) (bs : List UInt8) (hbs : bs.length ≤ 9223372036854775807) : Calls Tryz.prog 3 #[.string (strOf bs)] w fun e w' => e = .returned (.bool true) ∧ Below w.heap.size w w' := by
  have hz1 := zero_book
  have hz2 := zbook_size
  have HBS := hidI hbs
  clear hbs
  go_enter Tryz.func3, Tryz.ntmps3
  go_wp2_with fail
  refine (decode_any _ bs HBS.out).mono ?_
  intro e w1 h
  obtain ⟨ao, ca, xs, P, C, rfl, hown, hsay, hlen, hb⟩ := DecR.of h
  have HO1 := hidI hown
  have HS1 := hidI hsay
  have HL := hidI hlen
  have HB1 := hidI hb
  clear h hown hsay hlen hb
  go_wp2_with fail
  refine (decode_any _ bs HBS.out).mono ?_
  intro e w2 h
  obtain ⟨bo, cb, ys, q, d, rfl, hown, hsay, hlen, hb⟩ := DecR.of h
  obtain ⟨rfl, rfl, rfl⟩ := HS1.out.same HL.out hlen hsay
  have HO2 := hidI hown
  have HB2 := hidI hb
  clear h hown hsay hlen hb
  go_wp2_with fail
  refine (rdecode_any _ bs HBS.out).mono ?_
  intro e w3 h
  obtain ⟨co, cc, ys, q, d, rfl, hown, hsay, hlen, hb⟩ := DecR.of h
  obtain ⟨rfl, rfl, rfl⟩ := HS1.out.same HL.out hlen hsay
  have HO3 := hidI hown
  have HB3 := hidI hb
  clear h hown hsay hlen hb
  have keep : ∀ {a b : World} {base : Nat} {v : Value} {n : Nat} {cs : List Value}, a.ownsRow base 62 6 v n cs → Below a.heap.size a b → b.ownsRow base 62 6 v n cs := fun h hb => ownsRow_chg h (Chg.of_below (S := fun _ => False) hb) (fun _ _ => id)
  have hb13 : Below w1.heap.size w1 w3 := HB2.out.trans (HB3.out.mono HB2.out.size)
  have L1 := hidI (fun g (hg : (Value.slice ao ys.length ca).ownBlock = some g) => rowLt HO1.out hg)
  have L2 := hidI (fun g (hg : (Value.slice bo ys.length cb).ownBlock = some g) => rowLt HO2.out hg)
  have P1 := hidI (keep HO1.out hb13)
  have P2 := hidI (keep HO2.out HB3.out)
  have P3 := HO3
  have HBA := hidI (HB1.out.trans (hb13.mono HB1.out.size))
  have HS12 := hidI (show w1.heap.size ≤ w2.heap.size ∧ w2.heap.size ≤ w3.heap.size from ⟨HB2.out.size, HB3.out.size⟩)
  have HLL := hidI (show ys.length ≤ 9223372036854775807 from by have := HL.out; omega)
  clear hb13 HO1 HO2 HO3
  go_wp2_with fail
  refine (sameOps_true (Rd.of_own P1.out) (Rd.of_own P3.out) HLL.out).mono ?_
  rintro e w4 ⟨rfl, hb4⟩
  have Q1 := hidI (keep P1.out hb4)
  have Q2 := hidI (keep P2.out hb4)
  have Q3 := hidI (keep P3.out hb4)
  have HBB := hidI (HBA.out.trans (hb4.mono HBA.out.size))
  have HSB := hidI hb4.size
  clear hb4 P1 P2 P3
  go_wp2_with fail
  refine (sameOps_true (Rd.of_own Q2.out) (Rd.of_own Q3.out) HLL.out).mono ?_
  rintro e w5 ⟨rfl, hb5⟩
  have R1 := hidI (keep Q1.out hb5)
  have R2 := hidI (keep Q2.out hb5)
  have HBC := hidI (HBB.out.trans (hb5.mono HBB.out.size))
  have HSC := hidI hb5.size
  clear hb5 Q1 Q2 Q3
  have hst := book_store w5
  go_wp2_with fail
  clear hst
  clear hz1 hz2
  have hkb := setCells_whole (vs := zeroBook.toList) (block_new w5 (.cells zeroBook 55)) Array.length_toList.symm
  have hbd := below_setCells (g := w5.heap.size) HBC.out.size (Nat.le_refl _) zeroBook.toList 0 (HBC.out.alloc HBC.out.size (.cells zeroBook 55))
  have hcg := Chg.setCellsOp (S := fun k => k = w5.heap.size) (b := w5.heap.size) rfl zeroBook.toList 0 ((Chg.refl (fun k => k = w5.heap.size) w5).alloc (.cells zeroBook 55))
  have hsz5 : w5.heap.size < ((w5.alloc (.cells zeroBook 55)).setCells w5.heap.size 0 zeroBook.toList).heap.size := by rw [heapSize_setCellsOp]; simp
  rw [show zeroBook.toList.toArray = zeroBook from Array.toArray_toList] at hkb
  generalize ((w5.alloc (.cells zeroBook 55)).setCells w5.heap.size 0 zeroBook.toList) = w6 at hkb hbd hcg hsz5 ⊢
  have hlt1 : ∀ g, (Value.slice ao ys.length ca).ownBlock = some g → g < w5.heap.size := fun g hg => by have := L1.out g hg; have := HS12.out; have := HSB.out; have := HSC.out; omega
  have hlt2 : ∀ g, (Value.slice bo ys.length cb).ownBlock = some g → g < w5.heap.size := fun g hg => by have := L2.out g hg; have := HS12.out; have := HSB.out; have := HSC.out; omega
  have S1 := hidI (ownsRow_chg R1.out hcg (fun g hg e => by have := hlt1 g hg; omega))
  have S2 := hidI (ownsRow_mono (ownsRow_chg R2.out hcg (fun g hg e => by have := hlt2 g hg; omega)) HB1.out.size)
  have HB6 := hidI hbd
  have HS6 := hidI hsz5
  have hne1 : ∀ g, (Value.slice ao ys.length ca).ownBlock = some g → (Value.slice none 0 0).ownBlock ≠ some g ∧ g ≠ w5.heap.size := fun g hg => ⟨by simp [Value.ownBlock], by have := hlt1 g hg; omega⟩
  have HL2 := hidI hlt2
  have HCALL := hidI (ops_any (kind_nil w6 w.heap.size w5.heap.size) hkb (zbook_at 7 (by decide) (by decide)) zbook_0 (by decide) (by simp) S1.out hne1 (fun i g e h => by simp at h) HB6.out.size)
  clear R1 R2 hcg hbd hkb hsz5 hlt1 hlt2 hne1
  refine HCALL.out.mono ?_
  rintro e w7 ⟨rfl, hv, hblk, hkind, hchg, hfrom⟩
  rw [List.nil_append] at hkind
  have T2 := hidI (ownsRow_chg S2.out hchg (fun g hg e => by
    rcases e with e | e
    · have := HL2.out g hg; omega
    · simp [Value.ownBlock] at e))
  have HB7 := hidI (Chg.below HB6.out HB6.out.size hchg (fun k hk => by
    rcases hk with rfl | hk
    · exact HBC.out.size
    · simp [Value.ownBlock] at hk))
  have hne2 : ∀ g, (Value.slice bo ys.length cb).ownBlock = some g → hv.ownBlock ≠ some g ∧ g ≠ w5.heap.size := fun g hg => ⟨fun e => by
    rcases hfrom g e with h | h
    · simp [Value.ownBlock] at h
    · have := HL2.out g hg; have := HS6.out; omega, by have := HL2.out g hg; omega⟩
  have hlg2 : ∀ (i g : Nat) (e : EntOp), ([⟨.slice ao ys.length ca, 0, ys.length⟩] : List EntOp)[i]? = some e → e.lv.ownBlock = some g → (Value.slice bo ys.length cb).ownBlock ≠ some g := fun i g e he hg h2 => by
    obtain rfl : e = ⟨.slice ao ys.length ca, 0, ys.length⟩ := by
      cases i with
      | zero => simpa using he.symm
      | succ i => simp at he
    have := L1.out g hg
    have := L2.out g h2
    omega
  have HCALL2 := hidI (ops_any hkind hblk (book_set7 zbook_size) (book_set0 zbook_size) (by decide) (by simp) T2.out hne2 hlg2 HB7.out.size)
  have HV1 := hidI (fun g (hg : hv.ownBlock = some g) => (rowLt hkind.row hg).1)
  clear HCALL hkind hblk hchg hfrom hne2 hlg2 S1 S2
  go_wp2_with fail
  refine HCALL2.out.mono ?_
  rintro e w8 ⟨rfl, hv2, hblk, hkind, hchg, hfrom⟩
  rw [List.singleton_append] at hkind
  have HB8 := hidI (Chg.below HB7.out HB7.out.size hchg (fun k hk => by
    rcases hk with rfl | hk
    · exact HBC.out.size
    · exact HV1.out k hk))
  have hM : ∀ (i : Nat) (e : EntOp), ([⟨.slice ao ys.length ca, 0, ys.length⟩, ⟨.slice bo ys.length cb, 0 + 1, ys.length⟩] : List EntOp)[i]? = some e → e.len ≤ 262144 := fun i e he => by
    have := List.mem_of_getElem? he
    simp at this
    have hl := HL.out
    rcases this with rfl | rfl <;> exact hl
  have HCALL3 := hidI (apartOp_any hkind hM (by decide) hblk (book_set7 (by simp [zbook_size])) (fun i h0 h1 h7 => by rw [book_setN (by omega) h7, book_setN (by omega) h7]; exact zbook_at i h0 h1) (by simp))
  have HOWN := hidI (show ∀ k, ownsOp hv2 [⟨.slice ao ys.length ca, 0, ys.length⟩, ⟨.slice bo ys.length cb, 0 + 1, ys.length⟩] k → w.heap.size ≤ k from fun k hk => by
    rcases hk with hk | ⟨i, e, he, hg⟩
    · exact (rowLt hkind.row hk).1
    · obtain ⟨cs, hc⟩ := hkind.own i e he
      exact (rowLt hc hg).1)
  clear HCALL2 hkind hblk hchg hfrom hM
  go_wp2_with fail
  refine HCALL3.out.mono ?_
  rintro e w9 ⟨rfl, hchg⟩
  have HB9 := hidI (Chg.below HB8.out HB8.out.size hchg HOWN.out)
  clear HCALL3 hchg
  go_wp2_with fail
  refine (alive_any _).mono ?_
  rintro e w10 ⟨rfl, hb⟩
  have HB10 := hidI (HB9.out.trans (hb.mono HB9.out.size))
  clear hb
  go_wp2_with fail
  go_ret
  exact ⟨rfl, HB10.out⟩
end Go.Proofs.YtbfghkhfiflibaaGreatDoor

/- Part of the proof: EmC -/
import Derived.Test.YtgodmogkhgilmaaGreatDoorP07
namespace Go.Proofs.YtgodmogkhgilmaaGreatDoor
open Go.RowKit Go.Maps
set_option linter.unusedVariables false
set_option linter.unusedSimpArgs false
set_option maxHeartbeats 4000000
set_option maxRecDepth 100000
variable {w w' w1 w2 : World} {own own1 own2 : Nat → Prop} {bc k br : Nat} {tv : Value} {t : TxC}
structure Sq (own0 : Nat → Prop) (w0 : World) (br bc : Nat) (tv : Value) (t : TxC) (c0 : Cd) (ls : List Nat) (ks : List (Nat × Obj)) (w : World) (own : Nat → Prop) (c : Cd) (k : Nat) : Prop where
  tx : TxAt w own br bc tv t c k
  turn : Turn own0 w0 own w
  lab : c0.labs.length ≤ c.labs.length
  live : ∀ l ∈ ls, l < c.labs.length
  keep : ∀ p ∈ ks, Keep w own p.1 p.2
def SqP (own0 : Nat → Prop) (w0 : World) (br bc : Nat) (tv : Value) (t : TxC) (c0 : Cd) (ls : List Nat) (ks : List (Nat × Obj)) (c : Cd) (k : Nat) (e : Ending) (w : World) : Prop :=
  e = .returned (.tuple #[]) ∧ ∃ own, Hid (Sq own0 w0 br bc tv t c0 ls ks w own c k)
variable {own0 : Nat → Prop} {w0 : World} {c0 c c' : Cd} {ls : List Nat} {ks : List (Nat × Obj)} {k' : Nat}
theorem Sq.start (h : TxAt w own br bc tv t c0 k) : Sq own w br bc tv t c0 [] [] w own c0 k := ⟨h, Turn.refl own w, Nat.le_refl _, fun l h => (by cases h), fun p h => (by cases h)⟩
theorem Sq.lbl (S : Sq own0 w0 br bc tv t c0 ls ks w own c k) {l : Nat} (h : l < c.labs.length) : Sq own0 w0 br bc tv t c0 (l :: ls) ks w own c k :=
  ⟨S.tx, S.turn, S.lab, fun x hx => (by rcases List.mem_cons.1 hx with rfl | hx; exact h; exact S.live x hx), S.keep⟩
theorem Sq.kp (S : Sq own0 w0 br bc tv t c0 ls ks w own c k) {b : Nat} {x : Obj} (h : Keep w own b x) : Sq own0 w0 br bc tv t c0 ls ((b, x) :: ks) w own c k :=
  ⟨S.tx, S.turn, S.lab, S.live, fun p hp => (by rcases List.mem_cons.1 hp with rfl | hp; exact h; exact S.keep p hp)⟩
theorem Sq.drew (S : Sq own0 w0 br bc tv t c0 ls ks w own c k) : Sq own0 w0 br bc tv t c0 ls ks w.drew own c k := ⟨S.tx.drew, S.turn.drew, S.lab, S.live, fun p hp => (S.keep p hp).drew⟩
theorem Sq.below (S : Sq own0 w0 br bc tv t c0 ls ks w own c k) (hb : Below w.heap.size w w') : Sq own0 w0 br bc tv t c0 ls ks w' own c k := ⟨S.tx.below hb, S.turn.below hb, S.lab, S.live, fun p hp => (S.keep p hp).below hb⟩
theorem Sq.alloc (S : Sq own0 w0 br bc tv t c0 ls ks w own c k) (o : Obj) : Sq own0 w0 br bc tv t c0 ls ks (w.alloc o) own c k := ⟨S.tx.alloc o, S.turn.alloc o, S.lab, S.live, fun p hp => (S.keep p hp).alloc o⟩
theorem Sq.box (S : Sq own0 w0 br bc tv t c0 ls ks w own c k) (o : Obj) : Sq own0 w0 br bc tv t c0 ls ((w.heap.size, o) :: ks) (w.alloc o) own c k := (S.alloc o).kp (Keep.new S.tx.code o)
theorem Sq.more (S : Sq own0 w0 br bc tv t c0 ls ks w own c k) (h : k ≤ k') : Sq own0 w0 br bc tv t c0 ls ks w own c k' := ⟨S.tx.more h, S.turn, S.lab, S.live, S.keep⟩
theorem Sq.next (S : Sq own0 w0 br bc tv t c0 ls ks w own c k) (h : TxAt w1 own1 br bc tv t c' k') (r2 : Turn own w own1 w1) (r3 : c.labs.length ≤ c'.labs.length) : Sq own0 w0 br bc tv t c0 ls ks w1 own1 c' k' :=
  ⟨h, S.turn.trans r2, Nat.le_trans S.lab r3, fun l hl => Nat.lt_of_lt_of_le (S.live l hl) r3, fun p hp => (S.keep p hp).turn r2⟩
theorem Sq.k0 {b : Nat} {v : Value} {T : TypeId} (S : Sq own0 w0 br bc tv t c0 ls ((b, .cells #[v] T (0, 0)) :: ks) w own c k) : w.cell? ⟨b, 0, none⟩ = some v := by
  have h : w.heap[b]? = some (.cells #[v] T (0, 0)) := (S.keep (b, .cells #[v] T (0, 0)) (.head _)).blk
  exact cell_of_block h rfl
theorem Sq.k1 {b : Nat} {v : Value} {T : TypeId} {x : Nat × Obj} (S : Sq own0 w0 br bc tv t c0 ls (x :: (b, .cells #[v] T (0, 0)) :: ks) w own c k) : w.cell? ⟨b, 0, none⟩ = some v := by
  have h : w.heap[b]? = some (.cells #[v] T (0, 0)) := (S.keep (b, .cells #[v] T (0, 0)) (.tail _ (.head _))).blk
  exact cell_of_block h rfl
theorem Sq.ut (S : Sq own0 w0 br bc tv t c0 ls ks w own c k) {f : Nat} {a : Array Value} (h : Calls Tryz.prog f a w (EmT own w br bc tv t c c' k')) : Calls Tryz.prog f a w (SqP own0 w0 br bc tv t c0 ls ks c' k') :=
  h.mono fun e w1 ⟨he, own1, r1, r2, r3⟩ => ⟨he, own1, hidI (S.next r1 r2 r3)⟩
theorem Sq.uc (S : Sq own0 w0 br bc tv t c0 ls ks w own c k) {f : Nat} {a : Array Value} (h : Calls Tryz.prog f a w (EmC own w bc c c' k' (.tuple #[]))) : Calls Tryz.prog f a w (SqP own0 w0 br bc tv t c0 ls ks c' k') :=
  S.ut (h.mono fun e w1 he => he.tx S.tx)
theorem Sq.label (S : Sq own0 w0 br bc tv t c0 ls ks w own c k) (hk : k ≤ 1099511627776) : Calls Tryz.prog 180 #[.pointer (some ⟨bc, 0, none⟩)] w fun e w' =>
    ∃ (l : Nat) (own' : Nat → Prop), e = .returned (.int .i64 (l : Int)) ∧ Hid (c.labs.length = l) ∧ Hid (Sq own0 w0 br bc tv t c0 (l :: ls) ks w' own' c.label (k + 1)) :=
  (label_any S.tx.code hk).mono fun e w1 ⟨he, own1, r1, r2, r3⟩ => ⟨c.labs.length, own1, he, hidI rfl, hidI ((S.next (S.tx.next r1 r2) r2 r3).lbl (by simp [Cd.label]))⟩
theorem Sq.set (S : Sq own0 w0 br bc tv t c0 ls ks w own c k) (r n : Int) : Calls Tryz.prog 178 #[.pointer (some ⟨bc, 0, none⟩), .int .u8 r, .int .i64 n] w (SqP own0 w0 br bc tv t c0 ls ks (c.set r n) k) := S.uc (emset_any S.tx.code r n)
theorem Sq.move (S : Sq own0 w0 br bc tv t c0 ls ks w own c k) (a b : Int) : Calls Tryz.prog 210 #[.pointer (some ⟨bc, 0, none⟩), .int .u8 a, .int .u8 b] w (SqP own0 w0 br bc tv t c0 ls ks (c.move a b) k) := S.uc (emmove_any S.tx.code a b)
theorem Sq.calc (S : Sq own0 w0 br bc tv t c0 ls ks w own c k) (q a b : Int) : Calls Tryz.prog 205 #[.pointer (some ⟨bc, 0, none⟩), .int .u8 q, .int .u8 a, .int .u8 b] w (SqP own0 w0 br bc tv t c0 ls ks (c.calc q a b) k) := S.uc (emcalc_any S.tx.code q a b)
theorem Sq.with_ (S : Sq own0 w0 br bc tv t c0 ls ks w own c k) (q a n r : Int) : Calls Tryz.prog 206 #[.pointer (some ⟨bc, 0, none⟩), .int .u8 q, .int .u8 a, .int .i64 n, .int .u8 r] w (SqP own0 w0 br bc tv t c0 ls ks (c.with_ q a n r) k) := S.uc (emwith_any S.tx.code q a n r)
theorem Sq.load (S : Sq own0 w0 br bc tv t c0 ls ks w own c k) (a b n : Int) : Calls Tryz.prog 186 #[.pointer (some ⟨bc, 0, none⟩), .int .u8 a, .int .u8 b, .int .i64 n] w (SqP own0 w0 br bc tv t c0 ls ks (c.load a b n) k) := S.uc (emload_any S.tx.code a b n)
theorem Sq.store (S : Sq own0 w0 br bc tv t c0 ls ks w own c k) (a n b : Int) : Calls Tryz.prog 183 #[.pointer (some ⟨bc, 0, none⟩), .int .u8 a, .int .i64 n, .int .u8 b] w (SqP own0 w0 br bc tv t c0 ls ks (c.store a n b) k) := S.uc (emstore_any S.tx.code a n b)
theorem Sq.note (S : Sq own0 w0 br bc tv t c0 ls ks w own c k) (x a b : Int) (hx : 0 ≤ x ∧ x < 256) : Calls Tryz.prog 214 #[.pointer (some ⟨bc, 0, none⟩), .int .u8 x, .int .u8 a, .int .u8 b] w (SqP own0 w0 br bc tv t c0 ls ks (c.note x a b) k) := S.uc (emnote_any S.tx.code x a b hx)
theorem Sq.trap (S : Sq own0 w0 br bc tv t c0 ls ks w own c k) (x : Int) (hx : 0 ≤ x ∧ x < 256) : Calls Tryz.prog 212 #[.pointer (some ⟨bc, 0, none⟩), .int .u8 x] w (SqP own0 w0 br bc tv t c0 ls ks (c.trap x) k) := S.uc (emtrap_any S.tx.code x hx)
theorem Sq.out (S : Sq own0 w0 br bc tv t c0 ls ks w own c k) (r : Int) : Calls Tryz.prog 187 #[.pointer (some ⟨bc, 0, none⟩), .int .u8 r] w (SqP own0 w0 br bc tv t c0 ls ks (c.out r) k) := S.uc (emout_any S.tx.code r)
theorem Sq.jump (S : Sq own0 w0 br bc tv t c0 ls ks w own c k) (l : Nat) (hl : l ∈ ls) (hk : k ≤ 1099511627776) : Calls Tryz.prog 188 #[.pointer (some ⟨bc, 0, none⟩), .int .i64 (l : Int)] w (SqP own0 w0 br bc tv t c0 ls ks (c.jump l) (k + 1)) := S.uc (jump_any S.tx.code (S.live l hl) hk)
theorem Sq.zero (S : Sq own0 w0 br bc tv t c0 ls ks w own c k) (r : Int) (l : Nat) (hl : l ∈ ls) (hk : k ≤ 1099511627776) : Calls Tryz.prog 208 #[.pointer (some ⟨bc, 0, none⟩), .int .u8 r, .int .i64 (l : Int)] w (SqP own0 w0 br bc tv t c0 ls ks (c.zero r l) (k + 1)) := S.uc (zero_any S.tx.code r (S.live l hl) hk)
theorem Sq.here (S : Sq own0 w0 br bc tv t c0 ls ks w own c k) (l : Nat) (hl : l ∈ ls) : Calls Tryz.prog 181 #[.pointer (some ⟨bc, 0, none⟩), .int .i64 (l : Int)] w (SqP own0 w0 br bc tv t c0 ls ks (c.here l) k) := S.uc (here_any S.tx.code (S.live l hl))
theorem Sq.putop (S : Sq own0 w0 br bc tv t c0 ls ks w own c k) (o : OpD) : Calls Tryz.prog 190 #[.pointer (some ⟨bc, 0, none⟩), .agg #[.int .u8 o.kind, .int .u8 o.cal, .int .u8 o.a, .int .u8 o.b, .int .u8 o.c, .int .i64 o.n]] w (SqP own0 w0 br bc tv t c0 ls ks (c.put o) k) := S.uc (put_any S.tx.code o)
theorem Sq.get (S : Sq own0 w0 br bc tv t c0 ls ks w own c k) (ok : TxOk t) (r a : Int) (ha : 0 ≤ a ∧ a ≤ 262144) : Calls Tryz.prog 202 #[.pointer (some ⟨br, 0, none⟩), .int .u8 r, .int .i64 a] w (SqP own0 w0 br bc tv t c0 ls ks (c.get t r a) k) := S.ut (txget_any S.tx ok r a ha)
theorem Sq.sto (S : Sq own0 w0 br bc tv t c0 ls ks w own c k) (ok : TxOk t) (a r : Int) (ha : 0 ≤ a ∧ a ≤ 262144) : Calls Tryz.prog 179 #[.pointer (some ⟨br, 0, none⟩), .int .i64 a, .int .u8 r] w (SqP own0 w0 br bc tv t c0 ls ks (c.sto t a r) k) := S.ut (txput_any S.tx ok a r ha)
def Cd.search (t : TxC) (found : Nat) (c0 : Cd) : Cd :=
  let loop := c0.labs.length
  let c1 := c0.label
  let miss := c1.labs.length
  let c2 := c1.label
  let c3 := c2.get t 3 2
  let c4 := c3.here loop
  let c5 := c4.zero 3 miss
  let c6 := c5.with_ 2 3 1 4
  let c7 := c6.move 5 3
  let c8 := c7.calc 1 5 5
  let c9 := c8.with_ 1 5 t.log 4
  let c10 := c9.load 6 5 0
  let c11 := c10.calc 2 6 1
  let c12 := c11.zero 6 found
  let c13 := c12.jump loop
  let c14 := c13.here miss
  c14
theorem txsearch_any {c0 : Cd} {found : Nat} (h : TxAt w own br bc tv t c0 k) (ok : TxOk t) (hlfound : found < c0.labs.length) (hk : k ≤ 1099511000000) :
    Calls Tryz.prog 237 #[.pointer (some ⟨br, 0, none⟩), .int .i64 (found : Int)] w (EmT own w br bc tv t c0 (c0.search t found) (k + 5)) := by
  have OK := hidI ok
  have HK := hidI hk
  have S := hidI ((Sq.start h).lbl hlfound)
  have x0 := S.out.tx.x0
  have x5 := S.out.tx.x5
  clear h ok hk hlfound
  go_enter Tryz.func237, Tryz.ntmps237
  go_wp2_with fail
  have S0 := hidI S.out.drew
  clear S
  go_region_held3 (fun w' => w'.cell? ⟨br, 0, none⟩ = some (.pointer (some ⟨bc, 0, none⟩))) (first | assumption | simp only [World.cell?_drew, *]) (first
    | (go_at_call 180; refine (S1.out.label (by have := HK.out; omega)).mono ?_; clear S1 x0 x5; rintro e u ⟨miss, o, rfl, fmiss, S2⟩; have x0 := S2.out.tx.x0; have x5 := S2.out.tx.x5)
    | (go_at_call 180; refine (S0.out.label (by have := HK.out; omega)).mono ?_; clear S0 x0 x5; rintro e u ⟨loop, o, rfl, floop, S1⟩; have x0 := S1.out.tx.x0; have x5 := S1.out.tx.x5)
    )
  have S := S2
  clear S2
  go_wp2_with fail
  refine (S.out.get OK.out 3 2 (by decide)).mono ?_
  clear S x0 x5
  rintro e u ⟨rfl, o, S⟩
  have x0 := S.out.tx.x0
  have x5 := S.out.tx.x5
  go_wp2_with fail
  refine (S.out.here loop (by simp)).mono ?_
  clear S x0 x5
  rintro e u ⟨rfl, o, S⟩
  have x0 := S.out.tx.x0
  have x5 := S.out.tx.x5
  go_wp2_with fail
  refine (S.out.zero 3 miss (by simp) (by have := HK.out; omega)).mono ?_
  clear S x0 x5
  rintro e u ⟨rfl, o, S⟩
  have x0 := S.out.tx.x0
  have x5 := S.out.tx.x5
  go_wp2_with fail
  refine (S.out.with_ 2 3 1 4).mono ?_
  clear S x0 x5
  rintro e u ⟨rfl, o, S⟩
  have x0 := S.out.tx.x0
  have x5 := S.out.tx.x5
  go_wp2_with fail
  refine (S.out.move 5 3).mono ?_
  clear S x0 x5
  rintro e u ⟨rfl, o, S⟩
  have x0 := S.out.tx.x0
  have x5 := S.out.tx.x5
  go_wp2_with fail
  refine (S.out.calc 1 5 5).mono ?_
  clear S x0 x5
  rintro e u ⟨rfl, o, S⟩
  have x0 := S.out.tx.x0
  have x5 := S.out.tx.x5
  go_wp2_with fail
  go_still_tail 9, (by kernel_rfl)
  go_wp2_with fail
  refine (S.out.drew.with_ 1 5 t.log 4).mono ?_
  clear S x0 x5
  rintro e u ⟨rfl, o, S⟩
  have x0 := S.out.tx.x0
  have x5 := S.out.tx.x5
  go_wp2_with fail
  refine (S.out.load 6 5 0).mono ?_
  clear S x0 x5
  rintro e u ⟨rfl, o, S⟩
  have x0 := S.out.tx.x0
  have x5 := S.out.tx.x5
  go_wp2_with fail
  refine (S.out.calc 2 6 1).mono ?_
  clear S x0 x5
  rintro e u ⟨rfl, o, S⟩
  have x0 := S.out.tx.x0
  have x5 := S.out.tx.x5
  go_wp2_with fail
  refine (S.out.zero 6 found (by simp) (by have := HK.out; omega)).mono ?_
  clear S x0 x5
  rintro e u ⟨rfl, o, S⟩
  have x0 := S.out.tx.x0
  have x5 := S.out.tx.x5
  go_wp2_with fail
  refine (S.out.jump loop (by simp) (by have := HK.out; omega)).mono ?_
  clear S x0 x5
  rintro e u ⟨rfl, o, S⟩
  have x0 := S.out.tx.x0
  have x5 := S.out.tx.x5
  go_wp2_with fail
  refine (S.out.here miss (by simp)).mono ?_
  clear S x0 x5
  rintro e u ⟨rfl, o, S⟩
  have x0 := S.out.tx.x0
  have x5 := S.out.tx.x5
  go_wp2_with fail
  go_end0
  cases fmiss.out
  cases floop.out
  exact ⟨rfl, _, S.out.tx, S.out.turn, S.out.lab⟩
def Cd.unless (t : TxC) (r : Int) (l : Nat) (c0 : Cd) : Cd :=
  let on := c0.labs.length
  let c1 := c0.label
  let c2 := c1.zero r on
  let c3 := c2.jump l
  let c4 := c3.here on
  c4
theorem txunless_any {c0 : Cd} {l : Nat} (h : TxAt w own br bc tv t c0 k) (ok : TxOk t) (r : Int) (hll : l < c0.labs.length) (hk : k ≤ 1099511000000) :
    Calls Tryz.prog 211 #[.pointer (some ⟨br, 0, none⟩), .int .u8 r, .int .i64 (l : Int)] w (EmT own w br bc tv t c0 (c0.unless t r l) (k + 3)) := by
  have OK := hidI ok
  have HK := hidI hk
  have S := hidI ((Sq.start h).lbl hll)
  have x0 := S.out.tx.x0
  clear h ok hk hll
  go_enter Tryz.func211, Tryz.ntmps211
  go_wp2_with fail
  refine (S.out.label (by have := HK.out; omega)).mono ?_
  clear S x0
  rintro e u ⟨on, o, rfl, fon, S⟩
  have x0 := S.out.tx.x0
  go_wp2_with fail
  refine (S.out.zero r on (by simp) (by have := HK.out; omega)).mono ?_
  clear S x0
  rintro e u ⟨rfl, o, S⟩
  have x0 := S.out.tx.x0
  go_wp2_with fail
  refine (S.out.jump l (by simp) (by have := HK.out; omega)).mono ?_
  clear S x0
  rintro e u ⟨rfl, o, S⟩
  have x0 := S.out.tx.x0
  go_wp2_with fail
  refine (S.out.here on (by simp)).mono ?_
  clear S x0
  rintro e u ⟨rfl, o, S⟩
  have x0 := S.out.tx.x0
  go_wp2_with fail
  go_end0
  cases fon.out
  exact ⟨rfl, _, S.out.tx, S.out.turn, S.out.lab⟩
end Go.Proofs.YtgodmogkhgilmaaGreatDoor

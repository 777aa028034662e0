/- Part of the proof: EmW, PlayA, BookR, TsoA, TsoB -/
import Derived.Test.YtgodmogkhgilmaaGreatDoorP23
import Derived.BigQuiet
namespace Go.Proofs.YtgodmogkhgilmaaGreatDoor
open Go.RowKit
set_option linter.unusedVariables false
set_option linter.unusedSimpArgs false
set_option maxHeartbeats 2000000
set_option maxRecDepth 100000
section
variable {V : Nat → Int} {c c0 c1 c2 : Cd} {p q n m : Nat} {ls : List Int} {R : List OpD} {t : TxC}
def nOnce (o : Tx) : Nat := if o.kind = 2 then 48 else 33
def mOnce (o : Tx) : Nat := if o.kind = 2 then 7 else 6
def code_once (t : TxC) (V : Nat → Int) (q : Nat) (o : Tx) (abort : Nat) : List OpD := if o.kind = 2 then code_once_r t V q o.th o.at_ o.v abort else code_once_w t V q o.th o.at_ o.v abort
def labs_once (p : Nat) (o : Tx) : List Int := if o.kind = 2 then labs_once_r p else labs_once_w p
def xcode_once (t : TxC) (p : Nat) (o : Tx) (A : Int) : List OpD := if o.kind = 2 then xcode_once_r t p o.th o.at_ o.v A else xcode_once_w t p o.th o.at_ o.v A
theorem labs_once_len (p : Nat) (o : Tx) : (labs_once p o).length = mOnce o := by unfold labs_once mOnce; split; exact labs_once_r_len p; exact labs_once_w_len p
theorem xcode_once_len (t : TxC) (p : Nat) (o : Tx) (A : Int) : (xcode_once t p o A).length = nOnce o := by unfold xcode_once nOnce; split; exact xcode_once_r_len _ _ _ _ _ _; exact xcode_once_w_len _ _ _ _ _ _
theorem at_once (h : At V c0 p ls R) (o : Tx) (abort : Nat) (hp : p + nOnce o ≤ 262144) : At V (c0.once t o abort) (p + nOnce o) (ls ++ labs_once p o) (R ++ code_once t V ls.length o abort) := by
  unfold Cd.once nOnce labs_once code_once at *
  split
  · rename_i hk
    rw [if_pos hk] at hp
    exact at_once_r h o.th o.at_ o.v abort hp
  · rename_i hk
    rw [if_neg hk] at hp
    exact at_once_w h o.th o.at_ o.v abort hp
theorem x_once (o : Tx) (abort : Nat) (h : Vseg V q (labs_once p o)) : code_once t V q o abort = xcode_once t p o (V abort) := by
  unfold code_once xcode_once labs_once at *
  split
  · rename_i hk
    rw [if_pos hk] at h
    exact x_once_r _ _ _ _ h
  · rename_i hk
    rw [if_neg hk] at h
    exact x_once_w _ _ _ _ h
theorem adds_once (o : Tx) (abort : Nat) : Adds (nOnce o) c0 (c0.once t o abort) := by
  unfold Cd.once nOnce
  split
  · exact adds_once_r _ _ _ _
  · exact adds_once_w _ _ _ _
def TxWf (o : Tx) : Prop := In64 o.at_ ∧ In64 o.v
theorem ok_once {o : Tx} {A : Int} (ok : TxOk t) (hp : p + nOnce o ≤ 262144) (hw : TxWf o) (hA : InCode A) : AllOk (xcode_once t p o A) := by
  unfold xcode_once nOnce at *
  split
  · rename_i hk
    rw [if_pos hk] at hp
    unfold xcode_once_r
    obtain ⟨⟨w1, w2⟩, ⟨l1, l2⟩, ⟨r1, r2⟩, ⟨a1, a2⟩, ⟨b1, b2⟩, ⟨t1, t2⟩, ⟨s1, s2⟩⟩ := id ok
    exact AllOk.app (AllOk.app (.nu .nil (hn := hw.1)) (ok_read ok (by omega) hA)) (.nu (.st (.nu .nil)))
  · rename_i hk
    rw [if_neg hk] at hp
    unfold xcode_once_w
    obtain ⟨⟨w1, w2⟩, ⟨l1, l2⟩, ⟨r1, r2⟩, ⟨a1, a2⟩, ⟨b1, b2⟩, ⟨t1, t2⟩, ⟨s1, s2⟩⟩ := id ok
    exact AllOk.app (.nu (.nu (.nu (.st .nil) (hn := hw.2))) (hn := hw.1)) (ok_write ok (by omega))
def opsLen (l : List Tx) : Nat := (l.map nOnce).sum
def opsLab (l : List Tx) : Nat := (l.map mOnce).sum
theorem opsLen_cons (o : Tx) (l : List Tx) : opsLen (o :: l) = nOnce o + opsLen l := by simp [opsLen]
theorem opsLab_cons (o : Tx) (l : List Tx) : opsLab (o :: l) = mOnce o + opsLab l := by simp [opsLab]
def code_ops (t : TxC) (V : Nat → Int) : Nat → List Tx → Nat → List OpD
  | _, [], _ => []
  | q, o :: l, A => code_once t V q o A ++ code_ops t V (q + mOnce o) l A
def labs_ops : Nat → List Tx → List Int
  | _, [] => []
  | p, o :: l => labs_once p o ++ labs_ops (p + nOnce o) l
def xcode_ops (t : TxC) : Nat → List Tx → Int → List OpD
  | _, [], _ => []
  | p, o :: l, A => xcode_once t p o A ++ xcode_ops t (p + nOnce o) l A
theorem labs_ops_len (l : List Tx) : ∀ p, (labs_ops p l).length = opsLab l := by
  induction l with
  | nil => intro p; rfl
  | cons o l ih => intro p; rw [labs_ops, List.length_append, labs_once_len, ih, opsLab_cons]
theorem xcode_ops_len (t : TxC) (A : Int) (l : List Tx) : ∀ p, (xcode_ops t p l A).length = opsLen l := by
  induction l with
  | nil => intro p; rfl
  | cons o l ih => intro p; rw [xcode_ops, List.length_append, xcode_once_len, ih, opsLen_cons]
theorem at_ops (abort : Nat) (l : List Tx) : ∀ {c0 : Cd} {p : Nat} {ls : List Int} {R : List OpD}, At V c0 p ls R → p + opsLen l ≤ 262144 → At V (l.foldl (fun c o => c.once t o abort) c0) (p + opsLen l) (ls ++ labs_ops p l) (R ++ code_ops t V ls.length l abort) := by
  induction l with
  | nil => intro c0 p ls R h _; simpa [opsLen, labs_ops, code_ops] using h
  | cons o l ih =>
    intro c0 p ls R h hp
    rw [opsLen_cons] at hp
    have h1 := at_once (t := t) h o abort (by omega)
    have h2 := ih h1 (by omega)
    rw [List.foldl_cons]
    refine h2.cast (by rw [opsLen_cons]; omega) (by rw [labs_ops, List.append_assoc]) ?_
    rw [code_ops, List.append_assoc, List.length_append, labs_once_len]
theorem x_ops (abort : Nat) (l : List Tx) : ∀ {p q : Nat}, Vseg V q (labs_ops p l) → code_ops t V q l abort = xcode_ops t p l (V abort) := by
  induction l with
  | nil => intro p q _; rfl
  | cons o l ih =>
    intro p q h
    rw [labs_ops] at h
    rw [code_ops, xcode_ops, x_once o abort h.left, ih (h.right (labs_once_len p o))]
theorem adds_ops (abort : Nat) (l : List Tx) : ∀ {c0 : Cd}, Adds (opsLen l) c0 (l.foldl (fun c o => c.once t o abort) c0) := by
  induction l with
  | nil => intro c0; exact Adds.refl
  | cons o l ih => intro c0; rw [opsLen_cons, List.foldl_cons]; exact (adds_once o abort).trans ih
theorem ok_ops {A : Int} (ok : TxOk t) (hA : InCode A) (l : List Tx) : ∀ {p : Nat}, p + opsLen l ≤ 262144 → (∀ o ∈ l, TxWf o) → AllOk (xcode_ops t p l A) := by
  induction l with
  | nil => intro p _ _; exact AllOk.nil
  | cons o l ih =>
    intro p hp hw
    rw [opsLen_cons] at hp
    exact (ok_once ok (by omega) (hw o List.mem_cons_self) hA).app (ih (by omega) (fun x hx => hw x (List.mem_cons_of_mem _ hx)))
def txLen (l : List Tx) : Nat := 185 + opsLen l
def txLab (l : List Tx) : Nat := 31 + opsLab l
def code_txs (t : TxC) (V : Nat → Int) (q : Nat) (l : List Tx) : List OpD :=
  code_begin_ t V (q + 3) ++ [⟨5, 0, 7, 7, 0, t.sum⟩] ++ code_ops t V (q + 3) l (q + 1) ++ code_commit t V (q + 3 + opsLab l) (q + 1) ++ [⟨4, 0, 1, 7, 0, t.sum⟩, ⟨11, 0, 1, 0, 0, 0⟩, ⟨6, 0, 0, 0, 0, V (q + 2)⟩] ++ code_abort t V (q + 31 + opsLab l) ++ [⟨6, 0, 0, 0, 0, V q⟩]
def labs_txs (p : Nat) (l : List Tx) : List Int := [(p : Int), ((p + 181 + opsLen l : Nat) : Int), ((p + 185 + opsLen l : Nat) : Int)] ++ (labs_ops (p + 9) l ++ labs_commit (p + 9 + opsLen l))
def xcode_txs (t : TxC) (p : Nat) (l : List Tx) : List OpD :=
  xcode_begin_ t p ++ [⟨5, 0, 7, 7, 0, t.sum⟩] ++ xcode_ops t (p + 9) l ((p + 181 + opsLen l : Nat) : Int) ++ xcode_commit t (p + 9 + opsLen l) ((p + 181 + opsLen l : Nat) : Int) ++ [⟨4, 0, 1, 7, 0, t.sum⟩, ⟨11, 0, 1, 0, 0, 0⟩, ⟨6, 0, 0, 0, 0, ((p + 185 + opsLen l : Nat) : Int)⟩] ++ xcode_abort t (p + 181 + opsLen l) ++ [⟨6, 0, 0, 0, 0, (p : Int)⟩]
theorem labs_txs_len (p : Nat) (l : List Tx) : (labs_txs p l).length = txLab l := by simp [labs_txs, labs_ops_len, labs_commit_len, txLab]; omega
theorem xcode_txs_len (t : TxC) (p : Nat) (l : List Tx) : (xcode_txs t p l).length = txLen l := by simp [xcode_txs, xcode_begin__len, xcode_ops_len, xcode_commit_len, xcode_abort_len, txLen]; omega
theorem at_txs (h : At V c0 p ls R) (l : List Tx) (hp : p + txLen l ≤ 262144) : At V (c0.txs t l) (p + txLen l) (ls ++ labs_txs p l) (R ++ code_txs t V ls.length l) := by
  obtain rfl := h.labs
  unfold txLen at *
  have h1 := h.label
  have h2 := h1.label
  have h3 := h2.label
  have h4 := h3.here (c0).labs.length
  have h5 := at_begin_ (t := t) h4 (by omega)
  have h6 := h5.put ⟨5, 0, 7, 7, 0, t.sum⟩ (by omega)
  have h7 := at_ops (t := t) (c0.label).labs.length l h6 (by omega)
  have h8 := at_commit (t := t) h7 (c0.label).labs.length (by omega)
  have h9 := h8.put ⟨4, 0, 1, 7, 0, t.sum⟩ (by omega)
  have h10 := h9.put ⟨11, 0, 1, 0, 0, 0⟩ (by omega)
  have h11 := h10.jump (c0.label.label).labs.length (by omega)
  have h12 := h11.here (c0.label).labs.length
  have h13 := at_abort (t := t) h12 (by omega)
  have h14 := h13.jump (c0).labs.length (by omega)
  have h15 := h14.here (c0.label.label).labs.length
  refine h15.cast (by omega) ?_ ?_
  · simp only [labs_txs, Cd.label, emset_at, emset_at0, List.length_append, List.length_cons, List.length_nil, List.append_assoc, List.cons_append, List.nil_append, List.set_cons_zero, List.set_cons_succ, labs_begin__len, labs_abort_len, Nat.zero_add]
    have e1 : labs_begin_ p = [] := rfl
    have e2 : ∀ p, labs_abort p = [] := fun _ => rfl
    simp only [e1, e2, List.append_nil, List.nil_append]
    simp
    omega
  · have e1 : labs_begin_ p = [] := rfl
    have e2 : ∀ p, labs_abort p = [] := fun _ => rfl
    simp [code_txs, Cd.label, e1, e2, labs_ops_len, labs_commit_len]
    simp [Nat.add_assoc]
    rw [show opsLab l + 3 = 3 + opsLab l from by omega, show opsLab l + 31 = 31 + opsLab l from by omega]
theorem adds_txs (l : List Tx) : Adds (txLen l) c0 (c0.txs t l) := by
  have a1 := Adds.label (c := c0)
  have a2 := Adds.trans a1 Adds.label
  have a3 := Adds.trans a2 Adds.label
  have a4 := Adds.trans a3 (Adds.here (c0).labs.length)
  have a5 := Adds.trans a4 (adds_begin_ (t := t))
  have a6 := Adds.trans a5 (Adds.put ⟨5, 0, 7, 7, 0, t.sum⟩)
  have a7 := Adds.trans a6 (adds_ops (t := t) (c0.label).labs.length l)
  have a8 := Adds.trans a7 (adds_commit (t := t) (c0.label).labs.length)
  have a9 := Adds.trans a8 (Adds.put ⟨4, 0, 1, 7, 0, t.sum⟩)
  have a10 := Adds.trans a9 (Adds.put ⟨11, 0, 1, 0, 0, 0⟩)
  have a11 := Adds.trans a10 (Adds.jump (c0.label.label).labs.length)
  have a12 := Adds.trans a11 (Adds.here (c0.label).labs.length)
  have a13 := Adds.trans a12 (adds_abort (t := t))
  have a14 := Adds.trans a13 (Adds.jump (c0).labs.length)
  have a15 := Adds.trans a14 (Adds.here (c0.label.label).labs.length)
  have e : 0 + 0 + 0 + 0 + 8 + 1 + opsLen l + 169 + 1 + 1 + 1 + 0 + 3 + 1 + 0 = txLen l := by unfold txLen; omega
  rw [← e]
  exact a15
theorem x_txs (l : List Tx) (h : Vseg V q (labs_txs p l)) : code_txs t V q l = xcode_txs t p l := by
  unfold labs_txs at h
  have e0 := h.left.at0
  have e1 := h.left.at1
  have e2 := h.left.at2
  have s := h.right (n := 3) (by simp)
  have s1 := s.left
  have s2 := s.right (labs_ops_len l (p + 9))
  unfold code_txs xcode_txs
  rw [x_ops (q + 1) l s1, x_commit (q + 1) s2, e0, e1, e2, x_begin_ (p := p) (fun i v hv => by simp [labs_begin_] at hv), x_abort (p := p + 181 + opsLen l) (fun i v hv => by simp [labs_abort] at hv)]
theorem ok_txs (ok : TxOk t) (l : List Tx) (hp : p + txLen l ≤ 262144) (hw : ∀ o ∈ l, TxWf o) : AllOk (xcode_txs t p l) := by
  unfold txLen at hp
  have hA : InCode ((p + 181 + opsLen l : Nat) : Int) := by unfold InCode; omega
  obtain ⟨⟨w1, w2⟩, ⟨l1, l2⟩, ⟨r1, r2⟩, ⟨a1, a2⟩, ⟨b1, b2⟩, ⟨t1, t2⟩, ⟨s1, s2⟩⟩ := id ok
  unfold xcode_txs
  refine ((((((ok_begin_ ok (by omega)).app (.nu .nil)).app (ok_ops ok hA l (by omega) hw)).app (ok_commit ok (by omega) hA)).app (.nu (.st (.ju .nil)))).app (ok_abort ok (by omega))).app (.ju .nil)
def rowsLen (rs : List (List Tx)) : Nat := (rs.map txLen).sum
theorem rowsLen_cons (l : List Tx) (rs : List (List Tx)) : rowsLen (l :: rs) = txLen l + rowsLen rs := by simp [rowsLen]
def code_rows (t : TxC) (V : Nat → Int) : Nat → List (List Tx) → List OpD
  | _, [] => []
  | q, l :: rs => code_txs t V q l ++ code_rows t V (q + txLab l) rs
def labs_rows : Nat → List (List Tx) → List Int
  | _, [] => []
  | p, l :: rs => labs_txs p l ++ labs_rows (p + txLen l) rs
def xcode_rows (t : TxC) : Nat → List (List Tx) → List OpD
  | _, [] => []
  | p, l :: rs => xcode_txs t p l ++ xcode_rows t (p + txLen l) rs
theorem xcode_rows_len (t : TxC) (rs : List (List Tx)) : ∀ p, (xcode_rows t p rs).length = rowsLen rs := by
  induction rs with
  | nil => intro p; rfl
  | cons l rs ih => intro p; rw [xcode_rows, List.length_append, xcode_txs_len, ih, rowsLen_cons]
theorem at_rows (rs : List (List Tx)) : ∀ {c0 : Cd} {p : Nat} {ls : List Int} {R : List OpD}, At V c0 p ls R → p + rowsLen rs ≤ 262144 → At V (rs.foldl (fun c l => c.txs t l) c0) (p + rowsLen rs) (ls ++ labs_rows p rs) (R ++ code_rows t V ls.length rs) := by
  induction rs with
  | nil => intro c0 p ls R h _; simpa [rowsLen, labs_rows, code_rows] using h
  | cons l rs ih =>
    intro c0 p ls R h hp
    rw [rowsLen_cons] at hp
    have h1 := at_txs (t := t) h l (by omega)
    have h2 := ih h1 (by omega)
    rw [List.foldl_cons]
    refine h2.cast (by rw [rowsLen_cons]; omega) (by rw [labs_rows, List.append_assoc]) ?_
    rw [code_rows, List.append_assoc, List.length_append, labs_txs_len]
theorem x_rows (rs : List (List Tx)) : ∀ {p q : Nat}, Vseg V q (labs_rows p rs) → code_rows t V q rs = xcode_rows t p rs := by
  induction rs with
  | nil => intro p q _; rfl
  | cons l rs ih =>
    intro p q h
    rw [labs_rows] at h
    rw [code_rows, xcode_rows, x_txs l h.left, ih (h.right (labs_txs_len p l))]
theorem adds_rows (rs : List (List Tx)) : ∀ {c0 : Cd}, Adds (rowsLen rs) c0 (rs.foldl (fun c l => c.txs t l) c0) := by
  induction rs with
  | nil => intro c0; exact Adds.refl
  | cons l rs ih => intro c0; rw [rowsLen_cons, List.foldl_cons]; exact (adds_txs l).trans ih
theorem ok_rows (ok : TxOk t) (rs : List (List Tx)) : ∀ {p : Nat}, p + rowsLen rs ≤ 262144 → (∀ l ∈ rs, ∀ o ∈ l, TxWf o) → AllOk (xcode_rows t p rs) := by
  induction rs with
  | nil => intro p _ _; exact AllOk.nil
  | cons l rs ih =>
    intro p hp hw
    rw [rowsLen_cons] at hp
    exact (ok_txs ok l (by omega) (hw l List.mem_cons_self)).app (ih (by omega) (fun x hx => hw x (List.mem_cons_of_mem _ hx)))
def progLen (rs : List (List Tx)) : Nat := 3 + rowsLen rs
def xprog (t : TxC) (rs : List (List Tx)) : List OpD := xcode_start t 0 ++ xcode_rows t 2 rs ++ [⟨14, 0, 0, 0, 0, 0⟩]
theorem xprog_len (t : TxC) (rs : List (List Tx)) : (xprog t rs).length = progLen rs := by simp [xprog, xcode_start_len, xcode_rows_len, progLen]; omega
theorem at_new : At V Cd.new 0 [] [] := ⟨rfl, rfl, rfl, fun x hx => (by cases hx), rfl⟩
theorem prog_fits {rs : List (List Tx)} (h : progLen rs ≤ 262144) : (rowsCd t rs).halt.over = false ∧ (rowsCd t rs).halt.done = xprog t rs ∧ (rowsCd t rs).halt.ops.length = progLen rs := by
  unfold progLen at h ⊢
  have key : ∀ V, At V (rowsCd t rs).halt (2 + rowsLen rs + 1) ([] ++ labs_start 0 ++ labs_rows 2 rs) ([] ++ code_start t V 0 ++ code_rows t V 0 rs ++ [⟨14, 0, 0, 0, 0, 0⟩]) := fun V => by
    have h1 := at_start (t := t) (at_new (V := V)) (by omega)
    have h2 := at_rows (t := t) rs h1 (by omega)
    exact (h2.put ⟨14, 0, 0, 0, 0, 0⟩ (by omega)).cast (by omega) (by rw [Nat.zero_add]) rfl
  have h0 := key (fun q => (rowsCd t rs).halt.labs.getD q 0)
  refine ⟨h0.over, ?_, by rw [h0.len]; omega⟩
  have hd : (rowsCd t rs).halt.done = rsv (fun q => (rowsCd t rs).halt.labs.getD q 0) (rowsCd t rs).halt := rfl
  rw [hd, h0.res, h0.labs]
  have hs : labs_start 0 = [] := rfl
  have hv : Vseg (fun q => (labs_rows 2 rs).getD q 0) 0 (labs_rows 2 rs) := fun i v hv => by
    rw [Nat.zero_add]
    simp [List.getD_eq_getElem?_getD, hv]
  rw [hs, List.nil_append, List.nil_append, List.nil_append, x_rows rs hv, x_start (p := 0) (fun i v hv => by simp [labs_start] at hv)]
  rfl
theorem prog_room {rs : List (List Tx)} (h : (rowsCd t rs).halt.over = false) : progLen rs ≤ 262144 := by
  have a := ((adds_start (t := t) (c0 := Cd.new)).trans (adds_rows (t := t) rs)).trans (Adds.put ⟨14, 0, 0, 0, 0, 0⟩)
  have := (a h).2.2 (by omega)
  unfold progLen
  simp [Cd.new] at this
  omega
theorem prog_ok {rs : List (List Tx)} (ok : TxOk t) (h : progLen rs ≤ 262144) (hw : ∀ l ∈ rs, ∀ o ∈ l, TxWf o) : AllOk (xprog t rs) := by
  unfold progLen at h
  exact ((ok_start ok (by omega)).app (ok_rows ok rs (by omega) hw)).app (.st .nil)
theorem nOnce_le (o : Tx) : nOnce o ≤ 48 := by unfold nOnce; split <;> omega
theorem opsLen_le (l : List Tx) : opsLen l ≤ 48 * l.length := by
  induction l with
  | nil => simp [opsLen]
  | cons o l ih => rw [opsLen_cons, List.length_cons]; have := nOnce_le o; omega
theorem rowsLen_few {rs : List (List Tx)} (h : ∀ l ∈ rs, l.length ≤ 8) : rowsLen rs ≤ 569 * rs.length := by
  induction rs with
  | nil => simp [rowsLen]
  | cons l rs ih =>
    rw [rowsLen_cons, List.length_cons]
    have h1 := opsLen_le l
    have h2 := h l List.mem_cons_self
    have h3 := ih (fun x hx => h x (List.mem_cons_of_mem _ hx))
    unfold txLen
    omega
end
section
structure PickD where
  kind : Int
  th : Int
  n : Int
deriving DecidableEq
def encPk (p : PickD) : List Value := [.int .u8 p.kind, .int .i64 p.th, .int .i64 p.n]
theorem encPk_len : ∀ p, (encPk p).length = 3 := fun _ => rfl
def plen (p : PickD) : Int := if p.kind = 2 then min p.n 1048577 * 2 else min p.n 1048577
def pbad (p : PickD) : Bool := decide (2 < p.kind) || decide (p.n < 0)
def total (l : List PickD) : Int := (l.map plen).sum
def lengthS (l : List PickD) : Int × Int :=
  if 65536 < l.length then (0, 3) else if l.any pbad = true then (0, 1) else if 1048576 < total l then (0, 3) else (total l, 0)
theorem plen_le (p : PickD) : plen p ≤ 2097154 := by unfold plen; split <;> omega
theorem plen_ge {p : PickD} (h : pbad p = false) : 0 ≤ plen p := by unfold pbad at h; simp at h; unfold plen; split <;> omega
theorem total_snoc (l : List PickD) (p : PickD) : total (l ++ [p]) = total l + plen p := by simp [total]
theorem total_app (l r : List PickD) : total (l ++ r) = total l + total r := by simp [total]
theorem total_ge {l : List PickD} (h : l.any pbad = false) : 0 ≤ total l := by
  induction l with
  | nil => simp [total]
  | cons p r ih =>
    simp only [List.any_cons, Bool.or_eq_false_iff] at h
    have := plen_ge h.1
    have := ih h.2
    simp only [total, List.map_cons, List.sum_cons] at *
    omega
variable {w w' : World}
theorem plen_any (w : World) (p : PickD) (hn : 0 ≤ p.n) :
    Calls Tryz.prog 226 #[.agg #[.int .u8 p.kind, .int .i64 p.th, .int .i64 p.n]] w fun e w' => e = .returned (.int .i64 (plen p)) ∧ Below w.heap.size w w' := by
  go_enter Tryz.func226, Tryz.ntmps226
  by_cases hk : p.kind = 2
  · go_wp2_with fail
    all_goals
      go_ret
      refine ⟨?_, (Below.refl _ _).alloc (Nat.le_refl _) _⟩
      simp [plen, wrap64, hk]
      omega
  · go_wp2_with fail
    all_goals
      go_ret
      refine ⟨?_, (Below.refl _ _).alloc (Nat.le_refl _) _⟩
      simp [plen, hk]
      omega
theorem length_any {ao : Option Addr} {cap : Nat} {l : List PickD} (h : RdT encPk w 3 (.slice ao l.length cap) l) (hm : l.length ≤ 9000000000000) (hn : ∀ p ∈ l, -9223372036854775808 ≤ p.n ∧ 0 ≤ p.kind) :
    Calls Tryz.prog 192 #[.slice ao l.length cap] w fun e w' => e = .returned (.tuple #[.int .i64 (lengthS l).1, .int .i64 (lengthS l).2]) ∧ Below w.heap.size w w' := by
  have H := hidI h
  have HN := hidI hn
  clear h hn
  go_enter Tryz.func192, Tryz.ntmps192
  by_cases hb : 65536 < l.length
  · go_wp2_with fail
    go_ret2
    unfold lengthS
    rw [if_pos hb]
    exact ⟨rfl, Below.refl _ _⟩
  · have h1 : ¬ ((l.length : Int) > 65536) := by omega
    go_wp2_with fail
    go_loopw [14] (fun i w' => ∃ k : Nat, k ≤ l.length ∧ i = .int .i64 (k : Int) ∧ Hid (Below w.heap.size w w') ∧ Hid ((l.take k).any pbad = false)) (fun i _ => ((l.length : Int) - intOf i).toNat)
    case atStart => exact ⟨0, by omega, rfl, hidI (Below.refl _ _), hidI rfl⟩
    case round =>
      obtain ⟨k, hk, rfl, HB, hall⟩ := hrel
      by_cases hlt : k < l.length
      · obtain ⟨x, hx⟩ := some_at hlt
        obtain ⟨b1, o1, rfl, hs1, hc1⟩ := RdT.at encPk_len (Rd.below H.out HB.out) hx
        have x0 := hc1 0 _ rfl
        have x1 := hc1 1 _ rfl
        have x2 := hc1 2 _ rfl
        simp only [Nat.add_zero] at x0
        clear hc1 hs1
        by_cases hbad : pbad x = true
        · have hv : lengthS l = (0, 1) := by unfold lengthS; rw [if_neg hb, if_pos (List.any_eq_true.2 ⟨x, List.mem_of_getElem? hx, hbad⟩)]
          unfold pbad at hbad
          simp only [Bool.or_eq_true, decide_eq_true_eq] at hbad
          have HV := hidI hv
          clear hv hall
          by_cases h2 : x.kind > 2
          · clear hbad
            go_wp2_with fail
            go_ret2
            rw [HV.out]
            exact ⟨rfl, HB.out.alloc HB.out.size _⟩
          · have h3 : x.n < 0 := by omega
            clear hbad
            go_wp2_with fail
            go_ret2
            rw [HV.out]
            exact ⟨rfl, HB.out.alloc HB.out.size _⟩
        · have hk2 : ¬ (x.kind > 2) := by unfold pbad at hbad; simp at hbad; omega
          have hn2 : ¬ (x.n < 0) := by unfold pbad at hbad; simp at hbad; omega
          have HX := hidI hx
          have HBAD := hidI hbad
          clear hbad hx
          go_wp2_with fail
          refine ⟨⟨k + 1, by omega, by go_num, hidI (HB.out.alloc HB.out.size _), hidI ?_⟩, by simp [intOf]; omega⟩
          rw [take_snoc HX.out, List.any_append, hall.out]
          simpa using HBAD.out
      · obtain rfl : k = l.length := by omega
        have hall' := hall.out
        rw [List.take_length] at hall'
        have HA := hidI hall'
        clear hall hall'
        obtain ⟨w1, rfl⟩ : ∃ w1, w1 = wr := ⟨_, rfl⟩
        go_wp2_with fail
        go_loopw [4, 29] (fun nv i w' => ∃ k : Nat, k ≤ l.length ∧ i = .int .i64 (k : Int) ∧ nv = .int .i64 (total (l.take k)) ∧ total (l.take k) ≤ 1048576 ∧ Hid (Below w.heap.size w w')) (fun nv i _ => ((l.length : Int) - intOf i).toNat)
        case atStart => exact ⟨0, by omega, rfl, rfl, by simp [total], HB⟩
        case round =>
          obtain ⟨k, hk, rfl, rfl, htot, HB⟩ := hrel
          by_cases hlt : k < l.length
          · obtain ⟨x, hx⟩ := some_at hlt
            obtain ⟨b1, o1, rfl, hs1, hc1⟩ := RdT.at encPk_len (Rd.below H.out HB.out) hx
            have x0 := hc1 0 _ rfl
            have x1 := hc1 1 _ rfl
            have x2 := hc1 2 _ rfl
            simp only [Nat.add_zero] at x0
            have hbx : pbad x = false := by
              have := List.any_eq_false.1 HA.out x (List.mem_of_getElem? hx)
              simpa using this
            have hng : 0 ≤ x.n := by unfold pbad at hbx; simp at hbx; omega
            have hp0 := plen_ge hbx
            have hp1 := plen_le x
            have ht0 : 0 ≤ total (l.take k) := total_ge (by
              refine List.any_eq_false.2 fun y hy => ?_
              exact List.any_eq_false.1 HA.out y (List.mem_of_mem_take hy))
            have hsn : total (l.take (k + 1)) = total (l.take k) + plen x := by rw [take_snoc hx, total_snoc]
            have hle : total (l.take (k + 1)) ≤ total l := by
              have h1 := total_app (l.take (k + 1)) (l.drop (k + 1))
              rw [List.take_append_drop] at h1
              have : 0 ≤ total (l.drop (k + 1)) := total_ge (by
                refine List.any_eq_false.2 fun y hy => ?_
                exact List.any_eq_false.1 HA.out y (List.mem_of_mem_drop hy))
              omega
            have HLE := hidI hle
            have HX := hidI hx
            clear hc1 hs1 hx hbx hle
            go_wp2_with fail
            refine (plen_any _ x hng).mono ?_
            rintro e w2 ⟨rfl, hb2⟩
            have HB2 := hidI ((HB.out.alloc HB.out.size _).trans (hb2.mono (by have := HB.out.size; simp; omega)))
            clear hb2
            have hs9 := hidI hsn
            clear hsn
            generalize hT : total (l.take k) = T at *
            generalize hP : plen x = pl at *
            clear hT hP
            by_cases hgt : T + pl > 1048576
            · go_wp2_with fail
              go_ret2
              have hv : lengthS l = (0, 3) := by unfold lengthS; rw [if_neg hb, if_neg (by rw [HA.out]; decide), if_pos (by have := HLE.out; have := hs9.out; omega)]
              rw [hv]
              exact ⟨rfl, HB2.out⟩
            · go_wp2_with fail
              exact ⟨⟨k + 1, by omega, by go_num, by rw [hs9.out], by rw [hs9.out]; omega, HB2⟩, by simp [intOf]; omega⟩
          · obtain rfl : k = l.length := by omega
            go_wp2_with fail
            go_ret2
            rw [List.take_length] at htot ⊢
            refine ⟨?_, HB.out⟩
            have hv : lengthS l = (total l, 0) := by unfold lengthS; rw [if_neg hb, if_neg (by rw [HA.out]; decide), if_neg (by omega)]
            rw [hv]
            rfl
end
theorem rowLen {w : World} {base : Nat} {e : TypeId} {size : Nat} {v : Value} {n : Nat} {xs : List Value} (h : w.ownsRow base e size v n xs) : n ≤ 9223372036854775807 := by
  rcases h.2 with ⟨_, rfl⟩ | ⟨g', cap, cur, rfl, hb, hg, hc, hm, _⟩
  · omega
  · unfold maxLen at hm; omega
theorem rowLt {w : World} {base : Nat} {e : TypeId} {size : Nat} {v : Value} {n : Nat} {xs : List Value} (h : w.ownsRow base e size v n xs) {g : Nat} (hg : v.ownBlock = some g) : base ≤ g ∧ g < w.heap.size := by
  rcases h.2 with ⟨rfl, _⟩ | ⟨g', cap, cur, rfl, hb, hgg, _⟩
  · cases hg
  · simp only [Value.ownBlock, Option.some.injEq] at hg
    subst hg
    exact ⟨hb, lt_of_block hgg⟩
theorem flatSet {α : Type} {enc : α → List Value} {sz : Nat} (he : ∀ a, (enc a).length = sz) (l : List α) : ∀ {k : Nat} {x y : α} {j : Nat} {u : Value}, l[k]? = some x → enc y = (enc x).set j u → j < sz → (l.set k y).flatMap enc = (l.flatMap enc).set (k * sz + j) u := by
  induction l with
  | nil => intro k x y j u h; simp at h
  | cons a l ih =>
    intro k x y j u h hy hj
    cases k with
    | zero =>
      simp only [List.getElem?_cons_zero, Option.some.injEq] at h
      subst h
      rw [List.set_cons_zero, List.flatMap_cons, List.flatMap_cons, hy, Nat.zero_mul, Nat.zero_add, List.set_append_left _ _ (by rw [he]; exact hj)]
    | succ k =>
      simp only [List.getElem?_cons_succ] at h
      rw [List.set_cons_succ, List.flatMap_cons, List.flatMap_cons, ih h hy hj, List.set_append_right _ _ (by rw [he, Nat.add_mul]; omega), he]
      congr 2
      rw [Nat.add_mul]; omega
theorem rowSet {α : Type} {enc : α → List Value} {sz : Nat} (he : ∀ a, (enc a).length = sz) {w : World} {base : Nat} {e : TypeId} {g o n c : Nat} {l : List α} (h : w.ownsRow base e sz (.slice (some ⟨g, o, none⟩) n c) n (l.flatMap enc))
    {k : Nat} {x y : α} {j : Nat} {u : Value} (hx : l[k]? = some x) (hy : enc y = (enc x).set j u) (hj : j < sz) :
    o = 0 ∧ (w.setCell ⟨g, k * sz + j, none⟩ u).ownsRow base e sz (.slice (some ⟨g, o, none⟩) n c) n ((l.set k y).flatMap enc) := by
  rcases h.2 with ⟨hv, _⟩ | ⟨g', cap, cur, hv, hb, hg, hc, hm, hs, ht⟩
  · simp at hv
  · simp only [Value.slice.injEq, Option.some.injEq, Addr.mk.injEq, and_true, true_and] at hv
    obtain ⟨⟨rfl, rfl⟩, rfl⟩ := hv
    refine ⟨rfl, by rw [flatSet he l hx hy hj, List.length_set]; exact h.1, .inr ⟨g, c, cur.setIfInBounds (k * sz + j) u, rfl, hb, block_setCell u hg, hc, hm, by simpa using hs, ?_⟩⟩
    rw [Array.toList_setIfInBounds, List.take_set, ht, flatSet he l hx hy hj]
theorem ownRow_keep {w w' : World} {base : Nat} {e : TypeId} {size : Nat} {v : Value} {n : Nat} {xs : List Value} (h : w.ownsRow base e size v n xs) (hk : ∀ g, v.ownBlock = some g → g < w.heap.size → w'.heap[g]? = w.heap[g]?) : w'.ownsRow base e size v n xs := by
  refine ⟨h.1, ?_⟩
  rcases h.2 with hn | ⟨g', cap, cur, rfl, hb, hgg, rest⟩
  · exact .inl hn
  · refine .inr ⟨g', cap, cur, rfl, hb, ?_, rest⟩
    rw [hk g' rfl (Array.getElem?_eq_some_iff.1 hgg).1]
    exact hgg
theorem rowSize {w : World} {base : Nat} {e : TypeId} {size : Nat} {g n cap : Nat} {xs : List Value} {cur : Array Value} (h : w.ownsRow base e size (.slice (some ⟨g, 0, none⟩) n cap) n xs) (hg : w.heap[g]? = some (.cells cur e (0, 0))) : n * size ≤ cur.size := by
  rcases h.2 with ⟨hv, _⟩ | ⟨g', cap', cur', hv, hb, hg', hc, hm, hs, ht⟩
  · simp at hv
  · simp only [Value.slice.injEq, Option.some.injEq, Addr.mk.injEq, and_true, true_and] at hv
    obtain ⟨rfl, rfl⟩ := hv
    rw [hg] at hg'
    simp only [Option.some.injEq, Obj.cells.injEq, true_and] at hg'
    obtain ⟨rfl, _⟩ := hg'
    rw [hs]
    exact Nat.mul_le_mul_right _ hc
section
def encEv (x : Ev) : List Value := [.int .i64 x.th, .int .u8 x.k, .int .i64 x.a, .int .i64 x.b]
theorem encEv_len : ∀ a, (encEv a).length = 4 := fun _ => rfl
def encI (z : Int) : List Value := [.int .i64 z]
theorem encI_len : ∀ a, (encI a).length = 1 := fun _ => rfl
structure TX where
  th : MT
  cv : Value
  bb : Nat
  ov : Value
def encX (x : TX) : List Value :=
  [x.cv, .int .i64 (x.th.reg 0), .int .i64 (x.th.reg 1), .int .i64 (x.th.reg 2), .int .i64 (x.th.reg 3), .int .i64 (x.th.reg 4), .int .i64 (x.th.reg 5), .int .i64 (x.th.reg 6), .int .i64 (x.th.reg 7),
   .int .i64 x.th.at_, .pointer (some ⟨x.bb, 0, none⟩), x.ov, .int .u8 x.th.fin]
theorem encX_len : ∀ x, (encX x).length = 13 := fun _ => rfl
theorem encX_reg (x : TX) : ∀ r, r < 8 → (encX x)[1 + r]? = some (.int .i64 (x.th.reg r))
  | 0, _ => rfl | 1, _ => rfl | 2, _ => rfl | 3, _ => rfl | 4, _ => rfl | 5, _ => rfl | 6, _ => rfl | 7, _ => rfl
  | n + 8, h => absurd h (by omega)
theorem encX_setReg (x : TX) (v : Int) : ∀ r, r < 8 → encX { x with th := { x.th with reg := upd x.th.reg r v } } = (encX x).set (1 + r) (.int .i64 v)
  | 0, _ => rfl | 1, _ => rfl | 2, _ => rfl | 3, _ => rfl | 4, _ => rfl | 5, _ => rfl | 6, _ => rfl | 7, _ => rfl
  | n + 8, h => absurd h (by omega)
structure TsAt (w : World) (base : Nat) (own : Nat → Nat) (i : Nat) (x : TX) : Prop where
  code : RdT encOp w 6 x.cv x.th.code
  codeT : ∀ g, x.th.code ≠ [] → x.cv.ownBlock = some g → base ≤ g ∧ own g = 5 + 3 * i
  ring : ∃ c f, Ring w x.bb x.th.wait c f
  ringT : base ≤ x.bb ∧ own x.bb = 6 + 3 * i
  out : w.ownsRow base 2 1 x.ov x.th.out.length (x.th.out.flatMap encI)
  outT : ∀ g, x.ov.ownBlock = some g → own g = 7 + 3 * i
structure MAt (w : World) (base b : Nat) (own : Nat → Nat) (mm : MM) (xs : List TX) (mv tv ev : Value) : Prop where
  blk : w.heap[b]? = some (.cells #[.bool true, mv, tv, ev] 355 (0, 0))
  bT : base ≤ b ∧ own b = 1
  mem : w.ownsRow base 2 1 mv mm.mem.length (mm.mem.flatMap encI)
  memT : ∀ g, mv.ownBlock = some g → own g = 2
  ths : w.ownsRow base 361 13 tv xs.length (xs.flatMap encX)
  thsT : ∀ g, tv.ownBlock = some g → own g = 3
  evs : w.ownsRow base 181 4 ev mm.evs.length (mm.evs.flatMap encEv)
  evsT : ∀ g, ev.ownBlock = some g → own g = 4
  same : mm.ths = xs.map TX.th
  th : ∀ (i : Nat) x, xs[i]? = some x → TsAt w base own i x
  fresh : ∀ k, w.heap.size ≤ k → own k = 0
theorem RdT.keepN {α : Type} {enc : α → List Value} {w w' : World} {sz : Nat} {v : Value} {l : List α} (h : RdT enc w sz v l) (hk : ∀ g, l ≠ [] → v.ownBlock = some g → g < w.heap.size → w'.heap[g]? = w.heap[g]?) : RdT enc w' sz v l := by
  by_cases e : l = []
  · subst e
    obtain ⟨h1, ao, cap, h2, h3, h4⟩ := h
    exact ⟨h1, ao, cap, h2, h3, fun hn => absurd hn (by simp)⟩
  · exact h.keep fun g hg hl => hk g e hg hl
theorem TsAt.keep {w w' : World} {base : Nat} {own own' : Nat → Nat} {i : Nat} {x : TX} (h : TsAt w base own i x) (ho : ∀ k, k < w.heap.size → own' k = own k) 
    (hk : ∀ g, own g = 5 + 3 * i ∨ own g = 6 + 3 * i ∨ own g = 7 + 3 * i → g < w.heap.size → w'.heap[g]? = w.heap[g]?) : TsAt w' base own' i x := by
  obtain ⟨c, f, hr⟩ := h.ring
  refine ⟨h.code.keepN fun g hn hg hl => hk g (.inl (h.codeT g hn hg).2) hl, fun g hn hg => ?_, ⟨c, f, hr.keep (hk _ (.inr (.inl h.ringT.2)) hr.lt)⟩, ⟨h.ringT.1, by rw [ho _ hr.lt]; exact h.ringT.2⟩,
    ownRow_keep h.out fun g hg hl => hk g (.inr (.inr (h.outT g hg))) hl, fun g hg => by rw [ho _ (rowLt h.out hg).2]; exact h.outT g hg⟩
  refine ⟨(h.codeT g hn hg).1, ?_⟩
  obtain ⟨h1, ao, cap, h2, h3, h4⟩ := h.code
  obtain ⟨b, off, rfl, hb, _⟩ := h4 (List.length_pos_iff.2 hn)
  rw [h2] at hg
  simp only [Value.ownBlock, Option.some.injEq] at hg
  subst hg
  rw [ho _ hb]
  exact (h.codeT b hn (by rw [h2]; rfl)).2
variable {w w' : World} {base b : Nat} {own own' : Nat → Nat} {mm : MM} {xs : List TX} {mv tv ev : Value}
theorem MAt.lt (h : MAt w base b own mm xs mv tv ev) : b < w.heap.size := lt_of_block h.blk
theorem MAt.base_le (h : MAt w base b own mm xs mv tv ev) : base ≤ w.heap.size := Nat.le_trans h.bT.1 (Nat.le_of_lt h.lt)
theorem MAt.keep (h : MAt w base b own mm xs mv tv ev) (hs : w.heap.size ≤ w'.heap.size) (hk : ∀ g, own g ≠ 0 → g < w.heap.size → w'.heap[g]? = w.heap[g]?) : MAt w' base b own mm xs mv tv ev :=
  ⟨(hk b (by rw [h.bT.2]; decide) h.lt).trans h.blk, h.bT, ownRow_keep h.mem fun g hg hl => hk g (by rw [h.memT g hg]; decide) hl, h.memT,
    ownRow_keep h.ths fun g hg hl => hk g (by rw [h.thsT g hg]; decide) hl, h.thsT,
    ownRow_keep h.evs fun g hg hl => hk g (by rw [h.evsT g hg]; decide) hl, h.evsT, h.same,
    fun i x hx => (h.th i x hx).keep (fun _ _ => rfl) fun g hg hl => hk g (by omega) hl, fun k hk' => h.fresh k (by omega)⟩
theorem MAt.below (h : MAt w base b own mm xs mv tv ev) (hb : Below w.heap.size w w') : MAt w' base b own mm xs mv tv ev := h.keep hb.size fun g _ hl => hb.block g hl
theorem MAt.drewN (h : MAt w base b own mm xs mv tv ev) (n : Nat) : MAt (w.drewN n) base b own mm xs mv tv ev := h.keep (Nat.le_refl _) fun g _ hl => rfl
theorem MAt.drew (h : MAt w base b own mm xs mv tv ev) : MAt w.drew base b own mm xs mv tv ev := h.keep (Nat.le_refl _) fun g _ hl => rfl
theorem MAt.chg {S : Nat → Prop} (h : MAt w base b own mm xs mv tv ev) (hc : Chg S w w') (hs : ∀ k, own k ≠ 0 → ¬ S k) : MAt w' base b own mm xs mv tv ev := h.keep hc.size fun g hg hl => hc.block g hl (hs g hg)
theorem heapSize_setCell (w : World) (p : Addr) (u : Value) : (w.setCell p u).heap.size = w.heap.size := by simp [World.setCell]
theorem set_at {α : Type} {l : List α} {n : Nat} {x : α} (h : l[n]? = some x) (y : α) : (l.set n y)[n]? = some y := by
  rw [List.getElem?_set_self (List.getElem?_eq_some_iff.1 h).1]
theorem MAt.th_at (h : MAt w base b own mm xs mv tv ev) {n : Nat} {x : TX} (hx : xs[n]? = some x) : mm.ths[n]? = some x.th := by rw [h.same]; simp [hx]
theorem MAt.tslice (h : MAt w base b own mm xs mv tv ev) {n : Nat} {x : TX} (hx : xs[n]? = some x) : ∃ tb cap, tv = .slice (some ⟨tb, 0, none⟩) xs.length cap ∧ own tb = 3 := by
  have hl := (List.getElem?_eq_some_iff.1 hx).1
  obtain ⟨ao, cap, rfl⟩ := ownsRow_shape h.ths
  obtain ⟨tb, cur, rfl, _⟩ := ownsRow_some h.ths (by omega)
  exact ⟨tb, cap, rfl, h.thsT tb rfl⟩
theorem MAt.cell {tb cap : Nat} (h : MAt w base b own mm xs mv (.slice (some ⟨tb, 0, none⟩) xs.length cap) ev) {n : Nat} {x : TX} (hx : xs[n]? = some x) (j : Nat) (u : Value) (hu : (encX x)[j]? = some u) : w.cell? ⟨tb, n * 13 + j, none⟩ = some u := by
  obtain ⟨b', off, e1, hb, hc⟩ := RdT.at (enc := encX) encX_len (Rd.of_own h.ths) hx
  simp only [Option.some.injEq, Addr.mk.injEq, and_true] at e1
  obtain ⟨rfl, rfl⟩ := e1
  have := hc j u hu
  rwa [Nat.zero_add] at this
theorem MAt.free {tb cap : Nat} (h : MAt w base b own mm xs mv (.slice (some ⟨tb, 0, none⟩) xs.length cap) ev) (hn : 0 < xs.length) (o : Nat) : w.frozen? ⟨tb, o, none⟩ = false := by
  obtain ⟨tb', cur, e1, _, hg, _⟩ := ownsRow_some h.ths hn
  simp only [Option.some.injEq, Addr.mk.injEq, and_true] at e1
  subst e1
  exact free_of_block hg
theorem MAt.wcell (h : MAt w base b own mm xs mv tv ev) (j : Nat) (u : Value) (hu : (#[Value.bool true, mv, tv, ev])[j]? = some u) : w.cell? ⟨b, j, none⟩ = some u := cell_of_block h.blk hu
theorem MAt.poke {tb cap : Nat} (h : MAt w base b own mm xs mv (.slice (some ⟨tb, 0, none⟩) xs.length cap) ev) {n : Nat} {x : TX} (hx : xs[n]? = some x) (y : TX) (j : Nat) (u : Value) (hj : j < 13) (he : encX y = (encX x).set j u)
    (h1 : y.cv = x.cv) (h2 : y.th.code = x.th.code) (h3 : y.bb = x.bb) (h4 : y.th.wait = x.th.wait) (h5 : y.ov = x.ov) (h6 : y.th.out = x.th.out) :
    MAt (w.setCell ⟨tb, n * 13 + j, none⟩ u) base b own (mm.put n y.th) (xs.set n y) mv (.slice (some ⟨tb, 0, none⟩) (xs.set n y).length cap) ev := by
  have hk : ∀ g, own g ≠ 3 → (w.setCell ⟨tb, n * 13 + j, none⟩ u).heap[g]? = w.heap[g]? := fun g hg => Below.heap_setCell _ _ _ _ fun e => hg (by rw [e]; exact h.thsT tb rfl)
  have hr := (rowSet encX_len h.ths hx he hj).2
  refine ⟨by rw [List.length_set]; exact (hk b (by rw [h.bT.2]; decide)).trans h.blk, h.bT, ownRow_keep h.mem fun g hg _ => hk g (by rw [h.memT g hg]; decide), h.memT, by rw [List.length_set]; exact hr, h.thsT, ownRow_keep h.evs fun g hg _ => hk g (by rw [h.evsT g hg]; decide), h.evsT,
    by rw [MM.put, List.map_set, h.same], fun i z hz => ?_, fun k hk' => h.fresh k (by rw [heapSize_setCell] at hk'; exact hk')⟩
  rw [List.getElem?_set] at hz
  split at hz
  · rename_i e
    subst e
    split at hz
    · cases hz
      have ht := (h.th n x hx).keep (w' := w.setCell ⟨tb, n * 13 + j, none⟩ u) (own' := own) (fun _ _ => rfl) fun g hg _ => hk g (by omega)
      exact ⟨by rw [h1, h2]; exact ht.code, by rw [h1, h2]; exact ht.codeT, by rw [h3, h4]; exact ht.ring, by rw [h3]; exact ht.ringT, by rw [h5, h6]; exact ht.out, by rw [h5]; exact ht.outT⟩
    · cases hz
  · exact (h.th i z hz).keep (fun _ _ => rfl) fun g hg _ => hk g (by omega)
theorem MAt.ringed (h : MAt w base b own mm xs mv tv ev) {n : Nat} {x : TX} (hx : xs[n]? = some x) (hc : Chg (fun k => k = x.bb) w w') {q : List (Int × Int)} {c : Array Value} {f : Nat} (hr : Ring w' x.bb q c f) :
    MAt w' base b own (mm.put n { x.th with wait := q }) (xs.set n { x with th := { x.th with wait := q } }) mv tv ev := by
  have hb := (h.th n x hx).ringT
  have hk : ∀ g, own g ≠ 6 + 3 * n → g < w.heap.size → w'.heap[g]? = w.heap[g]? := fun g hg hl => hc.block g hl fun e => hg (by rw [e]; exact hb.2)
  have hs : (xs.set n { x with th := { x.th with wait := q } }).flatMap encX = xs.flatMap encX := by
    refine List.ext_getElem? fun k => ?_
    have := flatSet (j := 0) (u := x.cv) encX_len xs hx (y := { x with th := { x.th with wait := q } }) rfl (by decide)
    rw [this, List.getElem?_set]
    split
    · rename_i e
      subst e
      have h9 := flat_at encX_len xs hx 0 x.cv rfl
      rw [h9, if_pos (List.getElem?_eq_some_iff.1 h9).1]
    · rfl
  refine ⟨(hk b (by rw [h.bT.2]; omega) h.lt).trans h.blk, h.bT, ownRow_keep h.mem fun g hg hl => hk g (by rw [h.memT g hg]; omega) hl, h.memT, by rw [List.length_set, hs]; exact ownRow_keep h.ths fun g hg hl => hk g (by rw [h.thsT g hg]; omega) hl, h.thsT,
    ownRow_keep h.evs fun g hg hl => hk g (by rw [h.evsT g hg]; omega) hl, h.evsT, by rw [MM.put, List.map_set, h.same], fun i z hz => ?_, fun k hk' => h.fresh k (by have := hc.size; omega)⟩
  rw [List.getElem?_set] at hz
  split at hz
  · rename_i e
    subst e
    split at hz
    · cases hz
      have ht := h.th n x hx
      refine ⟨ht.code.keepN fun g hn hg hl => hk g (by rw [(ht.codeT g hn hg).2]; omega) hl, ht.codeT, ⟨c, f, hr⟩, hb, ownRow_keep ht.out fun g hg hl => hk g (by rw [ht.outT g hg]; omega) hl, ht.outT⟩
    · cases hz
  · rename_i hne
    exact (h.th i z hz).keep (fun _ _ => rfl) fun g hg hl => hk g (by omega) hl
theorem MAt.word {mb mc : Nat} (h : MAt w base b own mm xs (.slice (some ⟨mb, 0, none⟩) mm.mem.length mc) tv ev) {a : Nat} (ha : a < mm.mem.length) (v : Int) :
    MAt (w.setCell ⟨mb, a, none⟩ (.int .i64 v)) base b own { mm with mem := mm.mem.set a v } xs (.slice (some ⟨mb, 0, none⟩) mm.mem.length mc) tv ev := by
  have hk : ∀ g, own g ≠ 2 → (w.setCell ⟨mb, a, none⟩ (.int .i64 v)).heap[g]? = w.heap[g]? := fun g hg => Below.heap_setCell _ _ _ _ fun e => hg (by rw [e]; exact h.memT mb rfl)
  have hr := (rowSet (j := 0) (y := v) (u := .int .i64 v) encI_len h.mem (List.getElem?_eq_getElem ha) rfl (by decide)).2
  rw [Nat.mul_one, Nat.add_zero] at hr
  exact ⟨(hk b (by rw [h.bT.2]; decide)).trans h.blk, h.bT, by rw [List.length_set]; exact hr, h.memT, ownRow_keep h.ths fun g hg _ => hk g (by rw [h.thsT g hg]; decide), h.thsT, ownRow_keep h.evs fun g hg _ => hk g (by rw [h.evsT g hg]; decide), h.evsT, h.same,
    fun i z hz => (h.th i z hz).keep (fun _ _ => rfl) fun g hg _ => hk g (by omega), fun k hk' => h.fresh k (by rw [heapSize_setCell] at hk'; exact hk')⟩
theorem MAt.mslice (h : MAt w base b own mm xs mv tv ev) (hm : 0 < mm.mem.length) : ∃ mb cap, mv = .slice (some ⟨mb, 0, none⟩) mm.mem.length cap ∧ own mb = 2 := by
  obtain ⟨ao, cap, rfl⟩ := ownsRow_shape h.mem
  obtain ⟨mb, cur, rfl, _⟩ := ownsRow_some h.mem hm
  exact ⟨mb, cap, rfl, h.memT mb rfl⟩
theorem MAt.mcell {mb mc : Nat} (h : MAt w base b own mm xs (.slice (some ⟨mb, 0, none⟩) mm.mem.length mc) tv ev) {a : Nat} (ha : a < mm.mem.length) : w.cell? ⟨mb, a, none⟩ = some (.int .i64 (mm.mem.getD a 0)) := by
  obtain ⟨b', off, e1, hb, hc⟩ := RdT.at (enc := encI) encI_len (Rd.of_own h.mem) (List.getElem?_eq_getElem ha)
  simp only [Option.some.injEq, Addr.mk.injEq, and_true] at e1
  obtain ⟨rfl, rfl⟩ := e1
  have := hc 0 _ rfl
  rw [Nat.zero_add, Nat.mul_one, Nat.add_zero] at this
  rw [this]
  simp [List.getD, ha]
theorem MAt.mfree {mb mc : Nat} (h : MAt w base b own mm xs (.slice (some ⟨mb, 0, none⟩) mm.mem.length mc) tv ev) (hn : 0 < mm.mem.length) (o : Nat) : w.frozen? ⟨mb, o, none⟩ = false := by
  obtain ⟨tb', cur, e1, _, hg, _⟩ := ownsRow_some h.mem hn
  simp only [Option.some.injEq, Addr.mk.injEq, and_true] at e1
  subst e1
  exact free_of_block hg
def retag (own : Nat → Nat) (v : Value) (p n : Nat) : Nat → Nat := fun k => if v.ownBlock = some k ∧ n ≤ k then p else own k
theorem retag_old {own : Nat → Nat} {v : Value} {p n k : Nat} (h : k < n) : retag own v p n k = own k := by
  unfold retag
  rw [if_neg (by omega)]
theorem retag_new {own : Nat → Nat} {v u : Value} {p n g : Nat} (hf : ∀ g, v.ownBlock = some g → u.ownBlock = some g ∨ n ≤ g) (hu : ∀ g, u.ownBlock = some g → own g = p) (hg : v.ownBlock = some g) : retag own v p n g = p := by
  unfold retag
  split
  · rfl
  · rename_i hn
    rcases hf g hg with e | e
    · exact hu g e
    · exact absurd ⟨hg, e⟩ hn
theorem retag_fresh {own : Nat → Nat} {v : Value} {p n m k : Nat} (hl : ∀ g, v.ownBlock = some g → g < m) (h0 : own k = 0) (hk : m ≤ k) : retag own v p n k = 0 := by
  unfold retag
  rw [if_neg (fun h => by have := hl k h.1; omega)]
  exact h0
theorem MAt.event (h : MAt w base b own mm xs mv tv ev) (es : List Ev) (ev' : Value) (hc : Chg (fun k => k = b ∨ ev.ownBlock = some k) w w') (hb : w'.heap[b]? = some (.cells #[.bool true, mv, tv, ev'] 355 (0, 0)))
    (he : w'.ownsRow base 181 4 ev' es.length (es.flatMap encEv)) (hf : ∀ g, ev'.ownBlock = some g → ev.ownBlock = some g ∨ w.heap.size ≤ g) :
    MAt w' base b (retag own ev' 4 w.heap.size) { mm with evs := es } xs mv tv ev' := by
  have ho : ∀ k, k < w.heap.size → retag own ev' 4 w.heap.size k = own k := fun k hk => retag_old hk
  have hk : ∀ g, own g ≠ 1 → own g ≠ 4 → g < w.heap.size → w'.heap[g]? = w.heap[g]? := fun g h1 h4 hl => hc.block g hl fun e => by
    rcases e with e | e
    · exact h1 (by rw [e]; exact h.bT.2)
    · exact h4 (h.evsT g e)
  exact ⟨hb, ⟨h.bT.1, by rw [ho _ h.lt]; exact h.bT.2⟩, ownRow_keep h.mem fun g hg hl => hk g (by rw [h.memT g hg]; decide) (by rw [h.memT g hg]; decide) hl, fun g hg => by rw [ho _ (rowLt h.mem hg).2]; exact h.memT g hg,
    ownRow_keep h.ths fun g hg hl => hk g (by rw [h.thsT g hg]; decide) (by rw [h.thsT g hg]; decide) hl, fun g hg => by rw [ho _ (rowLt h.ths hg).2]; exact h.thsT g hg, he, fun g hg => retag_new hf h.evsT hg, h.same,
    fun i z hz => (h.th i z hz).keep ho fun g hg hl => hk g (by omega) (by omega) hl, fun k hk' => retag_fresh (fun g hg => (rowLt he hg).2) (h.fresh k (by have := hc.size; omega)) hk'⟩
theorem MAt.told {tb cap : Nat} (h : MAt w base b own mm xs mv (.slice (some ⟨tb, 0, none⟩) xs.length cap) ev) {n : Nat} {x : TX} (hx : xs[n]? = some x) (os : List Int) (ov' : Value) (hc : Chg (fun k => x.ov.ownBlock = some k) w w')
    (he : w'.ownsRow base 2 1 ov' os.length (os.flatMap encI)) (hf : ∀ g, ov'.ownBlock = some g → x.ov.ownBlock = some g ∨ w.heap.size ≤ g) :
    MAt (w'.setCell ⟨tb, n * 13 + 11, none⟩ ov') base b (retag own ov' (7 + 3 * n) w.heap.size) (mm.put n { x.th with out := os }) (xs.set n { x with th := { x.th with out := os }, ov := ov' }) mv (.slice (some ⟨tb, 0, none⟩) (xs.set n { x with th := { x.th with out := os }, ov := ov' }).length cap) ev := by
  have ho : ∀ k, k < w.heap.size → retag own ov' (7 + 3 * n) w.heap.size k = own k := fun k hk => retag_old hk
  have hx7 := (h.th n x hx).outT
  have hk0 : ∀ g, own g ≠ 7 + 3 * n → g < w.heap.size → w'.heap[g]? = w.heap[g]? := fun g h1 hl => hc.block g hl fun e => h1 (hx7 g e)
  have hk : ∀ g, own g ≠ 3 → own g ≠ 7 + 3 * n → g < w.heap.size → (w'.setCell ⟨tb, n * 13 + 11, none⟩ ov').heap[g]? = w.heap[g]? := fun g h3 h7 hl => by
    rw [Below.heap_setCell _ _ _ _ fun e => h3 (by rw [e]; exact h.thsT tb rfl)]
    exact hk0 g h7 hl
  have htb : tb < w.heap.size := (rowLt h.ths rfl).2
  have hr := (rowSet (j := 11) (y := { x with th := { x.th with out := os }, ov := ov' }) (u := ov') encX_len (ownRow_keep h.ths fun g hg hl => hk0 g (by rw [h.thsT g hg]; omega) hl) hx rfl (by decide)).2
  have hntb : ∀ g, ov'.ownBlock = some g → g ≠ tb := fun g hg e => by
    rcases hf g hg with e' | e'
    · have := hx7 g e'; rw [e, h.thsT tb rfl] at this; omega
    · omega
  refine ⟨by rw [List.length_set]; exact (hk b (by rw [h.bT.2]; decide) (by rw [h.bT.2]; omega) h.lt).trans h.blk, ⟨h.bT.1, by rw [ho _ h.lt]; exact h.bT.2⟩, ownRow_keep h.mem fun g hg hl => hk g (by rw [h.memT g hg]; decide) (by rw [h.memT g hg]; omega) hl, fun g hg => by rw [ho _ (rowLt h.mem hg).2]; exact h.memT g hg,
    by rw [List.length_set]; exact hr, fun g hg => by rw [ho _ (rowLt h.ths hg).2]; exact h.thsT g hg, ownRow_keep h.evs fun g hg hl => hk g (by rw [h.evsT g hg]; decide) (by rw [h.evsT g hg]; omega) hl, fun g hg => by rw [ho _ (rowLt h.evs hg).2]; exact h.evsT g hg,
    by rw [MM.put, List.map_set, h.same], fun i z hz => ?_, fun k hk' => by rw [heapSize_setCell] at hk'; exact retag_fresh (fun g hg => (rowLt he hg).2) (h.fresh k (by have := hc.size; omega)) hk'⟩
  rw [List.getElem?_set] at hz
  split at hz
  · rename_i e
    subst e
    split at hz
    · cases hz
      have ht := h.th n x hx
      obtain ⟨c, f, hrg⟩ := ht.ring
      have htk := ht
      refine ⟨ht.code.keepN fun g hn hg hl => hk g (by rw [(ht.codeT g hn hg).2]; omega) (by rw [(ht.codeT g hn hg).2]; omega) hl, fun g hn hg => ?_, ⟨c, f, hrg.keep (hk _ (by rw [ht.ringT.2]; omega) (by rw [ht.ringT.2]; omega) hrg.lt)⟩,
        ⟨ht.ringT.1, by rw [ho _ hrg.lt]; exact ht.ringT.2⟩, ownRow_keep he fun g hg _ => Below.heap_setCell _ _ _ _ (hntb g hg), fun g hg => retag_new hf hx7 hg⟩
      refine ⟨(ht.codeT g hn hg).1, ?_⟩
      obtain ⟨h1, ao, cp, h2, h3, h4⟩ := ht.code
      obtain ⟨bb, off, rfl, hb, _⟩ := h4 (List.length_pos_iff.2 hn)
      rw [h2] at hg
      simp only [Value.ownBlock, Option.some.injEq] at hg
      subst hg
      rw [ho _ hb]
      exact (ht.codeT bb hn (by rw [h2]; rfl)).2
    · cases hz
  · rename_i hne
    exact (h.th i z hz).keep ho fun g hg hl => hk g (by omega) (by omega) hl
def MGoes (w : World) (base b : Nat) (own : Nat → Nat) (mm' : MM) (w' : World) : Prop :=
  (∃ own' xs mv tv ev, MAt w' base b own' mm' xs mv tv ev ∧ ∀ k, k < w.heap.size → own' k = own k) ∧ Chg (fun k => own k ≠ 0 ∧ ¬ (5 ≤ own k ∧ own k % 3 = 2)) w w'
end
section
variable {w w' : World} {base b : Nat} {own own' : Nat → Nat} {mm : MM} {xs : List TX} {mv tv ev : Value}
theorem of_yes {tb cap : Nat} (h : MAt w base b own mm xs mv (.slice (some ⟨tb, 0, none⟩) xs.length cap) ev) {n : Nat} {x : TX} (hx : xs[n]? = some x) :
    Calls Tryz.prog 227 #[.pointer (some ⟨b, 0, none⟩), .int .i64 (n : Int)] w fun r w' => r = .returned (.pointer (some ⟨tb, n * 13, none⟩)) ∧ w' = w := by
  have c0 := h.wcell 0 _ rfl
  have c2 := h.wcell 2 _ rfl
  have hn : n < xs.length := (List.getElem?_eq_some_iff.1 hx).1
  clear h hx
  go_enter Tryz.func227, Tryz.ntmps227
  go_wp2_with fail
  go_ret
  exact ⟨rfl, rfl⟩
theorem of_no (h : MAt w base b own mm xs mv tv ev) {z : Int} (hz : z < 0 ∨ xs.length ≤ z) :
    Calls Tryz.prog 227 #[.pointer (some ⟨b, 0, none⟩), .int .i64 z] w fun r w' => r = .returned (.pointer none) ∧ w' = w := by
  obtain ⟨ao, cp, rfl⟩ := ownsRow_shape h.ths
  have c0 := h.wcell 0 _ rfl
  have c2 := h.wcell 2 _ rfl
  clear h
  by_cases h0 : z < 0
  · go_enter Tryz.func227, Tryz.ntmps227
    go_wp2_with fail
    go_ret
    exact ⟨rfl, rfl⟩
  · have h1 : (xs.length : Int) ≤ z := by omega
    clear hz
    go_enter Tryz.func227, Tryz.ntmps227
    go_wp2_with fail
    go_ret
    exact ⟨rfl, rfl⟩
theorem there_in (h : MAt w base b own mm xs mv tv ev) {a : Int} (ha : 0 ≤ a ∧ a < mm.mem.length) (hl : mm.mem.length ≤ 262144) :
    Calls Tryz.prog 245 #[.pointer (some ⟨b, 0, none⟩), .int .i64 a] w fun r w' => r = .returned (.int .i64 a) ∧ w' = w := by
  obtain ⟨ao, cp, rfl⟩ := ownsRow_shape h.mem
  have c1 := h.wcell 1 _ rfl
  have e1 : IntKind.i64.wrap (mm.mem.length : Int) = mm.mem.length := IntWalk.i64_in _ (by omega)
  have e2 : IntKind.i64.wrap a = a := IntWalk.i64_in _ (by omega)
  clear h
  go_enter Tryz.func245, Tryz.ntmps245
  go_wp2_with fail
  go_ret
  exact ⟨rfl, rfl⟩
def tfault (k : Int) : PanicEntry := { v := .iface 365 (.int .u8 k), recovered := false }
theorem there_out (h : MAt w base b own mm xs mv tv ev) {a : Int} (ha : ¬ (0 ≤ a ∧ a < mm.mem.length)) (hl : mm.mem.length ≤ 262144) :
    Calls Tryz.prog 245 #[.pointer (some ⟨b, 0, none⟩), .int .i64 a] w fun r w' => r = .panicked [tfault 8] ∧ w' = w := by
  obtain ⟨ao, cp, rfl⟩ := ownsRow_shape h.mem
  have c1 := h.wcell 1 _ rfl
  have e1 : IntKind.i64.wrap (mm.mem.length : Int) = mm.mem.length := IntWalk.i64_in _ (by omega)
  clear h
  by_cases h0 : a < 0
  · clear ha
    go_enter Tryz.func245, Tryz.ntmps245
    go_wp2_with fail
    exact ⟨rfl, rfl, rfl⟩
  · have h1 : (mm.mem.length : Int) ≤ a := by omega
    clear ha
    go_enter Tryz.func245, Tryz.ntmps245
    go_wp2_with fail
    exact ⟨rfl, rfl, rfl⟩
theorem Chg.imp {S T : Nat → Prop} {a c : World} (h : Chg S a c) (hs : ∀ k, k < a.heap.size → S k → T k) : Chg T a c :=
  ⟨h.os, h.tape, h.output, h.size, fun k hk hn => h.block k hk fun hS => hn (hs k hk hS)⟩
theorem evInfo : (Tryz.prog.info? 181).map (fun i => (i.zero, i.size, i.bytes)) = some (some (.agg #[.int .i64 0, .int .u8 0, .int .i64 0, .int .i64 0]), 4, 32) := by kernel_rfl
theorem one_ev (x : Ev) : ∀ u ∈ encEv x, u.oneCell' = true := by
  intro u hu
  simp [encEv] at hu
  rcases hu with rfl | rfl | rfl | rfl <;> rfl
theorem run_equalIn_ptr {P : Program} {w : World} (d : Nat) (t e : TypeId) (tb o o' : Nat) (h : P.underlying t = some (.pointer e)) {i : TypeInfo} (hi : P.info? e = some i) (hs : i.size ≠ 0) :
    (Op.equalIn (d + 1) t (.pointer (some ⟨tb, o, none⟩)) (.pointer (some ⟨tb, o', none⟩))).run P w = .ok (decide (o = o')) w := by
  have h3 : ((⟨tb, o, none⟩ : Addr) == ⟨tb, o', none⟩) = decide (o = o') := by
    rw [Bool.eq_iff_iff]
    simp
  simp [Op.equalIn, run_underlying h, sizeOf, typeInfo, hi, hs, sameAddr, h3]
theorem thInfo : (Tryz.prog.info? 361).map (·.size) = some 13 := by kernel_rfl
theorem ptr_eq (w : World) (tb o o' : Nat) : Sem.run Tryz.prog (binOp BinOp.eql 363 (.pointer (some ⟨tb, o, none⟩)) (.pointer (some ⟨tb, o', none⟩))) w = .ok (.bool (decide (o = o'))) w := by
  obtain ⟨i, hi, hs⟩ : ∃ i, Tryz.prog.info? 361 = some i ∧ i.size = 13 := by
    have := thInfo
    cases hq : Tryz.prog.info? 361 with
    | none => rw [hq] at this; cases this
    | some i => rw [hq] at this; exact ⟨i, rfl, by simpa using this⟩
  have := run_equalIn_ptr (P := Tryz.prog) (w := w) 9999 363 361 tb o o' Tryz.underlying363 hi (by omega)
  simp [binOp, Op.equal, Op.maxDepth, this]
def EvPost (base b : Nat) (own : Nat → Nat) (mm : MM) (xs : List TX) (mv tv : Value) (w w' : World) : Prop :=
  (∃ own' ev', MAt w' base b own' mm xs mv tv ev' ∧ ∀ k, k < w.heap.size → own' k = own k) ∧ Chg (fun k => own k = 1 ∨ own k = 4) w w'
theorem event_any {tb cap : Nat} (h : MAt w base b own mm xs mv (.slice (some ⟨tb, 0, none⟩) xs.length cap) ev) {n : Nat} {x : TX} (hx : xs[n]? = some x) (hlen : mm.evs.length < 1000000000) (h4 : xs.length ≤ 4) (k : Int) (a c : Int) :
    Calls Tryz.prog 229 #[.pointer (some ⟨b, 0, none⟩), .pointer (some ⟨tb, n * 13, none⟩), .int .u8 k, .int .i64 a, .int .i64 c] w fun r w' => r = .returned (.tuple #[]) ∧ EvPost base b own (mm.tell n k a c) xs mv (.slice (some ⟨tb, 0, none⟩) xs.length cap) w w' := by
  have c2 := h.wcell 2 _ rfl
  have c3 := h.wcell 3 _ rfl
  have hn : n < xs.length := (List.getElem?_eq_some_iff.1 hx).1
  have H := hidI h
  have HX := hidI hx
  have HL := hidI hlen
  obtain ⟨i0, hi, hz0, hz1, hz2⟩ := info_parts evInfo
  have HI := hidI hi
  have HZ0 := hidI hz0
  have HZ1 := hidI hz1
  have HZ2 := hidI hz2
  clear h hx hlen hi hz0 hz1 hz2
  go_enter Tryz.func229, Tryz.ntmps229
  go_wp2_with fail
  go_loopw [16] (fun i w' => ∃ q : Nat, q ≤ xs.length ∧ i = .int .i64 (q : Int) ∧ (q ≤ n ∧ w' = w ∨ n < q ∧ Hid (EvPost base b own (mm.tell n k a c) xs mv (.slice (some ⟨tb, 0, none⟩) xs.length cap) w w'))) (fun i _ => ((xs.length : Int) - intOf i).toNat)
  case atStart => exact ⟨0, by omega, rfl, .inl ⟨by omega, rfl⟩⟩
  case round =>
    obtain ⟨q, hq, rfl, hw⟩ := hrel
    by_cases hlt : q < xs.length
    · rcases hw with ⟨hqn, rfl⟩ | ⟨hqn, HE⟩
      · by_cases he : q = n
        · subst he
          have hp := fun w => (ptr_eq w tb (q * 13) (q * 13)).trans (by rw [decide_eq_true rfl])
          have hi := HI.out
          have hz0 := HZ0.out
          have hz1 := HZ1.out
          have hz2 := HZ2.out
          go_wp2_with (at_builtin; refine wpList_append_d _ rfl _ _ 135 rfl base 181 i0 _ 4 32 Tryz.underlying135 hi hz0 hz1 hz2 rfl (by decide) _ _ _ rfl (ownsRow_chg H.out.evs ((Chg.refl (fun _ => False) wr).alloc _) (fun _ _ => id)) ⟨wr.heap.size, 0, none⟩ 1 1 (encEv ⟨q, k, a, c⟩) rfl rfl ?c1 ?c2 ?c3 ?c4 ?c5 ?_)
          case c1 => first | exact news_at (block_new _ _) | exact fun j u h => h
          case c2 => exact one_ev _
          case c3 => have := HL.out; unfold maxLen; omega
          case c4 => have := HL.out; omega
          case c5 => have := H.out.base_le; simp; omega
          intro ao cp w1 hown hfrom hgrown
          have hc := Chg.grown (S := fun k => ev.ownBlock = some k) ((Chg.refl _ wr).alloc (.cells (encEv ⟨q, k, a, c⟩).toArray 181)) hgrown (fun k hk => .inl hk)
          have hb1 := chgblk hc H.out.blk (fun hk => by have h1 := H.out.evsT _ hk; rw [H.out.bT.2] at h1; exact absurd h1 (by decide))
          have f1 := free_of_block (o := 3) hb1
          have f2 : w1.cell? ⟨b, 3, none⟩ = some ev := cell_of_block hb1 rfl
          have HB := hidI hb1
          have HC := hidI hc
          have HO := hidI hown
          have HF := hidI hfrom
          clear hb1 hc hown hfrom hgrown hi hz0 hz1 hz2 hp
          go_wp2_with fail
          have hset := block_setCell (o := 3) (.slice ao (mm.evs.length + 1) cp) HB.out
          have hne : ∀ g, (Value.slice ao (mm.evs.length + 1) cp).ownBlock = some g → ev.ownBlock = some g ∨ wr.heap.size ≤ g := fun g hg => by
            rcases HF.out g hg with e | e
            · exact .inl e
            · exact .inr (by omega)
          have hchg : Chg (fun k => k = b ∨ ev.ownBlock = some k) wr (w1.setCell ⟨b, 3, none⟩ (.slice ao (mm.evs.length + 1) cp)) :=
            (Chg.then_ (S := fun k => k = b ∨ ev.ownBlock = some k) (Chg.refl _ wr) HC.out (fun k _ hk => .inr hk)).setCell (p := ⟨b, 3, none⟩) (.inl (.inl rfl)) _
          have hm := H.out.event (mm.evs ++ [⟨q, k, a, c⟩]) (.slice ao (mm.evs.length + 1) cp) hchg hset (by
            rw [List.length_append, flat_snoc]
            exact ownRow_keep HO.out fun g hg hlt => Below.heap_setCell _ _ _ _ (fun e => by
              rcases hne g hg with h1 | h1
              · have h2 := H.out.evsT _ h1; rw [e, H.out.bT.2] at h2; exact absurd h2 (by decide)
              · have := H.out.lt; simp only at e; omega)) hne
          have HE : EvPost base b own (mm.tell q k a c) xs mv (.slice (some ⟨tb, 0, none⟩) xs.length cap) wr (w1.setCell ⟨b, 3, none⟩ (.slice ao (mm.evs.length + 1) cp)) :=
            ⟨⟨_, _, hm, fun k hk => retag_old hk⟩, hchg.imp fun k _ hk => by
              rcases hk with rfl | hk
              · exact .inl H.out.bT.2
              · exact .inr (H.out.evsT k hk)⟩
          exact ⟨⟨q + 1, by omega, by go_num, .inr ⟨by omega, hidI HE⟩⟩, by simp [intOf]; omega⟩
        · have hp := fun w => (ptr_eq w tb (q * 13) (n * 13)).trans (by rw [decide_eq_false (show ¬ q * 13 = n * 13 by omega)])
          go_wp2_with fail
          exact ⟨⟨q + 1, by omega, by go_num, .inl ⟨by omega, trivial⟩⟩, by simp [intOf]; omega⟩
      · have hp := fun w => (ptr_eq w tb (q * 13) (n * 13)).trans (by rw [decide_eq_false (show ¬ q * 13 = n * 13 by omega)])
        obtain ⟨⟨own', ev', hm, ho⟩, hc⟩ := HE.out
        have d2 := hm.wcell 2 _ rfl
        clear hm ho hc
        go_wp2_with fail
        exact ⟨⟨q + 1, by omega, by go_num, .inr ⟨by omega, HE⟩⟩, by simp [intOf]; omega⟩
    · obtain rfl : q = xs.length := by omega
      rcases hw with ⟨hqn, rfl⟩ | ⟨hqn, HE⟩
      · omega
      · go_wp2_with fail
        go_end0
        exact ⟨rfl, HE.out⟩
end
end Go.Proofs.YtgodmogkhgilmaaGreatDoor

import Derived.Test.YtopdcjimpdalpaaGreatQ11
namespace Go.Proofs.YtopdcjimpdalpaaGreat
open Go.RowKit Go.Maps
set_option linter.all false
set_option maxHeartbeats 4000000
set_option maxRecDepth 100000
variable {w w' w1 w2:World} {own dG jA:Nat->Prop} {bc k br:Nat} {tv:Value} {t:dw}
structure Sq (dK:Nat->Prop) (w0:World) (br bc:Nat) (tv:Value) (t:dw) (c0:Cd) (ls:List Nat) (ks:List (Nat×Obj)) (w:World) (own:Nat->Prop) (c:Cd) (k:Nat):Prop where
 tx:dS w own br bc tv t c k
 turn:mh dK w0 own w
 lab:c0.aI.length<=c.aI.length
 live:∀l∈ls,l<c.aI.length
 keep:∀p∈ks,lG w own p.1 p.2
def Jt (dK:Nat->Prop) (w0:World) (br bc:Nat) (tv:Value) (t:dw) (c0:Cd) (ls:List Nat) (ks:List (Nat×Obj)) (c:Cd) (k:Nat) (e:Ending) (w:World):Prop:=
 e= .returned (.tuple #[])/\∃own,Hid (Sq dK w0 br bc tv t c0 ls ks w own c k)
variable {dK:Nat->Prop} {w0:World} {c0 c c':Cd} {ls:List Nat} {ks:List (Nat×Obj)} {k':Nat}
theorem Sq.start (h:dS w own br bc tv t c0 k):Sq own w br bc tv t c0 [] [] w own c0 k:=⟨h,mh.refl own w,aR _,fun l h=>(by cases h),fun p h=>(by cases h)⟩
theorem Sq.OI (S:Sq dK w0 br bc tv t c0 ls ks w own c k) {l:Nat} (h:l<c.aI.length):Sq dK w0 br bc tv t c0 (l::ls) ks w own c k:=
 ⟨S.tx,S.turn,S.lab,fun x hx=>(by rcases List.mem_cons.1 hx with rfl|hx;exact h;exact S.live x hx),S.keep⟩
theorem Sq.kp (S:Sq dK w0 br bc tv t c0 ls ks w own c k) {b:Nat} {x:Obj} (h:lG w own b x):Sq dK w0 br bc tv t c0 ls ((b,x)::ks) w own c k:=
 ⟨S.tx,S.turn,S.lab,S.live,fun p hp=>(by rcases List.mem_cons.1 hp with rfl|hp;exact h;exact S.keep p hp)⟩
theorem Sq.drew (S:Sq dK w0 br bc tv t c0 ls ks w own c k):Sq dK w0 br bc tv t c0 ls ks w.drew own c k:=⟨S.tx.drew,S.turn.drew,S.lab,S.live,fun p hp=>(S.keep p hp).drew⟩
theorem Sq.below (S:Sq dK w0 br bc tv t c0 ls ks w own c k) (hb:Below w.heap.size w w'):Sq dK w0 br bc tv t c0 ls ks w' own c k:=⟨S.tx.below hb,S.turn.below hb,S.lab,S.live,fun p hp=>(S.keep p hp).below hb⟩
theorem Sq.alloc (S:Sq dK w0 br bc tv t c0 ls ks w own c k) (o:Obj):Sq dK w0 br bc tv t c0 ls ks (w.alloc o) own c k:=⟨S.tx.alloc o,S.turn.alloc o,S.lab,S.live,fun p hp=>(S.keep p hp).alloc o⟩
theorem Sq.box (S:Sq dK w0 br bc tv t c0 ls ks w own c k) (o:Obj):Sq dK w0 br bc tv t c0 ls ((w.heap.size,o)::ks) (w.alloc o) own c k:=(S.alloc o).kp (lG.new S.tx.code o)
theorem Sq.more (S:Sq dK w0 br bc tv t c0 ls ks w own c k) (h:k<=k'):Sq dK w0 br bc tv t c0 ls ks w own c k':=⟨S.tx.more h,S.turn,S.lab,S.live,S.keep⟩
theorem Sq.next (S:Sq dK w0 br bc tv t c0 ls ks w own c k) (h:dS w1 dG br bc tv t c' k') (r2:mh own w dG w1) (r3:c.aI.length<=c'.aI.length):Sq dK w0 br bc tv t c0 ls ks w1 dG c' k':=
 ⟨h,S.turn.trans r2,Nat.le_trans S.lab r3,fun l hl=>Nat.lt_of_lt_of_le (S.live l hl) r3,fun p hp=>(S.keep p hp).turn r2⟩
theorem Sq.k0 {b:Nat} {v:Value} {T:TypeId} (S:Sq dK w0 br bc tv t c0 ls ((b,.cells #[v] T (0,0))::ks) w own c k):w.cell? ⟨b,0,none⟩=some v:=by
 have h:w.heap[b]? =some (.cells #[v] T (0,0)):=(S.keep (b,.cells #[v] T (0,0)) (.head _)).blk;exact af h rfl
theorem Sq.k1 {b:Nat} {v:Value} {T:TypeId} {x:Nat×Obj} (S:Sq dK w0 br bc tv t c0 ls (x::(b,.cells #[v] T (0,0))::ks) w own c k):w.cell? ⟨b,0,none⟩=some v:=by
 have h:w.heap[b]? =some (.cells #[v] T (0,0)):=(S.keep (b,.cells #[v] T (0,0)) (.tail _ (.head _))).blk;exact af h rfl
theorem Sq.ut (S:Sq dK w0 br bc tv t c0 ls ks w own c k) {f:Nat} {a:Array Value} (h:Calls Tryz.prog f a w (w_ own w br bc tv t c c' k')):Calls Tryz.prog f a w (Jt dK w0 br bc tv t c0 ls ks c' k'):=
 h.mono fun e w1 ⟨he,dG,r1,r2,r3⟩=>⟨he,dG,ag (S.next r1 r2 r3)⟩
theorem Sq.uc (S:Sq dK w0 br bc tv t c0 ls ks w own c k) {f:Nat} {a:Array Value} (h:Calls Tryz.prog f a w (Ey own w bc c c' k' (.tuple #[]))):Calls Tryz.prog f a w (Jt dK w0 br bc tv t c0 ls ks c' k'):=
 S.ut (h.mono fun e w1 he=>he.tx S.tx)
theorem Sq.label (S:Sq dK w0 br bc tv t c0 ls ks w own c k) (hk:k<=1099511627776):Calls Tryz.prog 85 #[.pointer (some ⟨bc,0,none⟩)] w fun e w'=>
  ∃(l:Nat) (own':Nat->Prop),e= .returned (.int .i64 (l:Int))/\Hid (c.aI.length=l)/\Hid (Sq dK w0 br bc tv t c0 (l::ls) ks w' own' c.label (k+1)):=
 (Oh S.tx.code hk).mono fun e w1 ⟨he,dG,r1,r2,r3⟩=>⟨c.aI.length,dG,he,ag rfl,ag ((S.next (S.tx.next r1 r2) r2 r3).OI (by simp[Cd.label]))⟩
theorem Sq.set (S:Sq dK w0 br bc tv t c0 ls ks w own c k) (r n:Int):Calls Tryz.prog 83 #[.pointer (some ⟨bc,0,none⟩),.int .u8 r,.int .i64 n] w (Jt dK w0 br bc tv t c0 ls ks (c.set r n) k):=S.uc (EL S.tx.code r n)
theorem Sq.move (S:Sq dK w0 br bc tv t c0 ls ks w own c k) (a b:Int):Calls Tryz.prog 125 #[.pointer (some ⟨bc,0,none⟩),.int .u8 a,.int .u8 b] w (Jt dK w0 br bc tv t c0 ls ks (c.move a b) k):=S.uc (Kl S.tx.code a b)
theorem Sq.calc (S:Sq dK w0 br bc tv t c0 ls ks w own c k) (q a b:Int):Calls Tryz.prog 120 #[.pointer (some ⟨bc,0,none⟩),.int .u8 q,.int .u8 a,.int .u8 b] w (Jt dK w0 br bc tv t c0 ls ks (c.calc q a b) k):=S.uc (CZ S.tx.code q a b)
theorem Sq.with_ (S:Sq dK w0 br bc tv t c0 ls ks w own c k) (q a n r:Int):Calls Tryz.prog 121 #[.pointer (some ⟨bc,0,none⟩),.int .u8 q,.int .u8 a,.int .i64 n,.int .u8 r] w (Jt dK w0 br bc tv t c0 ls ks (c.with_ q a n r) k):=S.uc (LH S.tx.code q a n r)
theorem Sq.load (S:Sq dK w0 br bc tv t c0 ls ks w own c k) (a b n:Int):Calls Tryz.prog 91 #[.pointer (some ⟨bc,0,none⟩),.int .u8 a,.int .u8 b,.int .i64 n] w (Jt dK w0 br bc tv t c0 ls ks (c.load a b n) k):=S.uc (Ce S.tx.code a b n)
theorem Sq.store (S:Sq dK w0 br bc tv t c0 ls ks w own c k) (a n b:Int):Calls Tryz.prog 88 #[.pointer (some ⟨bc,0,none⟩),.int .u8 a,.int .i64 n,.int .u8 b] w (Jt dK w0 br bc tv t c0 ls ks (c.store a n b) k):=S.uc (Av S.tx.code a n b)
theorem Sq.note (S:Sq dK w0 br bc tv t c0 ls ks w own c k) (x a b:Int) (hx:0<=x/\x<256):Calls Tryz.prog 129 #[.pointer (some ⟨bc,0,none⟩),.int .u8 x,.int .u8 a,.int .u8 b] w (Jt dK w0 br bc tv t c0 ls ks (c.note x a b) k):=S.uc (LB S.tx.code x a b hx)
theorem Sq.trap (S:Sq dK w0 br bc tv t c0 ls ks w own c k) (x:Int) (hx:0<=x/\x<256):Calls Tryz.prog 127 #[.pointer (some ⟨bc,0,none⟩),.int .u8 x] w (Jt dK w0 br bc tv t c0 ls ks (c.trap x) k):=S.uc (L_ S.tx.code x hx)
theorem Sq.out (S:Sq dK w0 br bc tv t c0 ls ks w own c k) (r:Int):Calls Tryz.prog 92 #[.pointer (some ⟨bc,0,none⟩),.int .u8 r] w (Jt dK w0 br bc tv t c0 ls ks (c.out r) k):=S.uc (Qa S.tx.code r)
theorem Sq.jump (S:Sq dK w0 br bc tv t c0 ls ks w own c k) (l:Nat) (hl:l∈ls) (hk:k<=1099511627776):Calls Tryz.prog 93 #[.pointer (some ⟨bc,0,none⟩),.int .i64 (l:Int)] w (Jt dK w0 br bc tv t c0 ls ks (c.jump l) (k+1)):=S.uc (S_ S.tx.code (S.live l hl) hk)
theorem Sq.zero (S:Sq dK w0 br bc tv t c0 ls ks w own c k) (r:Int) (l:Nat) (hl:l∈ls) (hk:k<=1099511627776):Calls Tryz.prog 123 #[.pointer (some ⟨bc,0,none⟩),.int .u8 r,.int .i64 (l:Int)] w (Jt dK w0 br bc tv t c0 ls ks (c.zero r l) (k+1)):=S.uc (Rw S.tx.code r (S.live l hl) hk)
theorem Sq.here (S:Sq dK w0 br bc tv t c0 ls ks w own c k) (l:Nat) (hl:l∈ls):Calls Tryz.prog 86 #[.pointer (some ⟨bc,0,none⟩),.int .i64 (l:Int)] w (Jt dK w0 br bc tv t c0 ls ks (c.here l) k):=S.uc (Uf S.tx.code (S.live l hl))
theorem Sq.Q6 (S:Sq dK w0 br bc tv t c0 ls ks w own c k) (o:bM):Calls Tryz.prog 95 #[.pointer (some ⟨bc,0,none⟩),.agg #[.int .u8 o.kind,.int .u8 o.bn,.int .u8 o.a,.int .u8 o.b,.int .u8 o.c,.int .i64 o.n]] w (Jt dK w0 br bc tv t c0 ls ks (c.put o) k):=S.uc (mJ S.tx.code o)
theorem Sq.get (S:Sq dK w0 br bc tv t c0 ls ks w own c k) (ok:eO t) (r a:Int) (ha:0<=a/\a<=262144):Calls Tryz.prog 117 #[.pointer (some ⟨br,0,none⟩),.int .u8 r,.int .i64 a] w (Jt dK w0 br bc tv t c0 ls ks (c.get t r a) k):=S.ut (OY S.tx ok r a ha)
theorem Sq.pO (S:Sq dK w0 br bc tv t c0 ls ks w own c k) (ok:eO t) (a r:Int) (ha:0<=a/\a<=262144):Calls Tryz.prog 84 #[.pointer (some ⟨br,0,none⟩),.int .i64 a,.int .u8 r] w (Jt dK w0 br bc tv t c0 ls ks (c.pO t a r) k):=S.ut (NS S.tx ok a r ha)
def Cd.search (t:dw) (found:Nat) (c0:Cd):Cd:=
 let loop:=c0.aI.length
 let c1:=c0.label
 let miss:=c1.aI.length
 let c2:=c1.label
 let c3:=c2.get t 3 2
 let c4:=c3.here loop
 let c5:=c4.zero 3 miss
 let c6:=c5.with_ 2 3 1 4
 let c7:=c6.move 5 3
 let c8:=c7.calc 1 5 5
 let c9:=c8.with_ 1 5 t.log 4
 let c10:=c9.load 6 5 0
 let c11:=c10.calc 2 6 1
 let c12:=c11.zero 6 found
 let c13:=c12.jump loop
 let c14:=c13.here miss
 c14
theorem yD {c0:Cd} {found:Nat} (h:dS w own br bc tv t c0 k) (ok:eO t) (MO:found<c0.aI.length) (hk:k<=1099511000000):
  Calls Tryz.prog 161 #[.pointer (some ⟨br,0,none⟩),.int .i64 (found:Int)] w (w_ own w br bc tv t c0 (c0.search t found) (k+5)):=by
 have OK:=ag ok;have HK:=ag hk;have S:=ag ((Sq.start h).OI MO);have x0:=S.out.tx.x0;have x5:=S.out.tx.x5;clear h ok hk MO;go_in;go_wp2_with fail;have S0:=ag S.out.drew;clear S;go_region_held3 (fun w'=>w'.cell? ⟨br,0,none⟩=some (.pointer (some ⟨bc,0,none⟩))) (first|assumption|simp only[World.cell?_drew, *]) (first
  |(go_at_call 85;refine(S1.out.label (by have:=HK.out;omega)).mono ?_;clear S1 x0 x5;rintro e u ⟨miss,o,rfl,aaj,S2⟩;have x0:=S2.out.tx.x0;have x5:=S2.out.tx.x5)
  |(go_at_call 85;refine(S0.out.label (by have:=HK.out;omega)).mono ?_;clear S0 x0 x5;rintro e u ⟨loop,o,rfl,qm,S1⟩;have x0:=S1.out.tx.x0;have x5:=S1.out.tx.x5)
  )
 have S:=S2;clear S2;go_wp2_with fail;refine(S.out.get OK.out 3 2 (by decide)).mono ?_;clear S x0 x5;rintro e u ⟨rfl,o,S⟩;have x0:=S.out.tx.x0;have x5:=S.out.tx.x5;go_wp2_with fail;refine(S.out.here loop (by simp)).mono ?_;clear S x0 x5;rintro e u ⟨rfl,o,S⟩;have x0:=S.out.tx.x0;have x5:=S.out.tx.x5;go_wp2_with fail;refine(S.out.zero 3 miss (by simp) (by have:=HK.out;omega)).mono ?_;clear S x0 x5;rintro e u ⟨rfl,o,S⟩;have x0:=S.out.tx.x0;have x5:=S.out.tx.x5;go_wp2_with fail;refine(S.out.with_ 2 3 1 4).mono ?_;clear S x0 x5;rintro e u ⟨rfl,o,S⟩;have x0:=S.out.tx.x0;have x5:=S.out.tx.x5;go_wp2_with fail;refine(S.out.move 5 3).mono ?_;clear S x0 x5;rintro e u ⟨rfl,o,S⟩;have x0:=S.out.tx.x0;have x5:=S.out.tx.x5;go_wp2_with fail;refine(S.out.calc 1 5 5).mono ?_;clear S x0 x5;rintro e u ⟨rfl,o,S⟩;have x0:=S.out.tx.x0;have x5:=S.out.tx.x5;go_wp2_with fail;go_still_tail 9,(by kernel_rfl)
 go_wp2_with fail;refine(S.out.drew.with_ 1 5 t.log 4).mono ?_;clear S x0 x5;rintro e u ⟨rfl,o,S⟩;have x0:=S.out.tx.x0;have x5:=S.out.tx.x5;go_wp2_with fail;refine(S.out.load 6 5 0).mono ?_;clear S x0 x5;rintro e u ⟨rfl,o,S⟩;have x0:=S.out.tx.x0;have x5:=S.out.tx.x5;go_wp2_with fail;refine(S.out.calc 2 6 1).mono ?_;clear S x0 x5;rintro e u ⟨rfl,o,S⟩;have x0:=S.out.tx.x0;have x5:=S.out.tx.x5;go_wp2_with fail;refine(S.out.zero 6 found (by simp) (by have:=HK.out;omega)).mono ?_;clear S x0 x5;rintro e u ⟨rfl,o,S⟩;have x0:=S.out.tx.x0;have x5:=S.out.tx.x5;go_wp2_with fail;refine(S.out.jump loop (by simp) (by have:=HK.out;omega)).mono ?_;clear S x0 x5;rintro e u ⟨rfl,o,S⟩;have x0:=S.out.tx.x0;have x5:=S.out.tx.x5;go_wp2_with fail;refine(S.out.here miss (by simp)).mono ?_;clear S x0 x5;rintro e u ⟨rfl,o,S⟩;have x0:=S.out.tx.x0;have x5:=S.out.tx.x5;go_wp2_with fail;go_end0;cases aaj.out;cases qm.out;exact⟨rfl,_,S.out.tx,S.out.turn,S.out.lab⟩
def Cd.unless (t:dw) (r:Int) (l:Nat) (c0:Cd):Cd:=
 let on:=c0.aI.length
 let c1:=c0.label
 let c2:=c1.zero r on
 let c3:=c2.jump l
 let c4:=c3.here on
 c4
theorem iL {c0:Cd} {l:Nat} (h:dS w own br bc tv t c0 k) (ok:eO t) (r:Int) (hll:l<c0.aI.length) (hk:k<=1099511000000):
  Calls Tryz.prog 126 #[.pointer (some ⟨br,0,none⟩),.int .u8 r,.int .i64 (l:Int)] w (w_ own w br bc tv t c0 (c0.unless t r l) (k+3)):=by
 have OK:=ag ok;have HK:=ag hk;have S:=ag ((Sq.start h).OI hll);have x0:=S.out.tx.x0;clear h ok hk hll;go_in;go_wp2_with fail;refine(S.out.label (by have:=HK.out;omega)).mono ?_;clear S x0;rintro e u ⟨on,o,rfl,fon,S⟩;have x0:=S.out.tx.x0;go_wp2_with fail;refine(S.out.zero r on (by simp) (by have:=HK.out;omega)).mono ?_;clear S x0;rintro e u ⟨rfl,o,S⟩;have x0:=S.out.tx.x0;go_wp2_with fail;refine(S.out.jump l (by simp) (by have:=HK.out;omega)).mono ?_;clear S x0;rintro e u ⟨rfl,o,S⟩;have x0:=S.out.tx.x0;go_wp2_with fail;refine(S.out.here on (by simp)).mono ?_;clear S x0;rintro e u ⟨rfl,o,S⟩;have x0:=S.out.tx.x0;go_wp2_with fail;go_end0;cases fon.out;exact⟨rfl,_,S.out.tx,S.out.turn,S.out.lab⟩
end Go.Proofs.YtopdcjimpdalpaaGreat

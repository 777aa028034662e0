import Derived.Test.YtopdcjimpdalpaaGreatR11
namespace Go.Proofs.YtopdcjimpdalpaaGreat
open Go.RowKit Go.Maps
set_option linter.all false
set_option maxHeartbeats 4000000
set_option maxRecDepth 100000
variable {w w' w1 w2:World} {own dM jO:Nat->Prop} {bc k br:Nat} {tv:Value} {t:dI}
structure Sq (dS:Nat->Prop) (w0:World) (br bc:Nat) (tv:Value) (t:dI) (c0:Cd) (ls:List Nat) (ks:List (Nat×Obj)) (w:World) (own:Nat->Prop) (c:Cd) (k:Nat):Prop where
 tx:eG w own br bc tv t c k
 turn:nC dS w0 own w
 lab:c0.aO.length<=c.aO.length
 live:∀l∈ls,l<c.aO.length
 keep:∀p∈ks,mE w own p.1 p.2
def Kz (dS:Nat->Prop) (w0:World) (br bc:Nat) (tv:Value) (t:dI) (c0:Cd) (ls:List Nat) (ks:List (Nat×Obj)) (c:Cd) (k:Nat) (e:Ending) (w:World):Prop:=
 e= .returned (.tuple #[])/\∃own,Hid (Sq dS w0 br bc tv t c0 ls ks w own c k)
variable {dS:Nat->Prop} {w0:World} {c0 c c':Cd} {ls:List Nat} {ks:List (Nat×Obj)} {k':Nat}
theorem Sq.start (h:eG w own br bc tv t c0 k):Sq own w br bc tv t c0 [] [] w own c0 k:=⟨h,nC.refl own w,aB _,fun l h=>(by cases h),fun p h=>(by cases h)⟩
theorem Sq.Rp (S:Sq dS w0 br bc tv t c0 ls ks w own c k) {l:Nat} (h:l<c.aO.length):Sq dS w0 br bc tv t c0 (l::ls) ks w own c k:=
 ⟨S.tx,S.turn,S.lab,fun x hx=>(by rcases List.mem_cons.1 hx with rfl|hx;exact h;exact S.live x hx),S.keep⟩
theorem Sq.kp (S:Sq dS w0 br bc tv t c0 ls ks w own c k) {b:Nat} {x:Obj} (h:mE w own b x):Sq dS w0 br bc tv t c0 ls ((b,x)::ks) w own c k:=
 ⟨S.tx,S.turn,S.lab,S.live,fun p hp=>(by rcases List.mem_cons.1 hp with rfl|hp;exact h;exact S.keep p hp)⟩
theorem Sq.drew (S:Sq dS w0 br bc tv t c0 ls ks w own c k):Sq dS w0 br bc tv t c0 ls ks w.drew own c k:=⟨S.tx.drew,S.turn.drew,S.lab,S.live,fun p hp=>(S.keep p hp).drew⟩
theorem Sq.below (S:Sq dS w0 br bc tv t c0 ls ks w own c k) (hb:Below w.heap.size w w'):Sq dS w0 br bc tv t c0 ls ks w' own c k:=⟨S.tx.below hb,S.turn.below hb,S.lab,S.live,fun p hp=>(S.keep p hp).below hb⟩
theorem Sq.alloc (S:Sq dS w0 br bc tv t c0 ls ks w own c k) (o:Obj):Sq dS w0 br bc tv t c0 ls ks (w.alloc o) own c k:=⟨S.tx.alloc o,S.turn.alloc o,S.lab,S.live,fun p hp=>(S.keep p hp).alloc o⟩
theorem Sq.box (S:Sq dS w0 br bc tv t c0 ls ks w own c k) (o:Obj):Sq dS w0 br bc tv t c0 ls ((w.heap.size,o)::ks) (w.alloc o) own c k:=(S.alloc o).kp (mE.new S.tx.code o)
theorem Sq.more (S:Sq dS w0 br bc tv t c0 ls ks w own c k) (h:k<=k'):Sq dS w0 br bc tv t c0 ls ks w own c k':=⟨S.tx.more h,S.turn,S.lab,S.live,S.keep⟩
theorem Sq.next (S:Sq dS w0 br bc tv t c0 ls ks w own c k) (h:eG w1 dM br bc tv t c' k') (r2:nC own w dM w1) (r3:c.aO.length<=c'.aO.length):Sq dS w0 br bc tv t c0 ls ks w1 dM c' k':=
 ⟨h,S.turn.trans r2,Nat.le_trans S.lab r3,fun l hl=>Nat.lt_of_lt_of_le (S.live l hl) r3,fun p hp=>(S.keep p hp).turn r2⟩
theorem Sq.k0 {b:Nat} {v:Value} {T:TypeId} (S:Sq dS w0 br bc tv t c0 ls ((b,.cells #[v] T (0,0))::ks) w own c k):w.cell? ⟨b,0,none⟩=some v:=by
 have h:w.heap[b]? =some (.cells #[v] T (0,0)):=(S.keep (b,.cells #[v] T (0,0)) (.head _)).blk;exact af h rfl
theorem Sq.k1 {b:Nat} {v:Value} {T:TypeId} {x:Nat×Obj} (S:Sq dS w0 br bc tv t c0 ls (x::(b,.cells #[v] T (0,0))::ks) w own c k):w.cell? ⟨b,0,none⟩=some v:=by
 have h:w.heap[b]? =some (.cells #[v] T (0,0)):=(S.keep (b,.cells #[v] T (0,0)) (.tail _ (.head _))).blk;exact af h rfl
theorem Sq.ut (S:Sq dS w0 br bc tv t c0 ls ks w own c k) {f:Nat} {a:Array Value} (h:Calls Tryz.prog f a w (xP own w br bc tv t c c' k')):Calls Tryz.prog f a w (Kz dS w0 br bc tv t c0 ls ks c' k'):=
 h.mono fun e w1 ⟨he,dM,r1,r2,r3⟩=>⟨he,dM,ag (S.next r1 r2 r3)⟩
theorem Sq.uc (S:Sq dS w0 br bc tv t c0 ls ks w own c k) {f:Nat} {a:Array Value} (h:Calls Tryz.prog f a w (FM own w bc c c' k' (.tuple #[]))):Calls Tryz.prog f a w (Kz dS w0 br bc tv t c0 ls ks c' k'):=
 S.ut (h.mono fun e w1 he=>he.tx S.tx)
theorem Sq.label (S:Sq dS w0 br bc tv t c0 ls ks w own c k) (hk:k<=1099511627776):Calls Tryz.prog 85 #[.pointer (some ⟨bc,0,none⟩)] w fun e w'=>
  ∃(l:Nat) (own':Nat->Prop),e= .returned (.int .i64 (l:Int))/\Hid (c.aO.length=l)/\Hid (Sq dS w0 br bc tv t c0 (l::ls) ks w' own' c.label (k+1)):=
 (PT S.tx.code hk).mono fun e w1 ⟨he,dM,r1,r2,r3⟩=>⟨c.aO.length,dM,he,ag rfl,ag ((S.next (S.tx.next r1 r2) r2 r3).Rp (by simp[Cd.label]))⟩
theorem Sq.set (S:Sq dS w0 br bc tv t c0 ls ks w own c k) (r n:Int):Calls Tryz.prog 83 #[.pointer (some ⟨bc,0,none⟩),.int .u8 r,.int .i64 n] w (Kz dS w0 br bc tv t c0 ls ks (c.set r n) k):=S.uc (F9 S.tx.code r n)
theorem Sq.move (S:Sq dS w0 br bc tv t c0 ls ks w own c k) (a b:Int):Calls Tryz.prog 125 #[.pointer (some ⟨bc,0,none⟩),.int .u8 a,.int .u8 b] w (Kz dS w0 br bc tv t c0 ls ks (c.move a b) k):=S.uc (M4 S.tx.code a b)
theorem Sq.calc (S:Sq dS w0 br bc tv t c0 ls ks w own c k) (q a b:Int):Calls Tryz.prog 120 #[.pointer (some ⟨bc,0,none⟩),.int .u8 q,.int .u8 a,.int .u8 b] w (Kz dS w0 br bc tv t c0 ls ks (c.calc q a b) k):=S.uc (Ei S.tx.code q a b)
theorem Sq.with_ (S:Sq dS w0 br bc tv t c0 ls ks w own c k) (q a n r:Int):Calls Tryz.prog 121 #[.pointer (some ⟨bc,0,none⟩),.int .u8 q,.int .u8 a,.int .i64 n,.int .u8 r] w (Kz dS w0 br bc tv t c0 ls ks (c.with_ q a n r) k):=S.uc (LJ S.tx.code q a n r)
theorem Sq.load (S:Sq dS w0 br bc tv t c0 ls ks w own c k) (a b n:Int):Calls Tryz.prog 91 #[.pointer (some ⟨bc,0,none⟩),.int .u8 a,.int .u8 b,.int .i64 n] w (Kz dS w0 br bc tv t c0 ls ks (c.load a b n) k):=S.uc (DK S.tx.code a b n)
theorem Sq.store (S:Sq dS w0 br bc tv t c0 ls ks w own c k) (a n b:Int):Calls Tryz.prog 88 #[.pointer (some ⟨bc,0,none⟩),.int .u8 a,.int .i64 n,.int .u8 b] w (Kz dS w0 br bc tv t c0 ls ks (c.store a n b) k):=S.uc (Bz S.tx.code a n b)
theorem Sq.note (S:Sq dS w0 br bc tv t c0 ls ks w own c k) (x a b:Int) (hx:0<=x/\x<256):Calls Tryz.prog 129 #[.pointer (some ⟨bc,0,none⟩),.int .u8 x,.int .u8 a,.int .u8 b] w (Kz dS w0 br bc tv t c0 ls ks (c.note x a b) k):=S.uc (Ma S.tx.code x a b hx)
theorem Sq.trap (S:Sq dS w0 br bc tv t c0 ls ks w own c k) (x:Int) (hx:0<=x/\x<256):Calls Tryz.prog 127 #[.pointer (some ⟨bc,0,none⟩),.int .u8 x] w (Kz dS w0 br bc tv t c0 ls ks (c.trap x) k):=S.uc (LP S.tx.code x hx)
theorem Sq.out (S:Sq dS w0 br bc tv t c0 ls ks w own c k) (r:Int):Calls Tryz.prog 92 #[.pointer (some ⟨bc,0,none⟩),.int .u8 r] w (Kz dS w0 br bc tv t c0 ls ks (c.out r) k):=S.uc (PW S.tx.code r)
theorem Sq.jump (S:Sq dS w0 br bc tv t c0 ls ks w own c k) (l:Nat) (hl:l∈ls) (hk:k<=1099511627776):Calls Tryz.prog 93 #[.pointer (some ⟨bc,0,none⟩),.int .i64 (l:Int)] w (Kz dS w0 br bc tv t c0 ls ks (c.jump l) (k+1)):=S.uc (Uu S.tx.code (S.live l hl) hk)
theorem Sq.zero (S:Sq dS w0 br bc tv t c0 ls ks w own c k) (r:Int) (l:Nat) (hl:l∈ls) (hk:k<=1099511627776):Calls Tryz.prog 123 #[.pointer (some ⟨bc,0,none⟩),.int .u8 r,.int .i64 (l:Int)] w (Kz dS w0 br bc tv t c0 ls ks (c.zero r l) (k+1)):=S.uc (Vt S.tx.code r (S.live l hl) hk)
theorem Sq.here (S:Sq dS w0 br bc tv t c0 ls ks w own c k) (l:Nat) (hl:l∈ls):Calls Tryz.prog 86 #[.pointer (some ⟨bc,0,none⟩),.int .i64 (l:Int)] w (Kz dS w0 br bc tv t c0 ls ks (c.here l) k):=S.uc (V_ S.tx.code (S.live l hl))
theorem Sq.VM (S:Sq dS w0 br bc tv t c0 ls ks w own c k) (o:bR):Calls Tryz.prog 95 #[.pointer (some ⟨bc,0,none⟩),.agg #[.int .u8 o.kind,.int .u8 o.bD,.int .u8 o.a,.int .u8 o.b,.int .u8 o.c,.int .i64 o.n]] w (Kz dS w0 br bc tv t c0 ls ks (c.put o) k):=S.uc (nE S.tx.code o)
theorem Sq.get (S:Sq dS w0 br bc tv t c0 ls ks w own c k) (ok:fD t) (r a:Int) (ha:0<=a/\a<=262144):Calls Tryz.prog 117 #[.pointer (some ⟨br,0,none⟩),.int .u8 r,.int .i64 a] w (Kz dS w0 br bc tv t c0 ls ks (c.get t r a) k):=S.ut (PY S.tx ok r a ha)
theorem Sq.qC (S:Sq dS w0 br bc tv t c0 ls ks w own c k) (ok:fD t) (a r:Int) (ha:0<=a/\a<=262144):Calls Tryz.prog 84 #[.pointer (some ⟨br,0,none⟩),.int .i64 a,.int .u8 r] w (Kz dS w0 br bc tv t c0 ls ks (c.qC t a r) k):=S.ut (Qc S.tx ok a r ha)
def Cd.search (t:dI) (found:Nat) (c0:Cd):Cd:=
 let loop:=c0.aO.length
 let c1:=c0.label
 let miss:=c1.aO.length
 let c2:=c1.label
 let c3:=c2.get t 3 2
 let c4:=c3.here loop
 let c5:=c4.zero 3 miss
 let c6:=c5.with_ 2 3 1 4
 let c7:=c6.move 5 3
 let c8:=c7.calc 1 5 5
 let c9:=c8.with_ 1 5 t.log 4
 let c10:=c9.load 6 5 0
 let c11:=c10.calc 2 6 1
 let c12:=c11.zero 6 found
 let c13:=c12.jump loop
 let c14:=c13.here miss
 c14
theorem zT {c0:Cd} {found:Nat} (h:eG w own br bc tv t c0 k) (ok:fD t) (Pv:found<c0.aO.length) (hk:k<=1099511000000):
  Calls Tryz.prog 161 #[.pointer (some ⟨br,0,none⟩),.int .i64 (found:Int)] w (xP own w br bc tv t c0 (c0.search t found) (k+5)):=by
 have OK:=ag ok;have HK:=ag hk;have S:=ag ((Sq.start h).Rp Pv);have x0:=S.out.tx.x0;have x5:=S.out.tx.x5;clear h ok hk Pv;go_in;go_wp2_with fail;have S0:=ag S.out.drew;clear S;go_region_held3 (fun w'=>w'.cell? ⟨br,0,none⟩=some (.pointer (some ⟨bc,0,none⟩))) (first|assumption|simp only[World.cell?_drew, *]) (first
  |(go_at_call 85;refine(S1.out.label (by have:=HK.out;omega)).mono ?_;clear S1 x0 x5;rintro e u ⟨miss,o,rfl,adH,S2⟩;have x0:=S2.out.tx.x0;have x5:=S2.out.tx.x5)
  |(go_at_call 85;refine(S0.out.label (by have:=HK.out;omega)).mono ?_;clear S0 x0 x5;rintro e u ⟨loop,o,rfl,rz,S1⟩;have x0:=S1.out.tx.x0;have x5:=S1.out.tx.x5)
  )
 have S:=S2;clear S2;go_wp2_with fail;refine(S.out.get OK.out 3 2 (by decide)).mono ?_;clear S x0 x5;rintro e u ⟨rfl,o,S⟩;have x0:=S.out.tx.x0;have x5:=S.out.tx.x5;go_wp2_with fail;refine(S.out.here loop (by simp)).mono ?_;clear S x0 x5;rintro e u ⟨rfl,o,S⟩;have x0:=S.out.tx.x0;have x5:=S.out.tx.x5;go_wp2_with fail;refine(S.out.zero 3 miss (by simp) (by have:=HK.out;omega)).mono ?_;clear S x0 x5;rintro e u ⟨rfl,o,S⟩;have x0:=S.out.tx.x0;have x5:=S.out.tx.x5;go_wp2_with fail;refine(S.out.with_ 2 3 1 4).mono ?_;clear S x0 x5;rintro e u ⟨rfl,o,S⟩;have x0:=S.out.tx.x0;have x5:=S.out.tx.x5;go_wp2_with fail;refine(S.out.move 5 3).mono ?_;clear S x0 x5;rintro e u ⟨rfl,o,S⟩;have x0:=S.out.tx.x0;have x5:=S.out.tx.x5;go_wp2_with fail;refine(S.out.calc 1 5 5).mono ?_;clear S x0 x5;rintro e u ⟨rfl,o,S⟩;have x0:=S.out.tx.x0;have x5:=S.out.tx.x5;go_wp2_with fail;go_still_tail 9,(by kernel_rfl)
 go_wp2_with fail;refine(S.out.drew.with_ 1 5 t.log 4).mono ?_;clear S x0 x5;rintro e u ⟨rfl,o,S⟩;have x0:=S.out.tx.x0;have x5:=S.out.tx.x5;go_wp2_with fail;refine(S.out.load 6 5 0).mono ?_;clear S x0 x5;rintro e u ⟨rfl,o,S⟩;have x0:=S.out.tx.x0;have x5:=S.out.tx.x5;go_wp2_with fail;refine(S.out.calc 2 6 1).mono ?_;clear S x0 x5;rintro e u ⟨rfl,o,S⟩;have x0:=S.out.tx.x0;have x5:=S.out.tx.x5;go_wp2_with fail;refine(S.out.zero 6 found (by simp) (by have:=HK.out;omega)).mono ?_;clear S x0 x5;rintro e u ⟨rfl,o,S⟩;have x0:=S.out.tx.x0;have x5:=S.out.tx.x5;go_wp2_with fail;refine(S.out.jump loop (by simp) (by have:=HK.out;omega)).mono ?_;clear S x0 x5;rintro e u ⟨rfl,o,S⟩;have x0:=S.out.tx.x0;have x5:=S.out.tx.x5;go_wp2_with fail;refine(S.out.here miss (by simp)).mono ?_;clear S x0 x5;rintro e u ⟨rfl,o,S⟩;have x0:=S.out.tx.x0;have x5:=S.out.tx.x5;go_wp2_with fail;go_end0;cases adH.out;cases rz.out;exact⟨rfl,_,S.out.tx,S.out.turn,S.out.lab⟩
def Cd.unless (t:dI) (r:Int) (l:Nat) (c0:Cd):Cd:=
 let on:=c0.aO.length
 let c1:=c0.label
 let c2:=c1.zero r on
 let c3:=c2.jump l
 let c4:=c3.here on
 c4
theorem iZ {c0:Cd} {l:Nat} (h:eG w own br bc tv t c0 k) (ok:fD t) (r:Int) (hll:l<c0.aO.length) (hk:k<=1099511000000):
  Calls Tryz.prog 126 #[.pointer (some ⟨br,0,none⟩),.int .u8 r,.int .i64 (l:Int)] w (xP own w br bc tv t c0 (c0.unless t r l) (k+3)):=by
 have OK:=ag ok;have HK:=ag hk;have S:=ag ((Sq.start h).Rp hll);have x0:=S.out.tx.x0;clear h ok hk hll;go_in;go_wp2_with fail;refine(S.out.label (by have:=HK.out;omega)).mono ?_;clear S x0;rintro e u ⟨on,o,rfl,fon,S⟩;have x0:=S.out.tx.x0;go_wp2_with fail;refine(S.out.zero r on (by simp) (by have:=HK.out;omega)).mono ?_;clear S x0;rintro e u ⟨rfl,o,S⟩;have x0:=S.out.tx.x0;go_wp2_with fail;refine(S.out.jump l (by simp) (by have:=HK.out;omega)).mono ?_;clear S x0;rintro e u ⟨rfl,o,S⟩;have x0:=S.out.tx.x0;go_wp2_with fail;refine(S.out.here on (by simp)).mono ?_;clear S x0;rintro e u ⟨rfl,o,S⟩;have x0:=S.out.tx.x0;go_wp2_with fail;go_end0;cases fon.out;exact⟨rfl,_,S.out.tx,S.out.turn,S.out.lab⟩
end Go.Proofs.YtopdcjimpdalpaaGreat

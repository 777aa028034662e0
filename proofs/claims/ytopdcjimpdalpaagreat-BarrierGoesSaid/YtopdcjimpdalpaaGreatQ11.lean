import Derived.Test.YtopdcjimpdalpaaGreatQ10
namespace Go.Proofs.YtopdcjimpdalpaaGreat
open Go.RowKit Go.Maps
set_option linter.all false
set_option maxHeartbeats 1000000
set_option maxRecDepth 100000
variable {w w' w1 w2:World} {own dG jA:Nat->Prop} {bc k:Nat} {c:Cd}
def Cd.set (c:Cd) (r n:Int):Cd:=c.put ⟨1,0,r,0,0,n⟩
theorem EL (h:jG w own bc c k) (r n:Int):
  Calls Tryz.prog 83 #[.pointer (some ⟨bc,0,none⟩),.int .u8 r,.int .i64 n] w (Ey own w bc c (c.set r n) k (.tuple #[])):=by
 have H:=ag h;clear h;go_in;go_wp2_with fail;refine(mJ H.out ⟨1,0,r,0,0,n⟩).mono ?_;rintro e w1 ⟨rfl,dG,r1,r2,r3⟩;go_wp2_with fail;go_end0;exact⟨rfl,dG,r1,r2,r3⟩
def Cd.move (c:Cd) (a b:Int):Cd:=c.put ⟨2,0,a,b,0,0⟩
theorem Kl (h:jG w own bc c k) (a b:Int):
  Calls Tryz.prog 125 #[.pointer (some ⟨bc,0,none⟩),.int .u8 a,.int .u8 b] w (Ey own w bc c (c.move a b) k (.tuple #[])):=by
 have H:=ag h;clear h;go_in;go_wp2_with fail;refine(mJ H.out ⟨2,0,a,b,0,0⟩).mono ?_;rintro e w1 ⟨rfl,dG,r1,r2,r3⟩;go_wp2_with fail;go_end0;exact⟨rfl,dG,r1,r2,r3⟩
def Cd.calc (c:Cd) (q a b:Int):Cd:=c.put ⟨3,q,a,b,0,0⟩
theorem CZ (h:jG w own bc c k) (q a b:Int):
  Calls Tryz.prog 120 #[.pointer (some ⟨bc,0,none⟩),.int .u8 q,.int .u8 a,.int .u8 b] w (Ey own w bc c (c.calc q a b) k (.tuple #[])):=by
 have H:=ag h;clear h;go_in;go_wp2_with fail;refine(mJ H.out ⟨3,q,a,b,0,0⟩).mono ?_;rintro e w1 ⟨rfl,dG,r1,r2,r3⟩;go_wp2_with fail;go_end0;exact⟨rfl,dG,r1,r2,r3⟩
def Cd.load (c:Cd) (a b n:Int):Cd:=c.put ⟨4,0,a,b,0,n⟩
theorem Ce (h:jG w own bc c k) (a b n:Int):
  Calls Tryz.prog 91 #[.pointer (some ⟨bc,0,none⟩),.int .u8 a,.int .u8 b,.int .i64 n] w (Ey own w bc c (c.load a b n) k (.tuple #[])):=by
 have H:=ag h;clear h;go_in;go_wp2_with fail;refine(mJ H.out ⟨4,0,a,b,0,n⟩).mono ?_;rintro e w1 ⟨rfl,dG,r1,r2,r3⟩;go_wp2_with fail;go_end0;exact⟨rfl,dG,r1,r2,r3⟩
def Cd.store (c:Cd) (a n b:Int):Cd:=c.put ⟨5,0,a,b,0,n⟩
theorem Av (h:jG w own bc c k) (a n b:Int):
  Calls Tryz.prog 88 #[.pointer (some ⟨bc,0,none⟩),.int .u8 a,.int .i64 n,.int .u8 b] w (Ey own w bc c (c.store a n b) k (.tuple #[])):=by
 have H:=ag h;clear h;go_in;go_wp2_with fail;refine(mJ H.out ⟨5,0,a,b,0,n⟩).mono ?_;rintro e w1 ⟨rfl,dG,r1,r2,r3⟩;go_wp2_with fail;go_end0;exact⟨rfl,dG,r1,r2,r3⟩
def Cd.note (c:Cd) (k0 a b:Int):Cd:=c.put ⟨12,0,a,b,0,k0⟩
theorem LB (h:jG w own bc c k) (k0 a b:Int) (hk:0<=k0/\k0<256):
  Calls Tryz.prog 129 #[.pointer (some ⟨bc,0,none⟩),.int .u8 k0,.int .u8 a,.int .u8 b] w (Ey own w bc c (c.note k0 a b) k (.tuple #[])):=by
 have H:=ag h;have e1:IntKind.i64.wrap k0=k0:=IntWalk.i64_in _ (by omega);clear h;go_in;go_wp2_with fail;refine(mJ H.out ⟨12,0,a,b,0,k0⟩).mono ?_;rintro e w1 ⟨rfl,dG,r1,r2,r3⟩;go_wp2_with fail;go_end0;exact⟨rfl,dG,r1,r2,r3⟩
def Cd.trap (c:Cd) (k0:Int):Cd:=c.put ⟨13,0,0,0,0,k0⟩
theorem L_ (h:jG w own bc c k) (k0:Int) (hk:0<=k0/\k0<256):
  Calls Tryz.prog 127 #[.pointer (some ⟨bc,0,none⟩),.int .u8 k0] w (Ey own w bc c (c.trap k0) k (.tuple #[])):=by
 have H:=ag h;have e1:IntKind.i64.wrap k0=k0:=IntWalk.i64_in _ (by omega);clear h;go_in;go_wp2_with fail;refine(mJ H.out ⟨13,0,0,0,0,k0⟩).mono ?_;rintro e w1 ⟨rfl,dG,r1,r2,r3⟩;go_wp2_with fail;go_end0;exact⟨rfl,dG,r1,r2,r3⟩
def Cd.out (c:Cd) (r:Int):Cd:=c.put ⟨11,0,r,0,0,0⟩
theorem Qa (h:jG w own bc c k) (r:Int):
  Calls Tryz.prog 92 #[.pointer (some ⟨bc,0,none⟩),.int .u8 r] w (Ey own w bc c (c.out r) k (.tuple #[])):=by
 have H:=ag h;clear h;go_in;go_wp2_with fail;refine(mJ H.out ⟨11,0,r,0,0,0⟩).mono ?_;rintro e w1 ⟨rfl,dG,r1,r2,r3⟩;go_wp2_with fail;go_end0;exact⟨rfl,dG,r1,r2,r3⟩
def Cd.halt (c:Cd):Cd:=c.put ⟨14,0,0,0,0,0⟩
theorem K9 (h:jG w own bc c k):
  Calls Tryz.prog 57 #[.pointer (some ⟨bc,0,none⟩)] w (Ey own w bc c (c.halt) k (.tuple #[])):=by
 have H:=ag h;clear h;go_in;go_wp2_with fail;refine(mJ H.out ⟨14,0,0,0,0,0⟩).mono ?_;rintro e w1 ⟨rfl,dG,r1,r2,r3⟩;go_wp2_with fail;go_end0;exact⟨rfl,dG,r1,r2,r3⟩
def Cd.with_ (c:Cd) (q a n r:Int):Cd:=(c.set r n).calc q a r
theorem LH (h:jG w own bc c k) (q a n r:Int):
  Calls Tryz.prog 121 #[.pointer (some ⟨bc,0,none⟩),.int .u8 q,.int .u8 a,.int .i64 n,.int .u8 r] w (Ey own w bc c (c.with_ q a n r) k (.tuple #[])):=by
 have H:=ag h;clear h;go_in;go_wp2_with fail;refine(EL H.out r n).mono ?_;rintro e w1 ⟨rfl,dG,r1,r2,r3⟩;have HR1:=ag r1;have HR2:=ag r2;have HR3:=ag r3;clear r1 r2 r3;go_wp2_with fail;refine(CZ HR1.out q a r).mono ?_;rintro e w2 ⟨rfl,jA,r1,r2,r3⟩;go_wp2_with fail;go_end0;exact⟨rfl,jA,r1,HR2.out.trans r2,Nat.le_trans HR3.out r3⟩
structure dw where
 words:Int
 size:Int
 frame:Int
 log:Int
 prints:Int
 arena:Int
 en:Int
 base:Int
 th:Int
 sum:Int
def De (bc:Nat) (tv:Value) (t:dw):Array Value:=
 #[.pointer (some ⟨bc,0,none⟩),.int .i64 t.words,tv,.int .i64 t.size,.int .i64 t.frame,.int .i64 t.log,.int .i64 t.prints,.int .i64 t.arena,.int .i64 t.en,.int .i64 t.base,.int .i64 t.th,.int .i64 t.sum]
structure eO (t:dw):Prop where
 words:0<=t.words/\t.words<=262144
 log:0<=t.log/\t.log<=262144
 prints:0<=t.prints/\t.prints<=262144
 arena:0<=t.arena/\t.arena<=262144
 base:0<=t.base/\t.base<=262144
 th:0<=t.th/\t.th<=4
 sum:0<=t.sum/\t.sum<=262144
structure dS (w:World) (own:Nat->Prop) (br bc:Nat) (tv:Value) (t:dw) (c:Cd) (k:Nat):Prop where
 code:jG w own bc c k
 row:lG w own br (.cells (De bc tv t) 137 (0,0))
variable {br:Nat} {tv:Value} {t:dw}
theorem dS.next (h:dS w own br bc tv t c k) {c':Cd} {k':Nat} (hc:jG w1 dG bc c' k') (ht:mh own w dG w1):dS w1 dG br bc tv t c' k':=⟨hc,h.row.turn ht⟩
theorem dS.drew (h:dS w own br bc tv t c k):dS w.drew own br bc tv t c k:=⟨h.code.drew,h.row.drew⟩
theorem dS.alloc (h:dS w own br bc tv t c k) (o:Obj):dS (w.alloc o) own br bc tv t c k:=⟨h.code.alloc o,h.row.alloc o⟩
theorem dS.below (h:dS w own br bc tv t c k) (hb:Below w.heap.size w w'):dS w' own br bc tv t c k:=⟨h.code.below hb,h.row.below hb⟩
theorem dS.more (h:dS w own br bc tv t c k) {k':Nat} (hk:k<=k'):dS w own br bc tv t c k':=⟨h.code.more hk,h.row⟩
theorem dS.x0 (h:dS w own br bc tv t c k):w.cell? ⟨br,0,none⟩=some (.pointer (some ⟨bc,0,none⟩)):=af h.row.blk rfl
theorem dS.x1 (h:dS w own br bc tv t c k):w.cell? ⟨br,1,none⟩=some (.int .i64 t.words):=af h.row.blk rfl
theorem dS.x2 (h:dS w own br bc tv t c k):w.cell? ⟨br,2,none⟩=some tv:=af h.row.blk rfl
theorem dS.x3 (h:dS w own br bc tv t c k):w.cell? ⟨br,3,none⟩=some (.int .i64 t.size):=af h.row.blk rfl
theorem dS.x5 (h:dS w own br bc tv t c k):w.cell? ⟨br,5,none⟩=some (.int .i64 t.log):=af h.row.blk rfl
theorem dS.x6 (h:dS w own br bc tv t c k):w.cell? ⟨br,6,none⟩=some (.int .i64 t.prints):=af h.row.blk rfl
theorem dS.x7 (h:dS w own br bc tv t c k):w.cell? ⟨br,7,none⟩=some (.int .i64 t.arena):=af h.row.blk rfl
theorem dS.x9 (h:dS w own br bc tv t c k):w.cell? ⟨br,9,none⟩=some (.int .i64 t.base):=af h.row.blk rfl
theorem dS.x10 (h:dS w own br bc tv t c k):w.cell? ⟨br,10,none⟩=some (.int .i64 t.th):=af h.row.blk rfl
theorem dS.jT (h:dS w own br bc tv t c k):w.cell? ⟨br,11,none⟩=some (.int .i64 t.sum):=af h.row.blk rfl
def w_ (own:Nat->Prop) (w:World) (br bc:Nat) (tv:Value) (t:dw) (c c':Cd) (k':Nat) (e:Ending) (w':World):Prop:=
 e= .returned (.tuple #[])/\∃own',dS w' own' br bc tv t c' k'/\mh own w own' w'/\c.aI.length<=c'.aI.length
theorem Ey.tx {c':Cd} {k':Nat} {e:Ending} (h:dS w own br bc tv t c k) (he:Ey own w bc c c' k' (.tuple #[]) e w'):w_ own w br bc tv t c c' k' e w':=by
 obtain⟨h1,own',h2,h3,h4⟩:=he;exact⟨h1,own',h.next h2 h3,h3,h4⟩
def Cd.get (t:dw) (r a:Int) (c:Cd):Cd:=c.load r 7 (t.base+a)
def Cd.pO (t:dw) (a r:Int) (c:Cd):Cd:=c.store 7 (t.base+a) r
theorem OY (h:dS w own br bc tv t c k) (ok:eO t) (r a:Int) (ha:0<=a/\a<=262144):
  Calls Tryz.prog 117 #[.pointer (some ⟨br,0,none⟩),.int .u8 r,.int .i64 a] w (w_ own w br bc tv t c (c.get t r a) k):=by
 have x0:=h.x0;have x9:=h.x9;have e1:IntKind.i64.wrap (t.base+a)=t.base+a:=IntWalk.i64_in _ (by have:=ok.base;omega);have H:=ag h;clear h ok ha;go_in;go_wp2_with fail;go_still_tail 11,(by kernel_rfl)
 go_wp2_with fail;refine(Ce H.out.code.drew r 7 (t.base+a)).mono ?_;rintro e w1 ⟨rfl,dG,r1,r2,r3⟩;go_wp2_with fail;go_end0;have ht:=((mh.refl own w).drew).trans r2;exact⟨rfl,dG,H.out.next r1 ht,ht,r3⟩
theorem NS (h:dS w own br bc tv t c k) (ok:eO t) (a r:Int) (ha:0<=a/\a<=262144):
  Calls Tryz.prog 84 #[.pointer (some ⟨br,0,none⟩),.int .i64 a,.int .u8 r] w (w_ own w br bc tv t c (c.pO t a r) k):=by
 have x0:=h.x0;have x9:=h.x9;have e1:IntKind.i64.wrap (t.base+a)=t.base+a:=IntWalk.i64_in _ (by have:=ok.base;omega);have H:=ag h;clear h ok ha;go_in;go_wp2_with fail;go_still_tail 11,(by kernel_rfl)
 go_wp2_with fail;refine(Av H.out.code.drew 7 (t.base+a) r).mono ?_;rintro e w1 ⟨rfl,dG,r1,r2,r3⟩;go_wp2_with fail;go_end0;have ht:=((mh.refl own w).drew).trans r2;exact⟨rfl,dG,H.out.next r1 ht,ht,r3⟩
theorem AX (h:dS w own br bc tv t c k) (ok:eO t):
  Calls Tryz.prog 164 #[.pointer (some ⟨br,0,none⟩)] w fun e w'=>e= .returned (.int .i64 (2*t.th+1))/\w'=w:=by
 have x10:=h.x10;have e1:IntKind.i64.wrap (2*t.th)=2*t.th:=IntWalk.i64_in _ (by have:=ok.th;omega);have e2:IntKind.i64.wrap (2*t.th+1)=2*t.th+1:=IntWalk.i64_in _ (by have:=ok.th;omega);clear h ok;go_in;go_wp2_with fail;go_ret;exact⟨rfl,rfl⟩
end Go.Proofs.YtopdcjimpdalpaaGreat

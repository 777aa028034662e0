import Derived.Test.YtopdcjimpdalpaaGreatQ12
namespace Go.Proofs.YtopdcjimpdalpaaGreat
open Go.RowKit Go.Maps
set_option linter.all false
set_option maxHeartbeats 4000000
set_option maxRecDepth 100000
variable {w w' w1 w2:World} {own dG jA:Nat->Prop} {bc k br:Nat} {tv:Value} {t:dw}
def Cd.lock (t:dw) (c0:Cd):Cd:=
 let c1:=c0.move 5 6
 let c2:=c1.with_ 1 5 (t.words+2) 4
 c2
theorem uM {c0:Cd} (h:dS w own br bc tv t c0 k) (ok:eO t) (hk:k<=1099511000000):
  Calls Tryz.prog 134 #[.pointer (some ⟨br,0,none⟩)] w (w_ own w br bc tv t c0 (c0.lock t) (k+0)):=by
 have OK:=ag ok;have HK:=ag hk;have S:=ag (Sq.start h);have x0:=S.out.tx.x0;have x1:=S.out.tx.x1;have e1:IntKind.i64.wrap (t.words+2)=t.words+2:=IntWalk.i64_in _ (by have:=ok.words;omega);clear h ok hk;go_in;go_wp2_with fail;refine(S.out.move 5 6).mono ?_;clear S x0 x1;rintro e u ⟨rfl,o,S⟩;have x0:=S.out.tx.x0;have x1:=S.out.tx.x1;go_wp2_with fail;go_still_tail 10,(by kernel_rfl)
 go_wp2_with fail;refine(S.out.drew.with_ 1 5 (t.words+2) 4).mono ?_;clear S x0 x1;rintro e u ⟨rfl,o,S⟩;have x0:=S.out.tx.x0;have x1:=S.out.tx.x1;go_wp2_with fail;go_end0;exact⟨rfl,_,S.out.tx,S.out.turn,S.out.lab⟩
def Cd.old (t:dw) (c0:Cd):Cd:=
 let c1:=c0.move 5 6
 let c2:=c1.with_ 1 5 (t.base+8) 4
 c2
theorem Ag {c0:Cd} (h:dS w own br bc tv t c0 k) (ok:eO t) (hk:k<=1099511000000):
  Calls Tryz.prog 136 #[.pointer (some ⟨br,0,none⟩)] w (w_ own w br bc tv t c0 (c0.old t) (k+0)):=by
 have OK:=ag ok;have HK:=ag hk;have S:=ag (Sq.start h);have x0:=S.out.tx.x0;have x9:=S.out.tx.x9;have e1:IntKind.i64.wrap (t.base+8)=t.base+8:=IntWalk.i64_in _ (by have:=ok.base;omega);clear h ok hk;go_in;go_wp2_with fail;refine(S.out.move 5 6).mono ?_;clear S x0 x9;rintro e u ⟨rfl,o,S⟩;have x0:=S.out.tx.x0;have x9:=S.out.tx.x9;go_wp2_with fail;go_still_tail 9,(by kernel_rfl)
 go_wp2_with fail;refine(S.out.drew.with_ 1 5 (t.base+8) 4).mono ?_;clear S x0 x9;rintro e u ⟨rfl,o,S⟩;have x0:=S.out.tx.x0;have x9:=S.out.tx.x9;go_wp2_with fail;go_end0;exact⟨rfl,_,S.out.tx,S.out.turn,S.out.lab⟩
def Cd.start (t:dw) (c0:Cd):Cd:=
 let c1:=c0.set 0 t.arena
 let c2:=c1.pO t 4 0
 c2
theorem Hg {c0:Cd} (h:dS w own br bc tv t c0 k) (ok:eO t) (hk:k<=1099511000000):
  Calls Tryz.prog 55 #[.pointer (some ⟨br,0,none⟩)] w (w_ own w br bc tv t c0 (c0.start t) (k+0)):=by
 have OK:=ag ok;have HK:=ag hk;have S:=ag (Sq.start h);have x0:=S.out.tx.x0;have x7:=S.out.tx.x7;clear h ok hk;go_in;go_wp2_with fail;go_still_tail 9,(by kernel_rfl)
 go_wp2_with fail;refine(S.out.drew.set 0 t.arena).mono ?_;clear S x0 x7;rintro e u ⟨rfl,o,S⟩;have x0:=S.out.tx.x0;have x7:=S.out.tx.x7;go_wp2_with fail;refine(S.out.pO OK.out 4 0 (by decide)).mono ?_;clear S x0 x7;rintro e u ⟨rfl,o,S⟩;have x0:=S.out.tx.x0;have x7:=S.out.tx.x7;go_wp2_with fail;go_end0;exact⟨rfl,_,S.out.tx,S.out.turn,S.out.lab⟩
def Cd.abort (t:dw) (c0:Cd):Cd:=
 let c1:=c0.note 8 7 7
 let c2:=c1.get t 1 5
 let c3:=c2.pO t 4 1
 c3
theorem JM {c0:Cd} (h:dS w own br bc tv t c0 k) (ok:eO t) (hk:k<=1099511000000):
  Calls Tryz.prog 94 #[.pointer (some ⟨br,0,none⟩)] w (w_ own w br bc tv t c0 (c0.abort t) (k+0)):=by
 have OK:=ag ok;have HK:=ag hk;have S:=ag (Sq.start h);have x0:=S.out.tx.x0;clear h ok hk;go_in;go_wp2_with fail;refine(S.out.note 8 7 7 (by decide)).mono ?_;clear S x0;rintro e u ⟨rfl,o,S⟩;have x0:=S.out.tx.x0;go_wp2_with fail;refine(S.out.get OK.out 1 5 (by decide)).mono ?_;clear S x0;rintro e u ⟨rfl,o,S⟩;have x0:=S.out.tx.x0;go_wp2_with fail;refine(S.out.pO OK.out 4 1 (by decide)).mono ?_;clear S x0;rintro e u ⟨rfl,o,S⟩;have x0:=S.out.tx.x0;go_wp2_with fail;go_end0;exact⟨rfl,_,S.out.tx,S.out.turn,S.out.lab⟩
def Cd.tell (t:dw) (c0:Cd):Cd:=
 let loop:=c0.aI.length
 let c1:=c0.label
 let fin:=c1.aI.length
 let c2:=c1.label
 let c3:=c2.set 1 t.prints
 let c4:=c3.get t 2 3
 let c5:=c4.here loop
 let c6:=c5.zero 2 fin
 let c7:=c6.load 3 1 0
 let c8:=c7.out 3
 let c9:=c8.with_ 1 1 1 4
 let c10:=c9.with_ 2 2 1 4
 let c11:=c10.jump loop
 let c12:=c11.here fin
 c12
theorem KH {c0:Cd} (h:dS w own br bc tv t c0 k) (ok:eO t) (hk:k<=1099510000000):
  Calls Tryz.prog 137 #[.pointer (some ⟨br,0,none⟩)] w (w_ own w br bc tv t c0 (c0.tell t) (k+4)):=by
 have OK:=ag ok;have HK:=ag hk;have S:=ag (Sq.start h);have x0:=S.out.tx.x0;have x6:=S.out.tx.x6;clear h ok hk;go_in;go_wp2_with fail;have S0:=ag S.out.drew;clear S;go_region_held3 (fun w'=>w'.cell? ⟨br,0,none⟩=some (.pointer (some ⟨bc,0,none⟩))) (first|assumption|simp only[World.cell?_drew, *]) (first
  |(go_at_call 85;refine(S1.out.label (by have:=HK.out;omega)).mono ?_;clear S1 x0 x6;rintro e u ⟨fin,o,rfl,zH,S2⟩;have x0:=S2.out.tx.x0;have x6:=S2.out.tx.x6)
  |(go_at_call 85;refine(S0.out.label (by have:=HK.out;omega)).mono ?_;clear S0 x0 x6;rintro e u ⟨loop,o,rfl,qm,S1⟩;have x0:=S1.out.tx.x0;have x6:=S1.out.tx.x6)
  )
 have S:=S2;clear S2;go_wp2_with fail;go_still_tail 9,(by kernel_rfl)
 go_wp2_with fail;refine(S.out.drew.set 1 t.prints).mono ?_;clear S x0 x6;rintro e u ⟨rfl,o,S⟩;have x0:=S.out.tx.x0;have x6:=S.out.tx.x6;go_wp2_with fail;refine(S.out.get OK.out 2 3 (by decide)).mono ?_;clear S x0 x6;rintro e u ⟨rfl,o,S⟩;have x0:=S.out.tx.x0;have x6:=S.out.tx.x6;go_wp2_with fail;refine(S.out.here loop (by simp)).mono ?_;clear S x0 x6;rintro e u ⟨rfl,o,S⟩;have x0:=S.out.tx.x0;have x6:=S.out.tx.x6;go_wp2_with fail;refine(S.out.zero 2 fin (by simp) (by have:=HK.out;omega)).mono ?_;clear S x0 x6;rintro e u ⟨rfl,o,S⟩;have x0:=S.out.tx.x0;have x6:=S.out.tx.x6;go_wp2_with fail;refine(S.out.load 3 1 0).mono ?_;clear S x0 x6;rintro e u ⟨rfl,o,S⟩;have x0:=S.out.tx.x0;have x6:=S.out.tx.x6;go_wp2_with fail;refine(S.out.out 3).mono ?_;clear S x0 x6;rintro e u ⟨rfl,o,S⟩;have x0:=S.out.tx.x0;have x6:=S.out.tx.x6;go_wp2_with fail;refine(S.out.with_ 1 1 1 4).mono ?_;clear S x0 x6;rintro e u ⟨rfl,o,S⟩;have x0:=S.out.tx.x0;have x6:=S.out.tx.x6;go_wp2_with fail;refine(S.out.with_ 2 2 1 4).mono ?_;clear S x0 x6;rintro e u ⟨rfl,o,S⟩;have x0:=S.out.tx.x0;have x6:=S.out.tx.x6;go_wp2_with fail;refine(S.out.jump loop (by simp) (by have:=HK.out;omega)).mono ?_;clear S x0 x6;rintro e u ⟨rfl,o,S⟩;have x0:=S.out.tx.x0;have x6:=S.out.tx.x6;go_wp2_with fail;refine(S.out.here fin (by simp)).mono ?_;clear S x0 x6;rintro e u ⟨rfl,o,S⟩;have x0:=S.out.tx.x0;have x6:=S.out.tx.x6;go_wp2_with fail;go_end0;cases zH.out;cases qm.out;exact⟨rfl,_,S.out.tx,S.out.turn,S.out.lab⟩
def Cd.read (t:dw) (abort:Nat) (c0:Cd):Cd:=
 let found:=c0.aI.length
 let c1:=c0.label
 let dn:=c1.aI.length
 let c2:=c1.label
 let c3:=c2.search t found
 let c4:=c3.move 5 1
 let c5:=c4.with_ 6 5 15 4
 let c6:=c5.move 0 5
 let c7:=c6.with_ 1 5 (t.words+2) 4
 let c8:=c7.load 3 5 0
 let c9:=c8.move 6 3
 let c10:=c9.with_ 6 6 1 4
 let c11:=c10.unless t 6 abort
 let c12:=c11.move 6 3
 let c13:=c12.with_ 10 6 1 4
 let c14:=c13.get t 4 0
 let c15:=c14.calc 13 4 6
 let c16:=c15.unless t 4 abort
 let c17:=c16.load 2 1 0
 let c18:=c17.load 4 5 0
 let c19:=c18.calc 2 4 3
 let c20:=c19.unless t 4 abort
 let c21:=c20.set 4 1
 let c22:=c21.calc 9 4 0
 let c23:=c22.get t 6 1
 let c24:=c23.calc 7 6 4
 let c25:=c24.pO t 1 6
 let c26:=c25.jump dn
 let c27:=c26.here found
 let c28:=c27.load 2 5 1
 let c29:=c28.here dn
 let c30:=c29.note 2 1 2
 c30
theorem Ky {c0:Cd} {abort:Nat} (h:dS w own br bc tv t c0 k) (ok:eO t) (nK:abort<c0.aI.length) (hk:k<=1099510000000):
  Calls Tryz.prog 119 #[.pointer (some ⟨br,0,none⟩),.int .i64 (abort:Int)] w (w_ own w br bc tv t c0 (c0.read t abort) (k+17)):=by
 have OK:=ag ok;have HK:=ag hk;have S:=ag ((Sq.start h).OI nK);have x0:=S.out.tx.x0;have x1:=S.out.tx.x1;have e1:IntKind.i64.wrap (t.words+2)=t.words+2:=IntWalk.i64_in _ (by have:=ok.words;omega);clear h ok hk nK;go_in;go_wp2_with fail;have S0:=ag S.out.drew;clear S;go_region_held3 (fun w'=>w'.cell? ⟨br,0,none⟩=some (.pointer (some ⟨bc,0,none⟩))) (first|assumption|simp only[World.cell?_drew, *]) (first
  |(go_at_call 85;refine(S1.out.label (by have:=HK.out;omega)).mono ?_;clear S1 x0 x1;rintro e u ⟨dn,o,rfl,fdn,S2⟩;have x0:=S2.out.tx.x0;have x1:=S2.out.tx.x1)
  |(go_at_call 85;refine(S0.out.label (by have:=HK.out;omega)).mono ?_;clear S0 x0 x1;rintro e u ⟨found,o,rfl,KQ,S1⟩;have x0:=S1.out.tx.x0;have x1:=S1.out.tx.x1)
  )
 have S:=S2;clear S2;go_wp2_with fail;refine(S.out.ut (yD S.out.tx OK.out (S.out.live found (by simp)) (by have:=HK.out;omega))).mono ?_;clear S x0 x1;rintro e u ⟨rfl,o,S⟩;have x0:=S.out.tx.x0;have x1:=S.out.tx.x1;go_wp2_with fail;refine(S.out.move 5 1).mono ?_;clear S x0 x1;rintro e u ⟨rfl,o,S⟩;have x0:=S.out.tx.x0;have x1:=S.out.tx.x1;go_wp2_with fail;refine(S.out.with_ 6 5 15 4).mono ?_;clear S x0 x1;rintro e u ⟨rfl,o,S⟩;have x0:=S.out.tx.x0;have x1:=S.out.tx.x1;go_wp2_with fail;refine(S.out.move 0 5).mono ?_;clear S x0 x1;rintro e u ⟨rfl,o,S⟩;have x0:=S.out.tx.x0;have x1:=S.out.tx.x1;go_wp2_with fail;go_still_tail 10,(by kernel_rfl)
 go_wp2_with fail;refine(S.out.drew.with_ 1 5 (t.words+2) 4).mono ?_;clear S x0 x1;rintro e u ⟨rfl,o,S⟩;have x0:=S.out.tx.x0;have x1:=S.out.tx.x1;go_wp2_with fail;refine(S.out.load 3 5 0).mono ?_;clear S x0 x1;rintro e u ⟨rfl,o,S⟩;have x0:=S.out.tx.x0;have x1:=S.out.tx.x1;go_wp2_with fail;refine(S.out.move 6 3).mono ?_;clear S x0 x1;rintro e u ⟨rfl,o,S⟩;have x0:=S.out.tx.x0;have x1:=S.out.tx.x1;go_wp2_with fail;refine(S.out.with_ 6 6 1 4).mono ?_;clear S x0 x1;rintro e u ⟨rfl,o,S⟩;have x0:=S.out.tx.x0;have x1:=S.out.tx.x1;go_wp2_with fail;refine(S.out.ut (iL S.out.tx OK.out 6 (S.out.live abort (by simp)) (by have:=HK.out;omega))).mono ?_;clear S x0 x1;rintro e u ⟨rfl,o,S⟩;have x0:=S.out.tx.x0;have x1:=S.out.tx.x1;go_wp2_with fail;refine(S.out.move 6 3).mono ?_;clear S x0 x1;rintro e u ⟨rfl,o,S⟩;have x0:=S.out.tx.x0;have x1:=S.out.tx.x1;go_wp2_with fail;refine(S.out.with_ 10 6 1 4).mono ?_;clear S x0 x1;rintro e u ⟨rfl,o,S⟩;have x0:=S.out.tx.x0;have x1:=S.out.tx.x1;go_wp2_with fail;refine(S.out.get OK.out 4 0 (by decide)).mono ?_;clear S x0 x1;rintro e u ⟨rfl,o,S⟩;have x0:=S.out.tx.x0;have x1:=S.out.tx.x1;go_wp2_with fail;refine(S.out.calc 13 4 6).mono ?_;clear S x0 x1;rintro e u ⟨rfl,o,S⟩;have x0:=S.out.tx.x0;have x1:=S.out.tx.x1;go_wp2_with fail;refine(S.out.ut (iL S.out.tx OK.out 4 (S.out.live abort (by simp)) (by have:=HK.out;omega))).mono ?_;clear S x0 x1;rintro e u ⟨rfl,o,S⟩;have x0:=S.out.tx.x0;have x1:=S.out.tx.x1;go_wp2_with fail;refine(S.out.load 2 1 0).mono ?_;clear S x0 x1;rintro e u ⟨rfl,o,S⟩;have x0:=S.out.tx.x0;have x1:=S.out.tx.x1;go_wp2_with fail;refine(S.out.load 4 5 0).mono ?_;clear S x0 x1;rintro e u ⟨rfl,o,S⟩;have x0:=S.out.tx.x0;have x1:=S.out.tx.x1;go_wp2_with fail;refine(S.out.calc 2 4 3).mono ?_;clear S x0 x1;rintro e u ⟨rfl,o,S⟩;have x0:=S.out.tx.x0;have x1:=S.out.tx.x1;go_wp2_with fail;refine(S.out.ut (iL S.out.tx OK.out 4 (S.out.live abort (by simp)) (by have:=HK.out;omega))).mono ?_;clear S x0 x1;rintro e u ⟨rfl,o,S⟩;have x0:=S.out.tx.x0;have x1:=S.out.tx.x1;go_wp2_with fail;refine(S.out.set 4 1).mono ?_;clear S x0 x1;rintro e u ⟨rfl,o,S⟩;have x0:=S.out.tx.x0;have x1:=S.out.tx.x1;go_wp2_with fail;refine(S.out.calc 9 4 0).mono ?_;clear S x0 x1;rintro e u ⟨rfl,o,S⟩;have x0:=S.out.tx.x0;have x1:=S.out.tx.x1;go_wp2_with fail;refine(S.out.get OK.out 6 1 (by decide)).mono ?_;clear S x0 x1;rintro e u ⟨rfl,o,S⟩;have x0:=S.out.tx.x0;have x1:=S.out.tx.x1;go_wp2_with fail;refine(S.out.calc 7 6 4).mono ?_;clear S x0 x1;rintro e u ⟨rfl,o,S⟩;have x0:=S.out.tx.x0;have x1:=S.out.tx.x1;go_wp2_with fail;refine(S.out.pO OK.out 1 6 (by decide)).mono ?_;clear S x0 x1;rintro e u ⟨rfl,o,S⟩;have x0:=S.out.tx.x0;have x1:=S.out.tx.x1;go_wp2_with fail;refine(S.out.jump dn (by simp) (by have:=HK.out;omega)).mono ?_;clear S x0 x1;rintro e u ⟨rfl,o,S⟩;have x0:=S.out.tx.x0;have x1:=S.out.tx.x1;go_wp2_with fail;refine(S.out.here found (by simp)).mono ?_;clear S x0 x1;rintro e u ⟨rfl,o,S⟩;have x0:=S.out.tx.x0;have x1:=S.out.tx.x1;go_wp2_with fail;refine(S.out.load 2 5 1).mono ?_;clear S x0 x1;rintro e u ⟨rfl,o,S⟩;have x0:=S.out.tx.x0;have x1:=S.out.tx.x1;go_wp2_with fail;refine(S.out.here dn (by simp)).mono ?_;clear S x0 x1;rintro e u ⟨rfl,o,S⟩;have x0:=S.out.tx.x0;have x1:=S.out.tx.x1;go_wp2_with fail;refine(S.out.note 2 1 2 (by decide)).mono ?_;clear S x0 x1;rintro e u ⟨rfl,o,S⟩;have x0:=S.out.tx.x0;have x1:=S.out.tx.x1;go_wp2_with fail;go_end0;cases fdn.out;cases KQ.out;exact⟨rfl,_,S.out.tx,S.out.turn,S.out.lab⟩
def Cd.write (t:dw) (c0:Cd):Cd:=
 let found:=c0.aI.length
 let c1:=c0.label
 let dn:=c1.aI.length
 let c2:=c1.label
 let room:=c2.aI.length
 let c3:=c2.label
 let c4:=c3.search t found
 let c5:=c4.get t 3 2
 let c6:=c5.move 4 3
 let c7:=c6.with_ 13 4 64 6
 let c8:=c7.unless t 4 room
 let c9:=c8.trap 6
 let c10:=c9.here room
 let c11:=c10.move 5 3
 let c12:=c11.calc 1 5 5
 let c13:=c12.with_ 1 5 t.log 4
 let c14:=c13.store 5 0 1
 let c15:=c14.with_ 1 3 1 4
 let c16:=c15.pO t 2 3
 let c17:=c16.here found
 let c18:=c17.store 5 1 2
 let c19:=c18.here dn
 let c20:=c19.note 3 1 2
 c20
theorem Ii {c0:Cd} (h:dS w own br bc tv t c0 k) (ok:eO t) (hk:k<=1099510000000):
  Calls Tryz.prog 122 #[.pointer (some ⟨br,0,none⟩)] w (w_ own w br bc tv t c0 (c0.write t) (k+11)):=by
 have OK:=ag ok;have HK:=ag hk;have S:=ag (Sq.start h);have x0:=S.out.tx.x0;have x5:=S.out.tx.x5;clear h ok hk;go_in;go_wp2_with fail;have S0:=ag S.out.drew;clear S;go_region_held3 (fun w'=>w'.cell? ⟨br,0,none⟩=some (.pointer (some ⟨bc,0,none⟩))) (first|assumption|simp only[World.cell?_drew, *]) (first
  |(go_at_call 85;refine(S2.out.label (by have:=HK.out;omega)).mono ?_;clear S2 x0 x5;rintro e u ⟨room,o,rfl,aal,S3⟩;have x0:=S3.out.tx.x0;have x5:=S3.out.tx.x5)
  |(go_at_call 85;refine(S1.out.label (by have:=HK.out;omega)).mono ?_;clear S1 x0 x5;rintro e u ⟨dn,o,rfl,fdn,S2⟩;have x0:=S2.out.tx.x0;have x5:=S2.out.tx.x5)
  |(go_at_call 85;refine(S0.out.label (by have:=HK.out;omega)).mono ?_;clear S0 x0 x5;rintro e u ⟨found,o,rfl,KQ,S1⟩;have x0:=S1.out.tx.x0;have x5:=S1.out.tx.x5)
  )
 have S:=S3;clear S3;go_wp2_with fail;refine(S.out.ut (yD S.out.tx OK.out (S.out.live found (by simp)) (by have:=HK.out;omega))).mono ?_;clear S x0 x5;rintro e u ⟨rfl,o,S⟩;have x0:=S.out.tx.x0;have x5:=S.out.tx.x5;go_wp2_with fail;refine(S.out.get OK.out 3 2 (by decide)).mono ?_;clear S x0 x5;rintro e u ⟨rfl,o,S⟩;have x0:=S.out.tx.x0;have x5:=S.out.tx.x5;go_wp2_with fail;refine(S.out.move 4 3).mono ?_;clear S x0 x5;rintro e u ⟨rfl,o,S⟩;have x0:=S.out.tx.x0;have x5:=S.out.tx.x5;go_wp2_with fail;refine(S.out.with_ 13 4 64 6).mono ?_;clear S x0 x5;rintro e u ⟨rfl,o,S⟩;have x0:=S.out.tx.x0;have x5:=S.out.tx.x5;go_wp2_with fail;refine(S.out.ut (iL S.out.tx OK.out 4 (S.out.live room (by simp)) (by have:=HK.out;omega))).mono ?_;clear S x0 x5;rintro e u ⟨rfl,o,S⟩;have x0:=S.out.tx.x0;have x5:=S.out.tx.x5;go_wp2_with fail;refine(S.out.trap 6 (by decide)).mono ?_;clear S x0 x5;rintro e u ⟨rfl,o,S⟩;have x0:=S.out.tx.x0;have x5:=S.out.tx.x5;go_wp2_with fail;refine(S.out.here room (by simp)).mono ?_;clear S x0 x5;rintro e u ⟨rfl,o,S⟩;have x0:=S.out.tx.x0;have x5:=S.out.tx.x5;go_wp2_with fail;refine(S.out.move 5 3).mono ?_;clear S x0 x5;rintro e u ⟨rfl,o,S⟩;have x0:=S.out.tx.x0;have x5:=S.out.tx.x5;go_wp2_with fail;refine(S.out.calc 1 5 5).mono ?_;clear S x0 x5;rintro e u ⟨rfl,o,S⟩;have x0:=S.out.tx.x0;have x5:=S.out.tx.x5;go_wp2_with fail;go_still_tail 9,(by kernel_rfl)
 go_wp2_with fail;refine(S.out.drew.with_ 1 5 t.log 4).mono ?_;clear S x0 x5;rintro e u ⟨rfl,o,S⟩;have x0:=S.out.tx.x0;have x5:=S.out.tx.x5;go_wp2_with fail;refine(S.out.store 5 0 1).mono ?_;clear S x0 x5;rintro e u ⟨rfl,o,S⟩;have x0:=S.out.tx.x0;have x5:=S.out.tx.x5;go_wp2_with fail;refine(S.out.with_ 1 3 1 4).mono ?_;clear S x0 x5;rintro e u ⟨rfl,o,S⟩;have x0:=S.out.tx.x0;have x5:=S.out.tx.x5;go_wp2_with fail;refine(S.out.pO OK.out 2 3 (by decide)).mono ?_;clear S x0 x5;rintro e u ⟨rfl,o,S⟩;have x0:=S.out.tx.x0;have x5:=S.out.tx.x5;go_wp2_with fail;refine(S.out.here found (by simp)).mono ?_;clear S x0 x5;rintro e u ⟨rfl,o,S⟩;have x0:=S.out.tx.x0;have x5:=S.out.tx.x5;go_wp2_with fail;refine(S.out.store 5 1 2).mono ?_;clear S x0 x5;rintro e u ⟨rfl,o,S⟩;have x0:=S.out.tx.x0;have x5:=S.out.tx.x5;go_wp2_with fail;refine(S.out.here dn (by simp)).mono ?_;clear S x0 x5;rintro e u ⟨rfl,o,S⟩;have x0:=S.out.tx.x0;have x5:=S.out.tx.x5;go_wp2_with fail;refine(S.out.note 3 1 2 (by decide)).mono ?_;clear S x0 x5;rintro e u ⟨rfl,o,S⟩;have x0:=S.out.tx.x0;have x5:=S.out.tx.x5;go_wp2_with fail;go_end0;cases aal.out;cases fdn.out;cases KQ.out;exact⟨rfl,_,S.out.tx,S.out.turn,S.out.lab⟩
end Go.Proofs.YtopdcjimpdalpaaGreat

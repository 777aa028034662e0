import Derived.Test.YtopdcjimpdalpaaGreatQ13
namespace Go.Proofs.YtopdcjimpdalpaaGreat
open Go.RowKit Go.Maps
set_option linter.all false
set_option maxHeartbeats 4000000
set_option maxRecDepth 100000
variable {w w' w1 w2:World} {own dG jA:Nat->Prop} {bc k br:Nat} {tv:Value} {t:dw}
def Cd.Cq (t:dw) (c0:Cd):Cd:=
 let c1:=c0.load 3 5 0
 let c2:=c1.with_ 6 3 15 4
 let c3:=c2.set 4 1
 let c4:=c3.calc 9 4 3
 let c5:=c4.calc 7 2 4
 c5
theorem Gj {c0:Cd} {ba:Nat} (h:dS w own br bc tv t c0 k) (ok:eO t) (hka:lG w own ba (.cells #[.pointer (some ⟨br,0,none⟩)] 166 (0,0))) (hk:k<=1099510000000):
  Calls Tryz.prog 162 #[.pointer (some ⟨ba,0,none⟩)] w (w_ own w br bc tv t c0 (c0.Cq t) (k+0)):=by
 have OK:=ag ok;have HK:=ag hk;have S:=ag ((Sq.start h).kp hka);have x0:=S.out.tx.x0;have a0:=S.out.k0;clear h ok hk hka;go_in;go_wp2_with fail;refine(S.out.load 3 5 0).mono ?_;clear S x0 a0;rintro e u ⟨rfl,o,S⟩;have x0:=S.out.tx.x0;have a0:=S.out.k0;go_wp2_with fail;refine(S.out.with_ 6 3 15 4).mono ?_;clear S x0 a0;rintro e u ⟨rfl,o,S⟩;have x0:=S.out.tx.x0;have a0:=S.out.k0;go_wp2_with fail;refine(S.out.set 4 1).mono ?_;clear S x0 a0;rintro e u ⟨rfl,o,S⟩;have x0:=S.out.tx.x0;have a0:=S.out.k0;go_wp2_with fail;refine(S.out.calc 9 4 3).mono ?_;clear S x0 a0;rintro e u ⟨rfl,o,S⟩;have x0:=S.out.tx.x0;have a0:=S.out.k0;go_wp2_with fail;refine(S.out.calc 7 2 4).mono ?_;clear S x0 a0;rintro e u ⟨rfl,o,S⟩;have x0:=S.out.tx.x0;have a0:=S.out.k0;go_wp2_with fail;go_end0;exact⟨rfl,_,S.out.tx,S.out.turn,S.out.lab⟩
def Cd.zq (t:dw) (c0:Cd):Cd:=
 let c1:=c0.load 2 5 0
 let c2:=c1.load 3 5 1
 let c3:=c2.store 2 0 3
 c3
theorem DN {c0:Cd} {ba:Nat} (h:dS w own br bc tv t c0 k) (ok:eO t) (hka:lG w own ba (.cells #[.pointer (some ⟨br,0,none⟩)] 166 (0,0))) (hk:k<=1099510000000):
  Calls Tryz.prog 131 #[.pointer (some ⟨ba,0,none⟩)] w (w_ own w br bc tv t c0 (c0.zq t) (k+0)):=by
 have OK:=ag ok;have HK:=ag hk;have S:=ag ((Sq.start h).kp hka);have x0:=S.out.tx.x0;have a0:=S.out.k0;clear h ok hk hka;go_in;go_wp2_with fail;refine(S.out.load 2 5 0).mono ?_;clear S x0 a0;rintro e u ⟨rfl,o,S⟩;have x0:=S.out.tx.x0;have a0:=S.out.k0;go_wp2_with fail;refine(S.out.load 3 5 1).mono ?_;clear S x0 a0;rintro e u ⟨rfl,o,S⟩;have x0:=S.out.tx.x0;have a0:=S.out.k0;go_wp2_with fail;refine(S.out.store 2 0 3).mono ?_;clear S x0 a0;rintro e u ⟨rfl,o,S⟩;have x0:=S.out.tx.x0;have a0:=S.out.k0;go_wp2_with fail;go_end0;exact⟨rfl,_,S.out.tx,S.out.turn,S.out.lab⟩
def Cd.yY (t:dw) (c0:Cd):Cd:=
 let c1:=c0.lock t
 let c2:=c1.store 5 0 1
 c2
theorem DU {c0:Cd} {ba:Nat} (h:dS w own br bc tv t c0 k) (ok:eO t) (hka:lG w own ba (.cells #[.pointer (some ⟨br,0,none⟩)] 166 (0,0))) (hk:k<=1099510000000):
  Calls Tryz.prog 133 #[.pointer (some ⟨ba,0,none⟩)] w (w_ own w br bc tv t c0 (c0.yY t) (k+0)):=by
 have OK:=ag ok;have HK:=ag hk;have S:=ag ((Sq.start h).kp hka);have x0:=S.out.tx.x0;have a0:=S.out.k0;clear h ok hk hka;go_in;go_wp2_with fail;refine(S.out.ut (uM S.out.tx OK.out (by have:=HK.out;omega))).mono ?_;clear S x0 a0;rintro e u ⟨rfl,o,S⟩;have x0:=S.out.tx.x0;have a0:=S.out.k0;go_wp2_with fail;refine(S.out.store 5 0 1).mono ?_;clear S x0 a0;rintro e u ⟨rfl,o,S⟩;have x0:=S.out.tx.x0;have a0:=S.out.k0;go_wp2_with fail;go_end0;exact⟨rfl,_,S.out.tx,S.out.turn,S.out.lab⟩
def Cd.yB (t:dw) (c0:Cd):Cd:=
 let c1:=c0.old t
 let c2:=c1.load 2 5 0
 let c3:=c2.lock t
 let c4:=c3.store 5 0 2
 c4
theorem Eb {c0:Cd} {ba:Nat} (h:dS w own br bc tv t c0 k) (ok:eO t) (hka:lG w own ba (.cells #[.pointer (some ⟨br,0,none⟩)] 166 (0,0))) (hk:k<=1099510000000):
  Calls Tryz.prog 135 #[.pointer (some ⟨ba,0,none⟩)] w (w_ own w br bc tv t c0 (c0.yB t) (k+0)):=by
 have OK:=ag ok;have HK:=ag hk;have S:=ag ((Sq.start h).kp hka);have x0:=S.out.tx.x0;have a0:=S.out.k0;clear h ok hk hka;go_in;go_wp2_with fail;refine(S.out.ut (Ag S.out.tx OK.out (by have:=HK.out;omega))).mono ?_;clear S x0 a0;rintro e u ⟨rfl,o,S⟩;have x0:=S.out.tx.x0;have a0:=S.out.k0;go_wp2_with fail;refine(S.out.load 2 5 0).mono ?_;clear S x0 a0;rintro e u ⟨rfl,o,S⟩;have x0:=S.out.tx.x0;have a0:=S.out.k0;go_wp2_with fail;refine(S.out.ut (uM S.out.tx OK.out (by have:=HK.out;omega))).mono ?_;clear S x0 a0;rintro e u ⟨rfl,o,S⟩;have x0:=S.out.tx.x0;have a0:=S.out.k0;go_wp2_with fail;refine(S.out.store 5 0 2).mono ?_;clear S x0 a0;rintro e u ⟨rfl,o,S⟩;have x0:=S.out.tx.x0;have a0:=S.out.k0;go_wp2_with fail;go_end0;exact⟨rfl,_,S.out.tx,S.out.turn,S.out.lab⟩
end Go.Proofs.YtopdcjimpdalpaaGreat

import Derived.Test.YtopdcjimpdalpaaGreatR13
namespace Go.Proofs.YtopdcjimpdalpaaGreat
open Go.RowKit Go.Maps
set_option linter.all false
set_option maxHeartbeats 4000000
set_option maxRecDepth 100000
variable {w w' w1 w2:World} {own dM jO:Nat->Prop} {bc k br:Nat} {tv:Value} {t:dI}
def Cd.En (t:dI) (c0:Cd):Cd:=
 let c1:=c0.load 3 5 0
 let c2:=c1.with_ 6 3 15 4
 let c3:=c2.set 4 1
 let c4:=c3.calc 9 4 3
 let c5:=c4.calc 7 2 4
 c5
theorem G_ {c0:Cd} {ba:Nat} (h:eG w own br bc tv t c0 k) (ok:fD t) (hka:mE w own ba (.cells #[.pointer (some ⟨br,0,none⟩)] 166 (0,0))) (hk:k<=1099510000000):
  Calls Tryz.prog 162 #[.pointer (some ⟨ba,0,none⟩)] w (xP own w br bc tv t c0 (c0.En t) (k+0)):=by
 have OK:=ag ok;have HK:=ag hk;have S:=ag ((Sq.start h).kp hka);have x0:=S.out.tx.x0;have a0:=S.out.k0;clear h ok hk hka;go_in;go_wp2_with fail;refine(S.out.load 3 5 0).mono ?_;clear S x0 a0;rintro e u ⟨rfl,o,S⟩;have x0:=S.out.tx.x0;have a0:=S.out.k0;go_wp2_with fail;refine(S.out.with_ 6 3 15 4).mono ?_;clear S x0 a0;rintro e u ⟨rfl,o,S⟩;have x0:=S.out.tx.x0;have a0:=S.out.k0;go_wp2_with fail;refine(S.out.set 4 1).mono ?_;clear S x0 a0;rintro e u ⟨rfl,o,S⟩;have x0:=S.out.tx.x0;have a0:=S.out.k0;go_wp2_with fail;refine(S.out.calc 9 4 3).mono ?_;clear S x0 a0;rintro e u ⟨rfl,o,S⟩;have x0:=S.out.tx.x0;have a0:=S.out.k0;go_wp2_with fail;refine(S.out.calc 7 2 4).mono ?_;clear S x0 a0;rintro e u ⟨rfl,o,S⟩;have x0:=S.out.tx.x0;have a0:=S.out.k0;go_wp2_with fail;go_end0;exact⟨rfl,_,S.out.tx,S.out.turn,S.out.lab⟩
def Cd.Ac (t:dI) (c0:Cd):Cd:=
 let c1:=c0.load 2 5 0
 let c2:=c1.load 3 5 1
 let c3:=c2.store 2 0 3
 c3
theorem EZ {c0:Cd} {ba:Nat} (h:eG w own br bc tv t c0 k) (ok:fD t) (hka:mE w own ba (.cells #[.pointer (some ⟨br,0,none⟩)] 166 (0,0))) (hk:k<=1099510000000):
  Calls Tryz.prog 131 #[.pointer (some ⟨ba,0,none⟩)] w (xP own w br bc tv t c0 (c0.Ac t) (k+0)):=by
 have OK:=ag ok;have HK:=ag hk;have S:=ag ((Sq.start h).kp hka);have x0:=S.out.tx.x0;have a0:=S.out.k0;clear h ok hk hka;go_in;go_wp2_with fail;refine(S.out.load 2 5 0).mono ?_;clear S x0 a0;rintro e u ⟨rfl,o,S⟩;have x0:=S.out.tx.x0;have a0:=S.out.k0;go_wp2_with fail;refine(S.out.load 3 5 1).mono ?_;clear S x0 a0;rintro e u ⟨rfl,o,S⟩;have x0:=S.out.tx.x0;have a0:=S.out.k0;go_wp2_with fail;refine(S.out.store 2 0 3).mono ?_;clear S x0 a0;rintro e u ⟨rfl,o,S⟩;have x0:=S.out.tx.x0;have a0:=S.out.k0;go_wp2_with fail;go_end0;exact⟨rfl,_,S.out.tx,S.out.turn,S.out.lab⟩
def Cd.y_ (t:dI) (c0:Cd):Cd:=
 let c1:=c0.lock t
 let c2:=c1.store 5 0 1
 c2
theorem E_ {c0:Cd} {ba:Nat} (h:eG w own br bc tv t c0 k) (ok:fD t) (hka:mE w own ba (.cells #[.pointer (some ⟨br,0,none⟩)] 166 (0,0))) (hk:k<=1099510000000):
  Calls Tryz.prog 133 #[.pointer (some ⟨ba,0,none⟩)] w (xP own w br bc tv t c0 (c0.y_ t) (k+0)):=by
 have OK:=ag ok;have HK:=ag hk;have S:=ag ((Sq.start h).kp hka);have x0:=S.out.tx.x0;have a0:=S.out.k0;clear h ok hk hka;go_in;go_wp2_with fail;refine(S.out.ut (vE S.out.tx OK.out (by have:=HK.out;omega))).mono ?_;clear S x0 a0;rintro e u ⟨rfl,o,S⟩;have x0:=S.out.tx.x0;have a0:=S.out.k0;go_wp2_with fail;refine(S.out.store 5 0 1).mono ?_;clear S x0 a0;rintro e u ⟨rfl,o,S⟩;have x0:=S.out.tx.x0;have a0:=S.out.k0;go_wp2_with fail;go_end0;exact⟨rfl,_,S.out.tx,S.out.turn,S.out.lab⟩
def Cd.za (t:dI) (c0:Cd):Cd:=
 let c1:=c0.old t
 let c2:=c1.load 2 5 0
 let c3:=c2.lock t
 let c4:=c3.store 5 0 2
 c4
theorem Fb {c0:Cd} {ba:Nat} (h:eG w own br bc tv t c0 k) (ok:fD t) (hka:mE w own ba (.cells #[.pointer (some ⟨br,0,none⟩)] 166 (0,0))) (hk:k<=1099510000000):
  Calls Tryz.prog 135 #[.pointer (some ⟨ba,0,none⟩)] w (xP own w br bc tv t c0 (c0.za t) (k+0)):=by
 have OK:=ag ok;have HK:=ag hk;have S:=ag ((Sq.start h).kp hka);have x0:=S.out.tx.x0;have a0:=S.out.k0;clear h ok hk hka;go_in;go_wp2_with fail;refine(S.out.ut (AU S.out.tx OK.out (by have:=HK.out;omega))).mono ?_;clear S x0 a0;rintro e u ⟨rfl,o,S⟩;have x0:=S.out.tx.x0;have a0:=S.out.k0;go_wp2_with fail;refine(S.out.load 2 5 0).mono ?_;clear S x0 a0;rintro e u ⟨rfl,o,S⟩;have x0:=S.out.tx.x0;have a0:=S.out.k0;go_wp2_with fail;refine(S.out.ut (vE S.out.tx OK.out (by have:=HK.out;omega))).mono ?_;clear S x0 a0;rintro e u ⟨rfl,o,S⟩;have x0:=S.out.tx.x0;have a0:=S.out.k0;go_wp2_with fail;refine(S.out.store 5 0 2).mono ?_;clear S x0 a0;rintro e u ⟨rfl,o,S⟩;have x0:=S.out.tx.x0;have a0:=S.out.k0;go_wp2_with fail;go_end0;exact⟨rfl,_,S.out.tx,S.out.turn,S.out.lab⟩
end Go.Proofs.YtopdcjimpdalpaaGreat

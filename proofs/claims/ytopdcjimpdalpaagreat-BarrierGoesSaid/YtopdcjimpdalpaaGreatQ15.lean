import Derived.Test.YtopdcjimpdalpaaGreatQ14
namespace Go.Proofs.YtopdcjimpdalpaaGreat
open Go.RowKit Go.Maps
set_option linter.all false
set_option maxHeartbeats 4000000
set_option maxRecDepth 100000
variable {w w' w1 w2:World} {own dG jA:Nat->Prop} {bc k br:Nat} {tv:Value} {t:dw}
def Cd.Cb (t:dw) (rel:Nat) (c0:Cd):Cd:=
 let c1:=c0.lock t
 let c2:=c1.load 3 5 0
 let c3:=c2.move 4 3
 let c4:=c3.set 2 1
 let c5:=c4.calc 6 4 2
 let c6:=c5.unless t 4 rel
 let c7:=c6.move 4 3
 let c8:=c7.set 2 (2*t.th+1)
 let c9:=c8.put ⟨8,0,5,4,2,0⟩
 let c10:=c9.calc 2 4 3
 let c11:=c10.unless t 4 rel
 let c12:=c11.old t
 let c13:=c12.store 5 0 3
 let c14:=c13.set 4 1
 let c15:=c14.calc 9 4 6
 let c16:=c15.get t 3 6
 let c17:=c16.calc 7 3 4
 let c18:=c17.pO t 6 3
 c18
theorem FV {c0:Cd} {rel:Nat} {ba:Nat} {bd:Nat} (h:dS w own br bc tv t c0 k) (ok:eO t) (oW:rel<c0.aI.length) (hka:lG w own ba (.cells #[.pointer (some ⟨br,0,none⟩)] 166 (0,0))) (hkd:lG w own bd (.cells #[.int .i64 (rel:Int)] 169 (0,0))) (hk:k<=1099510000000):
  Calls Tryz.prog 163 #[.pointer (some ⟨ba,0,none⟩),.pointer (some ⟨bd,0,none⟩)] w (w_ own w br bc tv t c0 (c0.Cb t rel) (k+6)):=by
 have OK:=ag ok;have HK:=ag hk;have S:=ag ((((Sq.start h).kp hkd).kp hka).OI oW);have x0:=S.out.tx.x0;have a0:=S.out.k0;have d0:=S.out.k1;clear h ok hk oW hka hkd;go_in;go_wp2_with fail;refine(S.out.ut (uM S.out.tx OK.out (by have:=HK.out;omega))).mono ?_;clear S x0 a0 d0;rintro e u ⟨rfl,o,S⟩;have x0:=S.out.tx.x0;have a0:=S.out.k0;have d0:=S.out.k1;go_wp2_with fail;refine(S.out.load 3 5 0).mono ?_;clear S x0 a0 d0;rintro e u ⟨rfl,o,S⟩;have x0:=S.out.tx.x0;have a0:=S.out.k0;have d0:=S.out.k1;go_wp2_with fail;refine(S.out.move 4 3).mono ?_;clear S x0 a0 d0;rintro e u ⟨rfl,o,S⟩;have x0:=S.out.tx.x0;have a0:=S.out.k0;have d0:=S.out.k1;go_wp2_with fail;refine(S.out.set 2 1).mono ?_;clear S x0 a0 d0;rintro e u ⟨rfl,o,S⟩;have x0:=S.out.tx.x0;have a0:=S.out.k0;have d0:=S.out.k1;go_wp2_with fail;refine(S.out.calc 6 4 2).mono ?_;clear S x0 a0 d0;rintro e u ⟨rfl,o,S⟩;have x0:=S.out.tx.x0;have a0:=S.out.k0;have d0:=S.out.k1;go_wp2_with fail;refine(S.out.ut (iL S.out.tx OK.out 4 (S.out.live rel (by simp)) (by have:=HK.out;omega))).mono ?_;clear S x0 a0 d0;rintro e u ⟨rfl,o,S⟩;have x0:=S.out.tx.x0;have a0:=S.out.k0;have d0:=S.out.k1;go_wp2_with fail;refine(S.out.move 4 3).mono ?_;clear S x0 a0 d0;rintro e u ⟨rfl,o,S⟩;have x0:=S.out.tx.x0;have a0:=S.out.k0;have d0:=S.out.k1;go_wp2_with fail;go_region_held3 (fun w'=>w'.cell? ⟨br,0,none⟩=some (.pointer (some ⟨bc,0,none⟩))/\w'.cell? ⟨ba,0,none⟩=some (.pointer (some ⟨br,0,none⟩))/\w'.cell? ⟨bd,0,none⟩=some (.int .i64 (rel:Int))) (refine⟨?_,?_,?_⟩<;>first|assumption|simp only[World.cell?_drew, *]) (first
  |(go_at_call 83;refine(S.out.drew.set 2 (2*t.th+1)).mono ?_;clear x0 a0 d0;rintro e u ⟨rfl,o,SL⟩;have x0:=SL.out.tx.x0;have a0:=SL.out.k0;have d0:=SL.out.k1)
  |(go_at_call 164;refine(AX S.out.drew.tx OK.out).mono ?_;rintro e wk ⟨rfl,rfl⟩)
  )
 clear S;have S:=SL;clear SL;go_wp2_with fail;refine(S.out.Q6 ⟨8,0,5,4,2,0⟩).mono ?_;clear S x0 a0 d0;rintro e u ⟨rfl,o,S⟩;have x0:=S.out.tx.x0;have a0:=S.out.k0;have d0:=S.out.k1;go_wp2_with fail;refine(S.out.calc 2 4 3).mono ?_;clear S x0 a0 d0;rintro e u ⟨rfl,o,S⟩;have x0:=S.out.tx.x0;have a0:=S.out.k0;have d0:=S.out.k1;go_wp2_with fail;refine(S.out.ut (iL S.out.tx OK.out 4 (S.out.live rel (by simp)) (by have:=HK.out;omega))).mono ?_;clear S x0 a0 d0;rintro e u ⟨rfl,o,S⟩;have x0:=S.out.tx.x0;have a0:=S.out.k0;have d0:=S.out.k1;go_wp2_with fail;refine(S.out.ut (Ag S.out.tx OK.out (by have:=HK.out;omega))).mono ?_;clear S x0 a0 d0;rintro e u ⟨rfl,o,S⟩;have x0:=S.out.tx.x0;have a0:=S.out.k0;have d0:=S.out.k1;go_wp2_with fail;refine(S.out.store 5 0 3).mono ?_;clear S x0 a0 d0;rintro e u ⟨rfl,o,S⟩;have x0:=S.out.tx.x0;have a0:=S.out.k0;have d0:=S.out.k1;go_wp2_with fail;refine(S.out.set 4 1).mono ?_;clear S x0 a0 d0;rintro e u ⟨rfl,o,S⟩;have x0:=S.out.tx.x0;have a0:=S.out.k0;have d0:=S.out.k1;go_wp2_with fail;refine(S.out.calc 9 4 6).mono ?_;clear S x0 a0 d0;rintro e u ⟨rfl,o,S⟩;have x0:=S.out.tx.x0;have a0:=S.out.k0;have d0:=S.out.k1;go_wp2_with fail;refine(S.out.get OK.out 3 6 (by decide)).mono ?_;clear S x0 a0 d0;rintro e u ⟨rfl,o,S⟩;have x0:=S.out.tx.x0;have a0:=S.out.k0;have d0:=S.out.k1;go_wp2_with fail;refine(S.out.calc 7 3 4).mono ?_;clear S x0 a0 d0;rintro e u ⟨rfl,o,S⟩;have x0:=S.out.tx.x0;have a0:=S.out.k0;have d0:=S.out.k1;go_wp2_with fail;refine(S.out.pO OK.out 6 3 (by decide)).mono ?_;clear S x0 a0 d0;rintro e u ⟨rfl,o,S⟩;have x0:=S.out.tx.x0;have a0:=S.out.k0;have d0:=S.out.k1;go_wp2_with fail;go_end0;exact⟨rfl,_,S.out.tx,S.out.turn,S.out.lab⟩
def Cd.Di (t:dw) (rel:Nat) (c0:Cd):Cd:=
 let free:=c0.aI.length
 let c1:=c0.label
 let c2:=c1.lock t
 let c3:=c2.load 2 5 0
 let c4:=c3.move 4 2
 let c5:=c4.with_ 6 4 1 3
 let c6:=c5.zero 4 free
 let c7:=c6.with_ 2 2 (2*t.th+1) 3
 let c8:=c7.unless t 2 rel
 let c9:=c8.old t
 let c10:=c9.load 2 5 0
 let c11:=c10.here free
 let c12:=c11.with_ 10 2 1 3
 let c13:=c12.get t 4 0
 let c14:=c13.calc 13 4 2
 let c15:=c14.unless t 4 rel
 c15
theorem Gh {c0:Cd} {rel:Nat} {ba:Nat} {bd:Nat} (h:dS w own br bc tv t c0 k) (ok:eO t) (oW:rel<c0.aI.length) (hka:lG w own ba (.cells #[.pointer (some ⟨br,0,none⟩)] 166 (0,0))) (hkd:lG w own bd (.cells #[.int .i64 (rel:Int)] 169 (0,0))) (hk:k<=1099510000000):
  Calls Tryz.prog 165 #[.pointer (some ⟨ba,0,none⟩),.pointer (some ⟨bd,0,none⟩)] w (w_ own w br bc tv t c0 (c0.Di t rel) (k+8)):=by
 have OK:=ag ok;have HK:=ag hk;have S:=ag ((((Sq.start h).kp hkd).kp hka).OI oW);have x0:=S.out.tx.x0;have a0:=S.out.k0;have d0:=S.out.k1;clear h ok hk oW hka hkd;go_in;go_wp2_with fail;refine(S.out.label (by have:=HK.out;omega)).mono ?_;clear S x0 a0 d0;rintro e u ⟨free,o,rfl,Z9,S⟩;have x0:=S.out.tx.x0;have a0:=S.out.k0;have d0:=S.out.k1;go_wp2_with fail;refine(S.out.ut (uM S.out.tx OK.out (by have:=HK.out;omega))).mono ?_;clear S x0 a0 d0;rintro e u ⟨rfl,o,S⟩;have x0:=S.out.tx.x0;have a0:=S.out.k0;have d0:=S.out.k1;go_wp2_with fail;refine(S.out.load 2 5 0).mono ?_;clear S x0 a0 d0;rintro e u ⟨rfl,o,S⟩;have x0:=S.out.tx.x0;have a0:=S.out.k0;have d0:=S.out.k1;go_wp2_with fail;refine(S.out.move 4 2).mono ?_;clear S x0 a0 d0;rintro e u ⟨rfl,o,S⟩;have x0:=S.out.tx.x0;have a0:=S.out.k0;have d0:=S.out.k1;go_wp2_with fail;refine(S.out.with_ 6 4 1 3).mono ?_;clear S x0 a0 d0;rintro e u ⟨rfl,o,S⟩;have x0:=S.out.tx.x0;have a0:=S.out.k0;have d0:=S.out.k1;go_wp2_with fail;refine(S.out.zero 4 free (by simp) (by have:=HK.out;omega)).mono ?_;clear S x0 a0 d0;rintro e u ⟨rfl,o,S⟩;have x0:=S.out.tx.x0;have a0:=S.out.k0;have d0:=S.out.k1;go_wp2_with fail;go_region_held3 (fun w'=>w'.cell? ⟨br,0,none⟩=some (.pointer (some ⟨bc,0,none⟩))/\w'.cell? ⟨ba,0,none⟩=some (.pointer (some ⟨br,0,none⟩))/\w'.cell? ⟨bd,0,none⟩=some (.int .i64 (rel:Int))) (refine⟨?_,?_,?_⟩<;>first|assumption|simp only[World.cell?_drew, *]) (first
  |(go_at_call 121;refine(S.out.drew.with_ 2 2 (2*t.th+1) 3).mono ?_;clear x0 a0 d0;rintro e u ⟨rfl,o,SL⟩;have x0:=SL.out.tx.x0;have a0:=SL.out.k0;have d0:=SL.out.k1)
  |(go_at_call 164;refine(AX S.out.drew.tx OK.out).mono ?_;rintro e wk ⟨rfl,rfl⟩)
  )
 clear S;have S:=SL;clear SL;go_wp2_with fail;refine(S.out.ut (iL S.out.tx OK.out 2 (S.out.live rel (by simp)) (by have:=HK.out;omega))).mono ?_;clear S x0 a0 d0;rintro e u ⟨rfl,o,S⟩;have x0:=S.out.tx.x0;have a0:=S.out.k0;have d0:=S.out.k1;go_wp2_with fail;refine(S.out.ut (Ag S.out.tx OK.out (by have:=HK.out;omega))).mono ?_;clear S x0 a0 d0;rintro e u ⟨rfl,o,S⟩;have x0:=S.out.tx.x0;have a0:=S.out.k0;have d0:=S.out.k1;go_wp2_with fail;refine(S.out.load 2 5 0).mono ?_;clear S x0 a0 d0;rintro e u ⟨rfl,o,S⟩;have x0:=S.out.tx.x0;have a0:=S.out.k0;have d0:=S.out.k1;go_wp2_with fail;refine(S.out.here free (by simp)).mono ?_;clear S x0 a0 d0;rintro e u ⟨rfl,o,S⟩;have x0:=S.out.tx.x0;have a0:=S.out.k0;have d0:=S.out.k1;go_wp2_with fail;refine(S.out.with_ 10 2 1 3).mono ?_;clear S x0 a0 d0;rintro e u ⟨rfl,o,S⟩;have x0:=S.out.tx.x0;have a0:=S.out.k0;have d0:=S.out.k1;go_wp2_with fail;refine(S.out.get OK.out 4 0 (by decide)).mono ?_;clear S x0 a0 d0;rintro e u ⟨rfl,o,S⟩;have x0:=S.out.tx.x0;have a0:=S.out.k0;have d0:=S.out.k1;go_wp2_with fail;refine(S.out.calc 13 4 2).mono ?_;clear S x0 a0 d0;rintro e u ⟨rfl,o,S⟩;have x0:=S.out.tx.x0;have a0:=S.out.k0;have d0:=S.out.k1;go_wp2_with fail;refine(S.out.ut (iL S.out.tx OK.out 4 (S.out.live rel (by simp)) (by have:=HK.out;omega))).mono ?_;clear S x0 a0 d0;rintro e u ⟨rfl,o,S⟩;have x0:=S.out.tx.x0;have a0:=S.out.k0;have d0:=S.out.k1;go_wp2_with fail;go_end0;cases Z9.out;exact⟨rfl,_,S.out.tx,S.out.turn,S.out.lab⟩
end Go.Proofs.YtopdcjimpdalpaaGreat

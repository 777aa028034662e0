import Derived.Test.YtopdcjimpdalpaaGreatQ15
namespace Go.Proofs.YtopdcjimpdalpaaGreat
open Go.RowKit Go.Maps
set_option linter.all false
set_option maxHeartbeats 4000000
set_option maxRecDepth 100000
variable {w w' w1 w2:World} {own dG jA:Nat->Prop} {bc k br:Nat} {tv:Value} {t:dw}
def Cd.sO (t:dw) (c0:Cd):Cd:=
 let loop:=c0.aI.length
 let c1:=c0.label
 let fin:=c1.aI.length
 let c2:=c1.label
 let c3:=c2.get t 6 2
 let c4:=c3.set 5 t.log
 let c5:=c4.here loop
 let c6:=c5.zero 6 fin
 let c7:=c6.Cq t
 let c8:=c7.with_ 1 5 2 4
 let c9:=c8.with_ 2 6 1 4
 let c10:=c9.jump loop
 let c11:=c10.here fin
 c11
theorem A9 {c0:Cd} {ba:Nat} (h:dS w own br bc tv t c0 k) (ok:eO t) (hka:lG w own ba (.cells #[.pointer (some ⟨br,0,none⟩)] 166 (0,0))) (hk:k<=1099509000000):
  Calls Tryz.prog 130 #[.pointer (some ⟨br,0,none⟩),.func (.func 162) #[] #[.pointer (some ⟨ba,0,none⟩)]] w (w_ own w br bc tv t c0 (c0.sO t) (k+4)):=by
 have OK:=ag ok;have HK:=ag hk;have S:=ag ((Sq.start h).kp hka);have x0:=S.out.tx.x0;have x5:=S.out.tx.x5;have a0:=S.out.k0;clear h ok hk hka;go_in;go_wp2_with fail;have S0:=ag S.out.drew;clear S;go_region_held3 (fun w'=>w'.cell? ⟨br,0,none⟩=some (.pointer (some ⟨bc,0,none⟩))/\w'.cell? ⟨ba,0,none⟩=some (.pointer (some ⟨br,0,none⟩))) (refine⟨?_,?_⟩<;>first|assumption|simp only[World.cell?_drew, *]) (first
  |(go_at_call 85;refine(S1.out.label (by have:=HK.out;omega)).mono ?_;clear S1 x0 x5 a0;rintro e u ⟨fin,o,rfl,zH,S2⟩;have x0:=S2.out.tx.x0;have x5:=S2.out.tx.x5;have a0:=S2.out.k0)
  |(go_at_call 85;refine(S0.out.label (by have:=HK.out;omega)).mono ?_;clear S0 x0 x5 a0;rintro e u ⟨loop,o,rfl,qm,S1⟩;have x0:=S1.out.tx.x0;have x5:=S1.out.tx.x5;have a0:=S1.out.k0)
  )
 have S:=S2;clear S2;go_wp2_with fail;refine(S.out.get OK.out 6 2 (by decide)).mono ?_;clear S x0 x5 a0;rintro e u ⟨rfl,o,S⟩;have x0:=S.out.tx.x0;have x5:=S.out.tx.x5;have a0:=S.out.k0;go_wp2_with fail;go_still_tail 9,(by kernel_rfl)
 go_wp2_with fail;refine(S.out.drew.set 5 t.log).mono ?_;clear S x0 x5 a0;rintro e u ⟨rfl,o,S⟩;have x0:=S.out.tx.x0;have x5:=S.out.tx.x5;have a0:=S.out.k0;go_wp2_with fail;refine(S.out.here loop (by simp)).mono ?_;clear S x0 x5 a0;rintro e u ⟨rfl,o,S⟩;have x0:=S.out.tx.x0;have x5:=S.out.tx.x5;have a0:=S.out.k0;go_wp2_with fail;refine(S.out.zero 6 fin (by simp) (by have:=HK.out;omega)).mono ?_;clear S x0 x5 a0;rintro e u ⟨rfl,o,S⟩;have x0:=S.out.tx.x0;have x5:=S.out.tx.x5;have a0:=S.out.k0;go_wp2_with fail;refine(S.out.ut (Gj S.out.tx OK.out (S.out.keep _ (.head _)) (by have:=HK.out;omega))).mono ?_;clear S x0 x5 a0;rintro e u ⟨rfl,o,S⟩;have x0:=S.out.tx.x0;have x5:=S.out.tx.x5;have a0:=S.out.k0;go_wp2_with fail;refine(S.out.with_ 1 5 2 4).mono ?_;clear S x0 x5 a0;rintro e u ⟨rfl,o,S⟩;have x0:=S.out.tx.x0;have x5:=S.out.tx.x5;have a0:=S.out.k0;go_wp2_with fail;refine(S.out.with_ 2 6 1 4).mono ?_;clear S x0 x5 a0;rintro e u ⟨rfl,o,S⟩;have x0:=S.out.tx.x0;have x5:=S.out.tx.x5;have a0:=S.out.k0;go_wp2_with fail;refine(S.out.jump loop (by simp) (by have:=HK.out;omega)).mono ?_;clear S x0 x5 a0;rintro e u ⟨rfl,o,S⟩;have x0:=S.out.tx.x0;have x5:=S.out.tx.x5;have a0:=S.out.k0;go_wp2_with fail;refine(S.out.here fin (by simp)).mono ?_;clear S x0 x5 a0;rintro e u ⟨rfl,o,S⟩;have x0:=S.out.tx.x0;have x5:=S.out.tx.x5;have a0:=S.out.k0;go_wp2_with fail;go_end0;cases zH.out;cases qm.out;exact⟨rfl,_,S.out.tx,S.out.turn,S.out.lab⟩
def Cd.rY (t:dw) (c0:Cd):Cd:=
 let loop:=c0.aI.length
 let c1:=c0.label
 let fin:=c1.aI.length
 let c2:=c1.label
 let c3:=c2.get t 6 2
 let c4:=c3.set 5 t.log
 let c5:=c4.here loop
 let c6:=c5.zero 6 fin
 let c7:=c6.zq t
 let c8:=c7.with_ 1 5 2 4
 let c9:=c8.with_ 2 6 1 4
 let c10:=c9.jump loop
 let c11:=c10.here fin
 c11
theorem Bh {c0:Cd} {ba:Nat} (h:dS w own br bc tv t c0 k) (ok:eO t) (hka:lG w own ba (.cells #[.pointer (some ⟨br,0,none⟩)] 166 (0,0))) (hk:k<=1099509000000):
  Calls Tryz.prog 130 #[.pointer (some ⟨br,0,none⟩),.func (.func 131) #[] #[.pointer (some ⟨ba,0,none⟩)]] w (w_ own w br bc tv t c0 (c0.rY t) (k+4)):=by
 have OK:=ag ok;have HK:=ag hk;have S:=ag ((Sq.start h).kp hka);have x0:=S.out.tx.x0;have x5:=S.out.tx.x5;have a0:=S.out.k0;clear h ok hk hka;go_in;go_wp2_with fail;have S0:=ag S.out.drew;clear S;go_region_held3 (fun w'=>w'.cell? ⟨br,0,none⟩=some (.pointer (some ⟨bc,0,none⟩))/\w'.cell? ⟨ba,0,none⟩=some (.pointer (some ⟨br,0,none⟩))) (refine⟨?_,?_⟩<;>first|assumption|simp only[World.cell?_drew, *]) (first
  |(go_at_call 85;refine(S1.out.label (by have:=HK.out;omega)).mono ?_;clear S1 x0 x5 a0;rintro e u ⟨fin,o,rfl,zH,S2⟩;have x0:=S2.out.tx.x0;have x5:=S2.out.tx.x5;have a0:=S2.out.k0)
  |(go_at_call 85;refine(S0.out.label (by have:=HK.out;omega)).mono ?_;clear S0 x0 x5 a0;rintro e u ⟨loop,o,rfl,qm,S1⟩;have x0:=S1.out.tx.x0;have x5:=S1.out.tx.x5;have a0:=S1.out.k0)
  )
 have S:=S2;clear S2;go_wp2_with fail;refine(S.out.get OK.out 6 2 (by decide)).mono ?_;clear S x0 x5 a0;rintro e u ⟨rfl,o,S⟩;have x0:=S.out.tx.x0;have x5:=S.out.tx.x5;have a0:=S.out.k0;go_wp2_with fail;go_still_tail 9,(by kernel_rfl)
 go_wp2_with fail;refine(S.out.drew.set 5 t.log).mono ?_;clear S x0 x5 a0;rintro e u ⟨rfl,o,S⟩;have x0:=S.out.tx.x0;have x5:=S.out.tx.x5;have a0:=S.out.k0;go_wp2_with fail;refine(S.out.here loop (by simp)).mono ?_;clear S x0 x5 a0;rintro e u ⟨rfl,o,S⟩;have x0:=S.out.tx.x0;have x5:=S.out.tx.x5;have a0:=S.out.k0;go_wp2_with fail;refine(S.out.zero 6 fin (by simp) (by have:=HK.out;omega)).mono ?_;clear S x0 x5 a0;rintro e u ⟨rfl,o,S⟩;have x0:=S.out.tx.x0;have x5:=S.out.tx.x5;have a0:=S.out.k0;go_wp2_with fail;refine(S.out.ut (DN S.out.tx OK.out (S.out.keep _ (.head _)) (by have:=HK.out;omega))).mono ?_;clear S x0 x5 a0;rintro e u ⟨rfl,o,S⟩;have x0:=S.out.tx.x0;have x5:=S.out.tx.x5;have a0:=S.out.k0;go_wp2_with fail;refine(S.out.with_ 1 5 2 4).mono ?_;clear S x0 x5 a0;rintro e u ⟨rfl,o,S⟩;have x0:=S.out.tx.x0;have x5:=S.out.tx.x5;have a0:=S.out.k0;go_wp2_with fail;refine(S.out.with_ 2 6 1 4).mono ?_;clear S x0 x5 a0;rintro e u ⟨rfl,o,S⟩;have x0:=S.out.tx.x0;have x5:=S.out.tx.x5;have a0:=S.out.k0;go_wp2_with fail;refine(S.out.jump loop (by simp) (by have:=HK.out;omega)).mono ?_;clear S x0 x5 a0;rintro e u ⟨rfl,o,S⟩;have x0:=S.out.tx.x0;have x5:=S.out.tx.x5;have a0:=S.out.k0;go_wp2_with fail;refine(S.out.here fin (by simp)).mono ?_;clear S x0 x5 a0;rintro e u ⟨rfl,o,S⟩;have x0:=S.out.tx.x0;have x5:=S.out.tx.x5;have a0:=S.out.k0;go_wp2_with fail;go_end0;cases zH.out;cases qm.out;exact⟨rfl,_,S.out.tx,S.out.turn,S.out.lab⟩
def Cd.sM (t:dw) (rel:Nat) (c0:Cd):Cd:=
 let loop:=c0.aI.length
 let c1:=c0.label
 let next:=c1.aI.length
 let c2:=c1.label
 let fin:=c2.aI.length
 let c3:=c2.label
 let c4:=c3.set 6 0
 let c5:=c4.here loop
 let c6:=c5.move 4 6
 let c7:=c6.with_ 13 4 16 3
 let c8:=c7.zero 4 fin
 let c9:=c8.get t 4 7
 let c10:=c9.calc 10 4 6
 let c11:=c10.with_ 6 4 1 3
 let c12:=c11.zero 4 next
 let c13:=c12.Cb t rel
 let c14:=c13.here next
 let c15:=c14.with_ 1 6 1 3
 let c16:=c15.jump loop
 let c17:=c16.here fin
 c17
theorem Bf {c0:Cd} {rel:Nat} {ba:Nat} {bd:Nat} (h:dS w own br bc tv t c0 k) (ok:eO t) (oW:rel<c0.aI.length) (hka:lG w own ba (.cells #[.pointer (some ⟨br,0,none⟩)] 166 (0,0))) (hkd:lG w own bd (.cells #[.int .i64 (rel:Int)] 169 (0,0))) (hk:k<=1099509000000):
  Calls Tryz.prog 132 #[.pointer (some ⟨br,0,none⟩),.int .i64 7,.func (.func 163) #[] #[.pointer (some ⟨ba,0,none⟩),.pointer (some ⟨bd,0,none⟩)]] w (w_ own w br bc tv t c0 (c0.sM t rel) (k+12)):=by
 have OK:=ag ok;have HK:=ag hk;have S:=ag ((((Sq.start h).kp hkd).kp hka).OI oW);have x0:=S.out.tx.x0;have a0:=S.out.k0;have d0:=S.out.k1;clear h ok hk oW hka hkd;go_in;go_wp2_with fail;have S0:=ag S.out.drew;clear S;go_region_held3 (fun w'=>w'.cell? ⟨br,0,none⟩=some (.pointer (some ⟨bc,0,none⟩))/\w'.cell? ⟨ba,0,none⟩=some (.pointer (some ⟨br,0,none⟩))/\w'.cell? ⟨bd,0,none⟩=some (.int .i64 (rel:Int))) (refine⟨?_,?_,?_⟩<;>first|assumption|simp only[World.cell?_drew, *]) (first
  |(go_at_call 85;refine(S2.out.label (by have:=HK.out;omega)).mono ?_;clear S2 x0 a0 d0;rintro e u ⟨fin,o,rfl,zH,S3⟩;have x0:=S3.out.tx.x0;have a0:=S3.out.k0;have d0:=S3.out.k1)
  |(go_at_call 85;refine(S1.out.label (by have:=HK.out;omega)).mono ?_;clear S1 x0 a0 d0;rintro e u ⟨next,o,rfl,BO,S2⟩;have x0:=S2.out.tx.x0;have a0:=S2.out.k0;have d0:=S2.out.k1)
  |(go_at_call 85;refine(S0.out.label (by have:=HK.out;omega)).mono ?_;clear S0 x0 a0 d0;rintro e u ⟨loop,o,rfl,qm,S1⟩;have x0:=S1.out.tx.x0;have a0:=S1.out.k0;have d0:=S1.out.k1)
  )
 have S:=S3;clear S3;go_wp2_with fail;refine(S.out.set 6 0).mono ?_;clear S x0 a0 d0;rintro e u ⟨rfl,o,S⟩;have x0:=S.out.tx.x0;have a0:=S.out.k0;have d0:=S.out.k1;go_wp2_with fail;refine(S.out.here loop (by simp)).mono ?_;clear S x0 a0 d0;rintro e u ⟨rfl,o,S⟩;have x0:=S.out.tx.x0;have a0:=S.out.k0;have d0:=S.out.k1;go_wp2_with fail;refine(S.out.move 4 6).mono ?_;clear S x0 a0 d0;rintro e u ⟨rfl,o,S⟩;have x0:=S.out.tx.x0;have a0:=S.out.k0;have d0:=S.out.k1;go_wp2_with fail;refine(S.out.with_ 13 4 16 3).mono ?_;clear S x0 a0 d0;rintro e u ⟨rfl,o,S⟩;have x0:=S.out.tx.x0;have a0:=S.out.k0;have d0:=S.out.k1;go_wp2_with fail;refine(S.out.zero 4 fin (by simp) (by have:=HK.out;omega)).mono ?_;clear S x0 a0 d0;rintro e u ⟨rfl,o,S⟩;have x0:=S.out.tx.x0;have a0:=S.out.k0;have d0:=S.out.k1;go_wp2_with fail;refine(S.out.get OK.out 4 7 (by decide)).mono ?_;clear S x0 a0 d0;rintro e u ⟨rfl,o,S⟩;have x0:=S.out.tx.x0;have a0:=S.out.k0;have d0:=S.out.k1;go_wp2_with fail;refine(S.out.calc 10 4 6).mono ?_;clear S x0 a0 d0;rintro e u ⟨rfl,o,S⟩;have x0:=S.out.tx.x0;have a0:=S.out.k0;have d0:=S.out.k1;go_wp2_with fail;refine(S.out.with_ 6 4 1 3).mono ?_;clear S x0 a0 d0;rintro e u ⟨rfl,o,S⟩;have x0:=S.out.tx.x0;have a0:=S.out.k0;have d0:=S.out.k1;go_wp2_with fail;refine(S.out.zero 4 next (by simp) (by have:=HK.out;omega)).mono ?_;clear S x0 a0 d0;rintro e u ⟨rfl,o,S⟩;have x0:=S.out.tx.x0;have a0:=S.out.k0;have d0:=S.out.k1;go_wp2_with fail;refine(S.out.ut (FV S.out.tx OK.out (S.out.live rel (by simp)) (S.out.keep _ (.head _)) (S.out.keep _ (.tail _ (.head _))) (by have:=HK.out;omega))).mono ?_;clear S x0 a0 d0;rintro e u ⟨rfl,o,S⟩;have x0:=S.out.tx.x0;have a0:=S.out.k0;have d0:=S.out.k1;go_wp2_with fail;refine(S.out.here next (by simp)).mono ?_;clear S x0 a0 d0;rintro e u ⟨rfl,o,S⟩;have x0:=S.out.tx.x0;have a0:=S.out.k0;have d0:=S.out.k1;go_wp2_with fail;refine(S.out.with_ 1 6 1 3).mono ?_;clear S x0 a0 d0;rintro e u ⟨rfl,o,S⟩;have x0:=S.out.tx.x0;have a0:=S.out.k0;have d0:=S.out.k1;go_wp2_with fail;refine(S.out.jump loop (by simp) (by have:=HK.out;omega)).mono ?_;clear S x0 a0 d0;rintro e u ⟨rfl,o,S⟩;have x0:=S.out.tx.x0;have a0:=S.out.k0;have d0:=S.out.k1;go_wp2_with fail;refine(S.out.here fin (by simp)).mono ?_;clear S x0 a0 d0;rintro e u ⟨rfl,o,S⟩;have x0:=S.out.tx.x0;have a0:=S.out.k0;have d0:=S.out.k1;go_wp2_with fail;go_end0;cases zH.out;cases BO.out;cases qm.out;exact⟨rfl,_,S.out.tx,S.out.turn,S.out.lab⟩
def Cd.su (t:dw) (rel:Nat) (c0:Cd):Cd:=
 let loop:=c0.aI.length
 let c1:=c0.label
 let next:=c1.aI.length
 let c2:=c1.label
 let fin:=c2.aI.length
 let c3:=c2.label
 let c4:=c3.set 6 0
 let c5:=c4.here loop
 let c6:=c5.move 4 6
 let c7:=c6.with_ 13 4 16 3
 let c8:=c7.zero 4 fin
 let c9:=c8.get t 4 1
 let c10:=c9.calc 10 4 6
 let c11:=c10.with_ 6 4 1 3
 let c12:=c11.zero 4 next
 let c13:=c12.Di t rel
 let c14:=c13.here next
 let c15:=c14.with_ 1 6 1 3
 let c16:=c15.jump loop
 let c17:=c16.here fin
 c17
theorem Bl {c0:Cd} {rel:Nat} {ba:Nat} {bd:Nat} (h:dS w own br bc tv t c0 k) (ok:eO t) (oW:rel<c0.aI.length) (hka:lG w own ba (.cells #[.pointer (some ⟨br,0,none⟩)] 166 (0,0))) (hkd:lG w own bd (.cells #[.int .i64 (rel:Int)] 169 (0,0))) (hk:k<=1099509000000):
  Calls Tryz.prog 132 #[.pointer (some ⟨br,0,none⟩),.int .i64 1,.func (.func 165) #[] #[.pointer (some ⟨ba,0,none⟩),.pointer (some ⟨bd,0,none⟩)]] w (w_ own w br bc tv t c0 (c0.su t rel) (k+14)):=by
 have OK:=ag ok;have HK:=ag hk;have S:=ag ((((Sq.start h).kp hkd).kp hka).OI oW);have x0:=S.out.tx.x0;have a0:=S.out.k0;have d0:=S.out.k1;clear h ok hk oW hka hkd;go_in;go_wp2_with fail;have S0:=ag S.out.drew;clear S;go_region_held3 (fun w'=>w'.cell? ⟨br,0,none⟩=some (.pointer (some ⟨bc,0,none⟩))/\w'.cell? ⟨ba,0,none⟩=some (.pointer (some ⟨br,0,none⟩))/\w'.cell? ⟨bd,0,none⟩=some (.int .i64 (rel:Int))) (refine⟨?_,?_,?_⟩<;>first|assumption|simp only[World.cell?_drew, *]) (first
  |(go_at_call 85;refine(S2.out.label (by have:=HK.out;omega)).mono ?_;clear S2 x0 a0 d0;rintro e u ⟨fin,o,rfl,zH,S3⟩;have x0:=S3.out.tx.x0;have a0:=S3.out.k0;have d0:=S3.out.k1)
  |(go_at_call 85;refine(S1.out.label (by have:=HK.out;omega)).mono ?_;clear S1 x0 a0 d0;rintro e u ⟨next,o,rfl,BO,S2⟩;have x0:=S2.out.tx.x0;have a0:=S2.out.k0;have d0:=S2.out.k1)
  |(go_at_call 85;refine(S0.out.label (by have:=HK.out;omega)).mono ?_;clear S0 x0 a0 d0;rintro e u ⟨loop,o,rfl,qm,S1⟩;have x0:=S1.out.tx.x0;have a0:=S1.out.k0;have d0:=S1.out.k1)
  )
 have S:=S3;clear S3;go_wp2_with fail;refine(S.out.set 6 0).mono ?_;clear S x0 a0 d0;rintro e u ⟨rfl,o,S⟩;have x0:=S.out.tx.x0;have a0:=S.out.k0;have d0:=S.out.k1;go_wp2_with fail;refine(S.out.here loop (by simp)).mono ?_;clear S x0 a0 d0;rintro e u ⟨rfl,o,S⟩;have x0:=S.out.tx.x0;have a0:=S.out.k0;have d0:=S.out.k1;go_wp2_with fail;refine(S.out.move 4 6).mono ?_;clear S x0 a0 d0;rintro e u ⟨rfl,o,S⟩;have x0:=S.out.tx.x0;have a0:=S.out.k0;have d0:=S.out.k1;go_wp2_with fail;refine(S.out.with_ 13 4 16 3).mono ?_;clear S x0 a0 d0;rintro e u ⟨rfl,o,S⟩;have x0:=S.out.tx.x0;have a0:=S.out.k0;have d0:=S.out.k1;go_wp2_with fail;refine(S.out.zero 4 fin (by simp) (by have:=HK.out;omega)).mono ?_;clear S x0 a0 d0;rintro e u ⟨rfl,o,S⟩;have x0:=S.out.tx.x0;have a0:=S.out.k0;have d0:=S.out.k1;go_wp2_with fail;refine(S.out.get OK.out 4 1 (by decide)).mono ?_;clear S x0 a0 d0;rintro e u ⟨rfl,o,S⟩;have x0:=S.out.tx.x0;have a0:=S.out.k0;have d0:=S.out.k1;go_wp2_with fail;refine(S.out.calc 10 4 6).mono ?_;clear S x0 a0 d0;rintro e u ⟨rfl,o,S⟩;have x0:=S.out.tx.x0;have a0:=S.out.k0;have d0:=S.out.k1;go_wp2_with fail;refine(S.out.with_ 6 4 1 3).mono ?_;clear S x0 a0 d0;rintro e u ⟨rfl,o,S⟩;have x0:=S.out.tx.x0;have a0:=S.out.k0;have d0:=S.out.k1;go_wp2_with fail;refine(S.out.zero 4 next (by simp) (by have:=HK.out;omega)).mono ?_;clear S x0 a0 d0;rintro e u ⟨rfl,o,S⟩;have x0:=S.out.tx.x0;have a0:=S.out.k0;have d0:=S.out.k1;go_wp2_with fail;refine(S.out.ut (Gh S.out.tx OK.out (S.out.live rel (by simp)) (S.out.keep _ (.head _)) (S.out.keep _ (.tail _ (.head _))) (by have:=HK.out;omega))).mono ?_;clear S x0 a0 d0;rintro e u ⟨rfl,o,S⟩;have x0:=S.out.tx.x0;have a0:=S.out.k0;have d0:=S.out.k1;go_wp2_with fail;refine(S.out.here next (by simp)).mono ?_;clear S x0 a0 d0;rintro e u ⟨rfl,o,S⟩;have x0:=S.out.tx.x0;have a0:=S.out.k0;have d0:=S.out.k1;go_wp2_with fail;refine(S.out.with_ 1 6 1 3).mono ?_;clear S x0 a0 d0;rintro e u ⟨rfl,o,S⟩;have x0:=S.out.tx.x0;have a0:=S.out.k0;have d0:=S.out.k1;go_wp2_with fail;refine(S.out.jump loop (by simp) (by have:=HK.out;omega)).mono ?_;clear S x0 a0 d0;rintro e u ⟨rfl,o,S⟩;have x0:=S.out.tx.x0;have a0:=S.out.k0;have d0:=S.out.k1;go_wp2_with fail;refine(S.out.here fin (by simp)).mono ?_;clear S x0 a0 d0;rintro e u ⟨rfl,o,S⟩;have x0:=S.out.tx.x0;have a0:=S.out.k0;have d0:=S.out.k1;go_wp2_with fail;go_end0;cases zH.out;cases BO.out;cases qm.out;exact⟨rfl,_,S.out.tx,S.out.turn,S.out.lab⟩
def Cd.sG (t:dw) (c0:Cd):Cd:=
 let loop:=c0.aI.length
 let c1:=c0.label
 let next:=c1.aI.length
 let c2:=c1.label
 let fin:=c2.aI.length
 let c3:=c2.label
 let c4:=c3.set 6 0
 let c5:=c4.here loop
 let c6:=c5.move 4 6
 let c7:=c6.with_ 13 4 16 3
 let c8:=c7.zero 4 fin
 let c9:=c8.get t 4 6
 let c10:=c9.calc 10 4 6
 let c11:=c10.with_ 6 4 1 3
 let c12:=c11.zero 4 next
 let c13:=c12.yY t
 let c14:=c13.here next
 let c15:=c14.with_ 1 6 1 3
 let c16:=c15.jump loop
 let c17:=c16.here fin
 c17
theorem A_ {c0:Cd} {ba:Nat} (h:dS w own br bc tv t c0 k) (ok:eO t) (hka:lG w own ba (.cells #[.pointer (some ⟨br,0,none⟩)] 166 (0,0))) (hk:k<=1099509000000):
  Calls Tryz.prog 132 #[.pointer (some ⟨br,0,none⟩),.int .i64 6,.func (.func 133) #[] #[.pointer (some ⟨ba,0,none⟩)]] w (w_ own w br bc tv t c0 (c0.sG t) (k+6)):=by
 have OK:=ag ok;have HK:=ag hk;have S:=ag ((Sq.start h).kp hka);have x0:=S.out.tx.x0;have a0:=S.out.k0;clear h ok hk hka;go_in;go_wp2_with fail;have S0:=ag S.out.drew;clear S;go_region_held3 (fun w'=>w'.cell? ⟨br,0,none⟩=some (.pointer (some ⟨bc,0,none⟩))/\w'.cell? ⟨ba,0,none⟩=some (.pointer (some ⟨br,0,none⟩))) (refine⟨?_,?_⟩<;>first|assumption|simp only[World.cell?_drew, *]) (first
  |(go_at_call 85;refine(S2.out.label (by have:=HK.out;omega)).mono ?_;clear S2 x0 a0;rintro e u ⟨fin,o,rfl,zH,S3⟩;have x0:=S3.out.tx.x0;have a0:=S3.out.k0)
  |(go_at_call 85;refine(S1.out.label (by have:=HK.out;omega)).mono ?_;clear S1 x0 a0;rintro e u ⟨next,o,rfl,BO,S2⟩;have x0:=S2.out.tx.x0;have a0:=S2.out.k0)
  |(go_at_call 85;refine(S0.out.label (by have:=HK.out;omega)).mono ?_;clear S0 x0 a0;rintro e u ⟨loop,o,rfl,qm,S1⟩;have x0:=S1.out.tx.x0;have a0:=S1.out.k0)
  )
 have S:=S3;clear S3;go_wp2_with fail;refine(S.out.set 6 0).mono ?_;clear S x0 a0;rintro e u ⟨rfl,o,S⟩;have x0:=S.out.tx.x0;have a0:=S.out.k0;go_wp2_with fail;refine(S.out.here loop (by simp)).mono ?_;clear S x0 a0;rintro e u ⟨rfl,o,S⟩;have x0:=S.out.tx.x0;have a0:=S.out.k0;go_wp2_with fail;refine(S.out.move 4 6).mono ?_;clear S x0 a0;rintro e u ⟨rfl,o,S⟩;have x0:=S.out.tx.x0;have a0:=S.out.k0;go_wp2_with fail;refine(S.out.with_ 13 4 16 3).mono ?_;clear S x0 a0;rintro e u ⟨rfl,o,S⟩;have x0:=S.out.tx.x0;have a0:=S.out.k0;go_wp2_with fail;refine(S.out.zero 4 fin (by simp) (by have:=HK.out;omega)).mono ?_;clear S x0 a0;rintro e u ⟨rfl,o,S⟩;have x0:=S.out.tx.x0;have a0:=S.out.k0;go_wp2_with fail;refine(S.out.get OK.out 4 6 (by decide)).mono ?_;clear S x0 a0;rintro e u ⟨rfl,o,S⟩;have x0:=S.out.tx.x0;have a0:=S.out.k0;go_wp2_with fail;refine(S.out.calc 10 4 6).mono ?_;clear S x0 a0;rintro e u ⟨rfl,o,S⟩;have x0:=S.out.tx.x0;have a0:=S.out.k0;go_wp2_with fail;refine(S.out.with_ 6 4 1 3).mono ?_;clear S x0 a0;rintro e u ⟨rfl,o,S⟩;have x0:=S.out.tx.x0;have a0:=S.out.k0;go_wp2_with fail;refine(S.out.zero 4 next (by simp) (by have:=HK.out;omega)).mono ?_;clear S x0 a0;rintro e u ⟨rfl,o,S⟩;have x0:=S.out.tx.x0;have a0:=S.out.k0;go_wp2_with fail;refine(S.out.ut (DU S.out.tx OK.out (S.out.keep _ (.head _)) (by have:=HK.out;omega))).mono ?_;clear S x0 a0;rintro e u ⟨rfl,o,S⟩;have x0:=S.out.tx.x0;have a0:=S.out.k0;go_wp2_with fail;refine(S.out.here next (by simp)).mono ?_;clear S x0 a0;rintro e u ⟨rfl,o,S⟩;have x0:=S.out.tx.x0;have a0:=S.out.k0;go_wp2_with fail;refine(S.out.with_ 1 6 1 3).mono ?_;clear S x0 a0;rintro e u ⟨rfl,o,S⟩;have x0:=S.out.tx.x0;have a0:=S.out.k0;go_wp2_with fail;refine(S.out.jump loop (by simp) (by have:=HK.out;omega)).mono ?_;clear S x0 a0;rintro e u ⟨rfl,o,S⟩;have x0:=S.out.tx.x0;have a0:=S.out.k0;go_wp2_with fail;refine(S.out.here fin (by simp)).mono ?_;clear S x0 a0;rintro e u ⟨rfl,o,S⟩;have x0:=S.out.tx.x0;have a0:=S.out.k0;go_wp2_with fail;go_end0;cases zH.out;cases BO.out;cases qm.out;exact⟨rfl,_,S.out.tx,S.out.turn,S.out.lab⟩
def Cd.sS (t:dw) (c0:Cd):Cd:=
 let loop:=c0.aI.length
 let c1:=c0.label
 let next:=c1.aI.length
 let c2:=c1.label
 let fin:=c2.aI.length
 let c3:=c2.label
 let c4:=c3.set 6 0
 let c5:=c4.here loop
 let c6:=c5.move 4 6
 let c7:=c6.with_ 13 4 16 3
 let c8:=c7.zero 4 fin
 let c9:=c8.get t 4 6
 let c10:=c9.calc 10 4 6
 let c11:=c10.with_ 6 4 1 3
 let c12:=c11.zero 4 next
 let c13:=c12.yB t
 let c14:=c13.here next
 let c15:=c14.with_ 1 6 1 3
 let c16:=c15.jump loop
 let c17:=c16.here fin
 c17
theorem Bp {c0:Cd} {ba:Nat} (h:dS w own br bc tv t c0 k) (ok:eO t) (hka:lG w own ba (.cells #[.pointer (some ⟨br,0,none⟩)] 166 (0,0))) (hk:k<=1099509000000):
  Calls Tryz.prog 132 #[.pointer (some ⟨br,0,none⟩),.int .i64 6,.func (.func 135) #[] #[.pointer (some ⟨ba,0,none⟩)]] w (w_ own w br bc tv t c0 (c0.sS t) (k+6)):=by
 have OK:=ag ok;have HK:=ag hk;have S:=ag ((Sq.start h).kp hka);have x0:=S.out.tx.x0;have a0:=S.out.k0;clear h ok hk hka;go_in;go_wp2_with fail;have S0:=ag S.out.drew;clear S;go_region_held3 (fun w'=>w'.cell? ⟨br,0,none⟩=some (.pointer (some ⟨bc,0,none⟩))/\w'.cell? ⟨ba,0,none⟩=some (.pointer (some ⟨br,0,none⟩))) (refine⟨?_,?_⟩<;>first|assumption|simp only[World.cell?_drew, *]) (first
  |(go_at_call 85;refine(S2.out.label (by have:=HK.out;omega)).mono ?_;clear S2 x0 a0;rintro e u ⟨fin,o,rfl,zH,S3⟩;have x0:=S3.out.tx.x0;have a0:=S3.out.k0)
  |(go_at_call 85;refine(S1.out.label (by have:=HK.out;omega)).mono ?_;clear S1 x0 a0;rintro e u ⟨next,o,rfl,BO,S2⟩;have x0:=S2.out.tx.x0;have a0:=S2.out.k0)
  |(go_at_call 85;refine(S0.out.label (by have:=HK.out;omega)).mono ?_;clear S0 x0 a0;rintro e u ⟨loop,o,rfl,qm,S1⟩;have x0:=S1.out.tx.x0;have a0:=S1.out.k0)
  )
 have S:=S3;clear S3;go_wp2_with fail;refine(S.out.set 6 0).mono ?_;clear S x0 a0;rintro e u ⟨rfl,o,S⟩;have x0:=S.out.tx.x0;have a0:=S.out.k0;go_wp2_with fail;refine(S.out.here loop (by simp)).mono ?_;clear S x0 a0;rintro e u ⟨rfl,o,S⟩;have x0:=S.out.tx.x0;have a0:=S.out.k0;go_wp2_with fail;refine(S.out.move 4 6).mono ?_;clear S x0 a0;rintro e u ⟨rfl,o,S⟩;have x0:=S.out.tx.x0;have a0:=S.out.k0;go_wp2_with fail;refine(S.out.with_ 13 4 16 3).mono ?_;clear S x0 a0;rintro e u ⟨rfl,o,S⟩;have x0:=S.out.tx.x0;have a0:=S.out.k0;go_wp2_with fail;refine(S.out.zero 4 fin (by simp) (by have:=HK.out;omega)).mono ?_;clear S x0 a0;rintro e u ⟨rfl,o,S⟩;have x0:=S.out.tx.x0;have a0:=S.out.k0;go_wp2_with fail;refine(S.out.get OK.out 4 6 (by decide)).mono ?_;clear S x0 a0;rintro e u ⟨rfl,o,S⟩;have x0:=S.out.tx.x0;have a0:=S.out.k0;go_wp2_with fail;refine(S.out.calc 10 4 6).mono ?_;clear S x0 a0;rintro e u ⟨rfl,o,S⟩;have x0:=S.out.tx.x0;have a0:=S.out.k0;go_wp2_with fail;refine(S.out.with_ 6 4 1 3).mono ?_;clear S x0 a0;rintro e u ⟨rfl,o,S⟩;have x0:=S.out.tx.x0;have a0:=S.out.k0;go_wp2_with fail;refine(S.out.zero 4 next (by simp) (by have:=HK.out;omega)).mono ?_;clear S x0 a0;rintro e u ⟨rfl,o,S⟩;have x0:=S.out.tx.x0;have a0:=S.out.k0;go_wp2_with fail;refine(S.out.ut (Eb S.out.tx OK.out (S.out.keep _ (.head _)) (by have:=HK.out;omega))).mono ?_;clear S x0 a0;rintro e u ⟨rfl,o,S⟩;have x0:=S.out.tx.x0;have a0:=S.out.k0;go_wp2_with fail;refine(S.out.here next (by simp)).mono ?_;clear S x0 a0;rintro e u ⟨rfl,o,S⟩;have x0:=S.out.tx.x0;have a0:=S.out.k0;go_wp2_with fail;refine(S.out.with_ 1 6 1 3).mono ?_;clear S x0 a0;rintro e u ⟨rfl,o,S⟩;have x0:=S.out.tx.x0;have a0:=S.out.k0;go_wp2_with fail;refine(S.out.jump loop (by simp) (by have:=HK.out;omega)).mono ?_;clear S x0 a0;rintro e u ⟨rfl,o,S⟩;have x0:=S.out.tx.x0;have a0:=S.out.k0;go_wp2_with fail;refine(S.out.here fin (by simp)).mono ?_;clear S x0 a0;rintro e u ⟨rfl,o,S⟩;have x0:=S.out.tx.x0;have a0:=S.out.k0;go_wp2_with fail;go_end0;cases zH.out;cases BO.out;cases qm.out;exact⟨rfl,_,S.out.tx,S.out.turn,S.out.lab⟩
end Go.Proofs.YtopdcjimpdalpaaGreat

import Derived.Test.YtopdcjimpdalpaaGreatQ16
import Derived.Test.YtopdcjimpdalpaaGreatQ17
namespace Go.Proofs.YtopdcjimpdalpaaGreat
open Go.RowKit Go.Maps
set_option linter.all false
set_option maxHeartbeats 4000000
set_option maxRecDepth 100000
variable {w w' w1 w2:World} {own dG jA:Nat->Prop} {bc k br:Nat} {tv:Value} {t:dw}
def Cd.aN (t:dw) (rel:Nat) (c0:Cd):Cd:=
 let c1:=c0.set 2 0
 let c2:=c1.sO t
 let c3:=c2.pO t 7 2
 let c4:=c3.sM t rel
 c4
theorem Jm {c0:Cd} {rel:Nat} (h:dS w own br bc tv t c0 k) (ok:eO t) (oW:rel<c0.aI.length) (hk:k<=1099508000000):
  Calls Tryz.prog 124 #[.pointer (some ⟨br,0,none⟩),.int .i64 (rel:Int)] w (w_ own w br bc tv t c0 (c0.aN t rel) (k+16)):=by
 have OK:=ag ok;have HK:=ag hk;have S:=ag ((Sq.start h).OI oW);have x0:=S.out.tx.x0;have U0:∀(fn:Fn) (first cap:Array Value) (w:World),(Instr.makeFunc fn first cap).run Tryz.prog w= .ok (.func fn first cap) w:=fun _ _ _ _=>rfl
 clear h ok hk oW;go_in;have hbr:=lt_of_block S.out.tx.row.blk;go_wp2_with fail;replace S:=ag (S.out.box (.cells #[.pointer (some ⟨br,0,none⟩)] 166));replace S:=ag (S.out.box (.cells #[.int .i64 (rel:Int)] 169));rw[World.size_alloc] at S;obtain⟨bd,hbd⟩:∃x,x=w.heap.size+1:=⟨_,rfl⟩;rw[<-hbd] at S⊢;clear hbd;obtain⟨ba,Ng⟩:∃x,x=w.heap.size:=⟨_,rfl⟩;rw[<-Ng] at S⊢;clear Ng;clear hbr x0;generalize(w.alloc (.cells #[.pointer (some ⟨br,0,none⟩)] 166)).alloc (.cells #[.int .i64 (rel:Int)] 169)=wb at S⊢;have x0:=S.out.tx.x0;have d0:=S.out.k0;have a0:=S.out.k1;go_wp2_with fail;refine(S.out.set 2 0).mono ?_;clear S x0 d0 a0;rintro e u ⟨rfl,o,S⟩;have x0:=S.out.tx.x0;have d0:=S.out.k0;have a0:=S.out.k1;go_wp2_with fail;refine(S.out.ut (A9 S.out.tx OK.out (S.out.keep _ (.tail _ (.head _))) (by have:=HK.out;omega))).mono ?_;clear S x0 d0 a0;rintro e u ⟨rfl,o,S⟩;have x0:=S.out.tx.x0;have d0:=S.out.k0;have a0:=S.out.k1;go_wp2_with fail;refine(S.out.pO OK.out 7 2 (by decide)).mono ?_;clear S x0 d0 a0;rintro e u ⟨rfl,o,S⟩;have x0:=S.out.tx.x0;have d0:=S.out.k0;have a0:=S.out.k1;go_wp2_with fail;refine(S.out.ut (Bf S.out.tx OK.out (S.out.live rel (by simp)) (S.out.keep _ (.tail _ (.head _))) (S.out.keep _ (.head _)) (by have:=HK.out;omega))).mono ?_;clear S x0 d0 a0;rintro e u ⟨rfl,o,S⟩;have x0:=S.out.tx.x0;have d0:=S.out.k0;have a0:=S.out.k1;go_wp2_with fail;go_end0;exact⟨rfl,_,S.out.tx,S.out.turn,S.out.lab⟩
def Cd.validate (t:dw) (rel:Nat) (c0:Cd):Cd:=
 let c1:=c0.su t rel
 c1
theorem Dl {c0:Cd} {rel:Nat} (h:dS w own br bc tv t c0 k) (ok:eO t) (oW:rel<c0.aI.length) (hk:k<=1099508000000):
  Calls Tryz.prog 128 #[.pointer (some ⟨br,0,none⟩),.int .i64 (rel:Int)] w (w_ own w br bc tv t c0 (c0.validate t rel) (k+14)):=by
 have OK:=ag ok;have HK:=ag hk;have S:=ag ((Sq.start h).OI oW);have x0:=S.out.tx.x0;have U0:∀(fn:Fn) (first cap:Array Value) (w:World),(Instr.makeFunc fn first cap).run Tryz.prog w= .ok (.func fn first cap) w:=fun _ _ _ _=>rfl
 clear h ok hk oW;go_in;have hbr:=lt_of_block S.out.tx.row.blk;go_wp2_with fail;replace S:=ag (S.out.box (.cells #[.pointer (some ⟨br,0,none⟩)] 166));replace S:=ag (S.out.box (.cells #[.int .i64 (rel:Int)] 169));rw[World.size_alloc] at S;obtain⟨bd,hbd⟩:∃x,x=w.heap.size+1:=⟨_,rfl⟩;rw[<-hbd] at S⊢;clear hbd;obtain⟨ba,Ng⟩:∃x,x=w.heap.size:=⟨_,rfl⟩;rw[<-Ng] at S⊢;clear Ng;clear hbr x0;generalize(w.alloc (.cells #[.pointer (some ⟨br,0,none⟩)] 166)).alloc (.cells #[.int .i64 (rel:Int)] 169)=wb at S⊢;have x0:=S.out.tx.x0;have d0:=S.out.k0;have a0:=S.out.k1;go_wp2_with fail;refine(S.out.ut (Bl S.out.tx OK.out (S.out.live rel (by simp)) (S.out.keep _ (.tail _ (.head _))) (S.out.keep _ (.head _)) (by have:=HK.out;omega))).mono ?_;clear S x0 d0 a0;rintro e u ⟨rfl,o,S⟩;have x0:=S.out.tx.x0;have d0:=S.out.k0;have a0:=S.out.k1;go_wp2_with fail;go_end0;exact⟨rfl,_,S.out.tx,S.out.turn,S.out.lab⟩
def Cd.aL (t:dw) (abort:Nat) (c0:Cd):Cd:=
 let rel:=c0.aI.length
 let c1:=c0.label
 let ro:=c1.aI.length
 let c2:=c1.label
 let tl:=c2.aI.length
 let c3:=c2.label
 let fine:=c3.aI.length
 let c4:=c3.label
 let c5:=c4.get t 0 2
 let c6:=c5.zero 0 ro
 let c7:=c6.aN t rel
 let c8:=c7.set 1 1
 let c9:=c8.put ⟨9,0,7,1,0,t.words+1⟩
 let c10:=c9.with_ 1 1 1 4
 let c11:=c10.pO t 7 1
 let c12:=c11.move 2 1
 let c13:=c12.with_ 13 2 2305843009213693952 4
 let c14:=c13.unless t 2 fine
 let c15:=c14.trap 7
 let c16:=c15.here fine
 let c17:=c16.validate t rel
 let c18:=c17.get t 1 7
 let c19:=c18.set 2 1
 let c20:=c19.note 7 1 2
 let c21:=c20.rY t
 let c22:=c21.get t 1 7
 let c23:=c22.calc 1 1 1
 let c24:=c23.sG t
 let c25:=c24.jump tl
 let c26:=c25.here rel
 let c27:=c26.sS t
 let c28:=c27.jump abort
 let c29:=c28.here ro
 let c30:=c29.get t 1 0
 let c31:=c30.note 7 1 7
 let c32:=c31.here tl
 let c33:=c32.tell t
 c33
theorem Gd {c0:Cd} {abort:Nat} (h:dS w own br bc tv t c0 k) (ok:eO t) (nK:abort<c0.aI.length) (hk:k<=1099507000000):
  Calls Tryz.prog 90 #[.pointer (some ⟨br,0,none⟩),.int .i64 (abort:Int)] w (w_ own w br bc tv t c0 (c0.aL t abort) (k+60)):=by
 have OK:=ag ok;have HK:=ag hk;have S:=ag ((Sq.start h).OI nK);have x0:=S.out.tx.x0;have U0:∀(fn:Fn) (first cap:Array Value) (w:World),(Instr.makeFunc fn first cap).run Tryz.prog w= .ok (.func fn first cap) w:=fun _ _ _ _=>rfl
 clear h ok hk nK;go_in;have hbr:=lt_of_block S.out.tx.row.blk;go_wp2_with fail;replace S:=ag (S.out.box (.cells #[.pointer (some ⟨br,0,none⟩)] 166));obtain⟨ba,Ng⟩:∃x,x=w.heap.size:=⟨_,rfl⟩;rw[<-Ng] at S⊢;clear Ng;clear hbr x0;generalize w.alloc (.cells #[.pointer (some ⟨br,0,none⟩)] 166)=wb at S⊢;have x0:=S.out.tx.x0;have a0:=S.out.k0;go_wp2_with fail;have S0:=ag S.out.drew;clear S;go_region_held3 (fun w'=>w'.cell? ⟨br,0,none⟩=some (.pointer (some ⟨bc,0,none⟩))/\w'.cell? ⟨ba,0,none⟩=some (.pointer (some ⟨br,0,none⟩))) (refine⟨?_,?_⟩<;>first|assumption|simp only[World.cell?_drew, *]) (first
  |(go_at_call 85;refine(S3.out.label (by have:=HK.out;omega)).mono ?_;clear S3 x0 a0;rintro e u ⟨fine,o,rfl,abv,S4⟩;have x0:=S4.out.tx.x0;have a0:=S4.out.k0)
  |(go_at_call 85;refine(S2.out.label (by have:=HK.out;omega)).mono ?_;clear S2 x0 a0;rintro e u ⟨tl,o,rfl,ftl,S3⟩;have x0:=S3.out.tx.x0;have a0:=S3.out.k0)
  |(go_at_call 85;refine(S1.out.label (by have:=HK.out;omega)).mono ?_;clear S1 x0 a0;rintro e u ⟨ro,o,rfl,fro,S2⟩;have x0:=S2.out.tx.x0;have a0:=S2.out.k0)
  |(go_at_call 85;refine(S0.out.label (by have:=HK.out;omega)).mono ?_;clear S0 x0 a0;rintro e u ⟨rel,o,rfl,adz,S1⟩;have x0:=S1.out.tx.x0;have a0:=S1.out.k0)
  )
 have S:=S4;clear S4;go_wp2_with fail;refine(S.out.get OK.out 0 2 (by decide)).mono ?_;clear S x0 a0;rintro e u ⟨rfl,o,S⟩;have x0:=S.out.tx.x0;have a0:=S.out.k0;go_wp2_with fail;refine(S.out.zero 0 ro (by simp) (by have:=HK.out;omega)).mono ?_;clear S x0 a0;rintro e u ⟨rfl,o,S⟩;have x0:=S.out.tx.x0;have a0:=S.out.k0;go_wp2_with fail;refine(S.out.ut (Jm S.out.tx OK.out (S.out.live rel (by simp)) (by have:=HK.out;omega))).mono ?_;clear S x0 a0;rintro e u ⟨rfl,o,S⟩;have x0:=S.out.tx.x0;have a0:=S.out.k0;go_wp2_with fail;refine(S.out.set 1 1).mono ?_;clear S x0 a0;rintro e u ⟨rfl,o,S⟩;have x0:=S.out.tx.x0;have a0:=S.out.k0;have y1:=S.out.tx.x1;have y2:=S.out.tx.x2;have y3:=S.out.tx.x3;have ew:wrap64 (t.words+1)=t.words+1:=by have:=OK.out.words;unfold wrap64;omega
 go_wp2_with fail;go_region_held3 (fun w'=>w'.cell? ⟨br,0,none⟩=some (.pointer (some ⟨bc,0,none⟩))/\w'.cell? ⟨br,1,none⟩=some (.int .i64 t.words)/\w'.cell? ⟨br,2,none⟩=some (tv)/\w'.cell? ⟨br,3,none⟩=some (.int .i64 t.size)/\w'.cell? ⟨ba,0,none⟩=some (.pointer (some ⟨br,0,none⟩))) (refine⟨?_,?_,?_,?_,?_⟩<;>first|assumption|simp only[World.cell?_drew, *]) (first
  |(go_at_call 95;refine(SK.out.Q6 ⟨9,0,7,1,0,t.words+1⟩).mono ?_;clear y1 y2 y3 x0 a0;rintro e u ⟨rfl,o,SL⟩;have x0:=SL.out.tx.x0;have a0:=SL.out.k0;have y1:=SL.out.tx.x1;have y2:=SL.out.tx.x2;have y3:=SL.out.tx.x3)
  |(go_at_call 118;refine(Eh _ _ _ _).mono ?_;rintro e wk ⟨rfl,hb⟩;rw[ew];have SK:=ag (S.out.drew.below hb);clear hb y1 y2 y3 x0 a0;have x0:=SK.out.tx.x0;have a0:=SK.out.k0;have y1:=SK.out.tx.x1;have y2:=SK.out.tx.x2;have y3:=SK.out.tx.x3)
  )
 clear S SK ew y1 y2 y3;have S:=SL;clear SL;go_wp2_with fail;refine(S.out.with_ 1 1 1 4).mono ?_;clear S x0 a0;rintro e u ⟨rfl,o,S⟩;have x0:=S.out.tx.x0;have a0:=S.out.k0;go_wp2_with fail;refine(S.out.pO OK.out 7 1 (by decide)).mono ?_;clear S x0 a0;rintro e u ⟨rfl,o,S⟩;have x0:=S.out.tx.x0;have a0:=S.out.k0;go_wp2_with fail;refine(S.out.move 2 1).mono ?_;clear S x0 a0;rintro e u ⟨rfl,o,S⟩;have x0:=S.out.tx.x0;have a0:=S.out.k0;go_wp2_with fail;refine(S.out.with_ 13 2 2305843009213693952 4).mono ?_;clear S x0 a0;rintro e u ⟨rfl,o,S⟩;have x0:=S.out.tx.x0;have a0:=S.out.k0;go_wp2_with fail;refine(S.out.ut (iL S.out.tx OK.out 2 (S.out.live fine (by simp)) (by have:=HK.out;omega))).mono ?_;clear S x0 a0;rintro e u ⟨rfl,o,S⟩;have x0:=S.out.tx.x0;have a0:=S.out.k0;go_wp2_with fail;refine(S.out.trap 7 (by decide)).mono ?_;clear S x0 a0;rintro e u ⟨rfl,o,S⟩;have x0:=S.out.tx.x0;have a0:=S.out.k0;go_wp2_with fail;refine(S.out.here fine (by simp)).mono ?_;clear S x0 a0;rintro e u ⟨rfl,o,S⟩;have x0:=S.out.tx.x0;have a0:=S.out.k0;go_wp2_with fail;refine(S.out.ut (Dl S.out.tx OK.out (S.out.live rel (by simp)) (by have:=HK.out;omega))).mono ?_;clear S x0 a0;rintro e u ⟨rfl,o,S⟩;have x0:=S.out.tx.x0;have a0:=S.out.k0;go_wp2_with fail;refine(S.out.get OK.out 1 7 (by decide)).mono ?_;clear S x0 a0;rintro e u ⟨rfl,o,S⟩;have x0:=S.out.tx.x0;have a0:=S.out.k0;go_wp2_with fail;refine(S.out.set 2 1).mono ?_;clear S x0 a0;rintro e u ⟨rfl,o,S⟩;have x0:=S.out.tx.x0;have a0:=S.out.k0;go_wp2_with fail;refine(S.out.note 7 1 2 (by decide)).mono ?_;clear S x0 a0;rintro e u ⟨rfl,o,S⟩;have x0:=S.out.tx.x0;have a0:=S.out.k0;go_wp2_with fail;refine(S.out.ut (Bh S.out.tx OK.out (S.out.keep _ (.head _)) (by have:=HK.out;omega))).mono ?_;clear S x0 a0;rintro e u ⟨rfl,o,S⟩;have x0:=S.out.tx.x0;have a0:=S.out.k0;go_wp2_with fail;refine(S.out.get OK.out 1 7 (by decide)).mono ?_;clear S x0 a0;rintro e u ⟨rfl,o,S⟩;have x0:=S.out.tx.x0;have a0:=S.out.k0;go_wp2_with fail;refine(S.out.calc 1 1 1).mono ?_;clear S x0 a0;rintro e u ⟨rfl,o,S⟩;have x0:=S.out.tx.x0;have a0:=S.out.k0;go_wp2_with fail;refine(S.out.ut (A_ S.out.tx OK.out (S.out.keep _ (.head _)) (by have:=HK.out;omega))).mono ?_;clear S x0 a0;rintro e u ⟨rfl,o,S⟩;have x0:=S.out.tx.x0;have a0:=S.out.k0;go_wp2_with fail;refine(S.out.jump tl (by simp) (by have:=HK.out;omega)).mono ?_;clear S x0 a0;rintro e u ⟨rfl,o,S⟩;have x0:=S.out.tx.x0;have a0:=S.out.k0;go_wp2_with fail;refine(S.out.here rel (by simp)).mono ?_;clear S x0 a0;rintro e u ⟨rfl,o,S⟩;have x0:=S.out.tx.x0;have a0:=S.out.k0;go_wp2_with fail;refine(S.out.ut (Bp S.out.tx OK.out (S.out.keep _ (.head _)) (by have:=HK.out;omega))).mono ?_;clear S x0 a0;rintro e u ⟨rfl,o,S⟩;have x0:=S.out.tx.x0;have a0:=S.out.k0;go_wp2_with fail;refine(S.out.jump abort (by simp) (by have:=HK.out;omega)).mono ?_;clear S x0 a0;rintro e u ⟨rfl,o,S⟩;have x0:=S.out.tx.x0;have a0:=S.out.k0;go_wp2_with fail;refine(S.out.here ro (by simp)).mono ?_;clear S x0 a0;rintro e u ⟨rfl,o,S⟩;have x0:=S.out.tx.x0;have a0:=S.out.k0;go_wp2_with fail;refine(S.out.get OK.out 1 0 (by decide)).mono ?_;clear S x0 a0;rintro e u ⟨rfl,o,S⟩;have x0:=S.out.tx.x0;have a0:=S.out.k0;go_wp2_with fail;refine(S.out.note 7 1 7 (by decide)).mono ?_;clear S x0 a0;rintro e u ⟨rfl,o,S⟩;have x0:=S.out.tx.x0;have a0:=S.out.k0;go_wp2_with fail;refine(S.out.here tl (by simp)).mono ?_;clear S x0 a0;rintro e u ⟨rfl,o,S⟩;have x0:=S.out.tx.x0;have a0:=S.out.k0;go_wp2_with fail;refine(S.out.ut (KH S.out.tx OK.out (by have:=HK.out;omega))).mono ?_;clear S x0 a0;rintro e u ⟨rfl,o,S⟩;have x0:=S.out.tx.x0;have a0:=S.out.k0;go_wp2_with fail;go_end0;cases abv.out;cases ftl.out;cases fro.out;cases adz.out;exact⟨rfl,_,S.out.tx,S.out.turn,S.out.lab⟩
end Go.Proofs.YtopdcjimpdalpaaGreat

import Derived.Test.YtopdcjimpdalpaaGreatQ18
namespace Go.Proofs.YtopdcjimpdalpaaGreat
open Go.RowKit Go.Maps
set_option linter.all false
set_option maxHeartbeats 4000000
set_option maxRecDepth 100000
variable {w w' w1 w2:World} {own dG jA:Nat->Prop} {bc k br:Nat} {tv:Value} {t:dw}
def aa6 (t:dw) (c:Cd) (j:Nat):Cd:=(([1,2,3,6]:List Int).take j).foldl (fun c a=>c.pO t a 7) c
theorem Y0 (t:dw) (c:Cd):aa6 t c 4=(((c.pO t 1 7).pO t 2 7).pO t 3 7).pO t 6 7:=rfl
def Cd.Ac (t:dw) (c0:Cd):Cd:=
 let c1:=c0.get t 1 4
 let c2:=c1.pO t 5 1
 let c3:=c2.pO t 1 7
 let c4:=c3.pO t 2 7
 let c5:=c4.pO t 3 7
 let c6:=c5.pO t 6 7
 let c7:=c6.put ⟨15,0,0,7,0,t.words+1⟩
 let c8:=c7.pO t 0 0
 c8
theorem F9 {c0:Cd} (h:dS w own br bc tv t c0 k) (ok:eO t) (hk:k<=1099509000000):
  Calls Tryz.prog 87 #[.pointer (some ⟨br,0,none⟩)] w (w_ own w br bc tv t c0 (c0.Ac t) (k+0)):=by
 have OK:=ag ok;have HK:=ag hk;have S:=ag (Sq.start h);have x0:=S.out.tx.x0;clear h ok hk;go_in;go_wp2_with fail;refine(S.out.get OK.out 1 4 (by decide)).mono ?_;clear S x0;rintro e u ⟨rfl,o,S⟩;have x0:=S.out.tx.x0;go_wp2_with fail;refine(S.out.pO OK.out 5 1 (by decide)).mono ?_;clear S x0;rintro e u ⟨rfl,o,S⟩;have x0:=S.out.tx.x0;go_wp2_with fail;replace S:=ag (S.out.box (.cells #[.int .i64 1,.int .i64 2,.int .i64 3,.int .i64 6] 3));obtain⟨bl,hbl⟩:∃x,x=u.heap.size:=⟨_,rfl⟩;rw[<-hbl] at S⊢;generalize u.alloc (.cells #[.int .i64 1,.int .i64 2,.int .i64 3,.int .i64 6] 3)=wl at S⊢;obtain⟨d,hd⟩:∃d,(c0.get t 1 4).pO t 5 1=d:=⟨_,rfl⟩;rw[hd] at S;have HD:=ag hd;clear x0 hbl hd;go_loopw [10] (fun i wr=>∃(j:Nat) (oj:Nat->Prop),j<=4/\i= .int .i64 (j:Int)/\Hid (Sq own w br bc tv t c0 [] [(bl,(.cells #[.int .i64 1,.int .i64 2,.int .i64 3,.int .i64 6] 3 (0,0)))] wr oj (aa6 t d j) (k))) (fun i _=>(4 - intOf i).toNat)
 case atStart=>exact⟨0,_,by omega,rfl,S⟩
 case round=>
  clear S;obtain⟨j,oj,hj,rfl,S⟩:=hrel;have x0:=S.out.tx.x0;have l0:=af (o:=0) (S.out.keep _ (.head _)).blk rfl;have l1:=af (o:=1) (S.out.keep _ (.head _)).blk rfl;have l2:=af (o:=2) (S.out.keep _ (.head _)).blk rfl;have l3:=af (o:=3) (S.out.keep _ (.head _)).blk rfl;rcases(by omega:j=0\/j=1\/j=2\/j=3\/j=4) with rfl|rfl|rfl|rfl|rfl
  ·go_wp2_with fail;refine(S.out.pO OK.out 1 7 (by decide)).mono ?_;clear S x0 l0 l1 l2 l3;rintro e u ⟨rfl,o,S⟩;go_wp2_with fail;exact⟨⟨1,_,by omega,by go_num,S⟩,by simp[intOf]⟩
  ·go_wp2_with fail;refine(S.out.pO OK.out 2 7 (by decide)).mono ?_;clear S x0 l0 l1 l2 l3;rintro e u ⟨rfl,o,S⟩;go_wp2_with fail;exact⟨⟨2,_,by omega,by go_num,S⟩,by simp[intOf]⟩
  ·go_wp2_with fail;refine(S.out.pO OK.out 3 7 (by decide)).mono ?_;clear S x0 l0 l1 l2 l3;rintro e u ⟨rfl,o,S⟩;go_wp2_with fail;exact⟨⟨3,_,by omega,by go_num,S⟩,by simp[intOf]⟩
  ·go_wp2_with fail;refine(S.out.pO OK.out 6 7 (by decide)).mono ?_;clear S x0 l0 l1 l2 l3;rintro e u ⟨rfl,o,S⟩;go_wp2_with fail;exact⟨⟨4,_,by omega,by go_num,S⟩,by simp[intOf]⟩
  ·obtain⟨u,rfl⟩:∃x,x=wr:=⟨_,rfl⟩;clear l0 l1 l2 l3;have y1:=S.out.tx.x1;have y2:=S.out.tx.x2;have y3:=S.out.tx.x3;have ew:wrap64 (t.words+1)=t.words+1:=by have:=OK.out.words;unfold wrap64;omega
   go_wp2_with fail;go_region_held3 (fun w'=>w'.cell? ⟨br,0,none⟩=some (.pointer (some ⟨bc,0,none⟩))/\w'.cell? ⟨br,1,none⟩=some (.int .i64 t.words)/\w'.cell? ⟨br,2,none⟩=some (tv)/\w'.cell? ⟨br,3,none⟩=some (.int .i64 t.size)) (refine⟨?_,?_,?_,?_⟩<;>first|assumption|simp only[World.cell?_drew, *]) (first
    |(go_at_call 95;refine(SK.out.Q6 ⟨15,0,0,7,0,t.words+1⟩).mono ?_;clear y1 y2 y3 x0;rintro e u ⟨rfl,o,SL⟩;have x0:=SL.out.tx.x0;have y1:=SL.out.tx.x1;have y2:=SL.out.tx.x2;have y3:=SL.out.tx.x3)
    |(go_at_call 118;refine(Eh _ _ _ _).mono ?_;rintro e wk ⟨rfl,hb⟩;rw[ew];have SK:=ag (S.out.drew.below hb);clear hb y1 y2 y3 x0;have x0:=SK.out.tx.x0;have y1:=SK.out.tx.x1;have y2:=SK.out.tx.x2;have y3:=SK.out.tx.x3)
    )
   clear S SK ew y1 y2 y3;have S:=SL;clear SL;go_wp2_with fail;refine(S.out.pO OK.out 0 0 (by decide)).mono ?_;clear S x0;rintro e u ⟨rfl,o,S⟩;have x0:=S.out.tx.x0;go_wp2_with fail;go_end0;have hd:=HD.out;rw[Y0] at S;subst hd;exact⟨rfl,_,S.out.tx,S.out.turn,S.out.lab⟩
def Cd.zS (t:dw) (mZ:Int) (l9:Int) (ov:Int) (abort:Nat) (c0:Cd):Cd:=
 let c1:=c0.set 1 l9
 let c2:=c1.read t abort
 let c3:=c2.load 1 7 t.sum
 let c4:=c3.calc 1 1 2
 let c5:=c4.store 7 t.sum 1
 c5
theorem GG {c0:Cd} {abort:Nat} (h:dS w own br bc tv t c0 k) (ok:eO t) (mZ:Int) (l9:Int) (ov:Int) (nK:abort<c0.aI.length) (hk:k<=1099509000000):
  Calls Tryz.prog 89 #[.pointer (some ⟨br,0,none⟩),.agg #[.int .i64 mZ,.int .u8 2,.int .i64 l9,.int .i64 ov],.int .i64 (abort:Int)] w (w_ own w br bc tv t c0 (c0.zS t mZ l9 ov abort) (k+17)):=by
 have OK:=ag ok;have HK:=ag hk;have S:=ag ((Sq.start h).OI nK);have x0:=S.out.tx.x0;have jT:=S.out.tx.jT;clear h ok hk nK;go_in;have hbr:=lt_of_block S.out.tx.row.blk;go_wp2_with fail;replace S:=ag (S.out.box (.cells #[.int .i64 mZ,.int .u8 2,.int .i64 l9,.int .i64 ov] 96));obtain⟨bo,ZF⟩:∃x,x=w.heap.size:=⟨_,rfl⟩;rw[<-ZF] at S⊢;clear ZF;clear hbr x0 jT;generalize w.alloc (.cells #[.int .i64 mZ,.int .u8 2,.int .i64 l9,.int .i64 ov] 96)=wb at S⊢;have x0:=S.out.tx.x0;have jT:=S.out.tx.jT;have o0:=af (o:=0) (S.out.keep _ (.head _)).blk rfl;have o1:=af (o:=1) (S.out.keep _ (.head _)).blk rfl;have o2:=af (o:=2) (S.out.keep _ (.head _)).blk rfl;have o3:=af (o:=3) (S.out.keep _ (.head _)).blk rfl;go_wp2_with fail;go_still_tail 7,(by kernel_rfl)
 go_wp2_with fail;refine(S.out.drew.set 1 l9).mono ?_;clear S x0 jT o0 o1 o2 o3;rintro e u ⟨rfl,o,S⟩;have x0:=S.out.tx.x0;have jT:=S.out.tx.jT;have o0:=af (o:=0) (S.out.keep _ (.head _)).blk rfl;have o1:=af (o:=1) (S.out.keep _ (.head _)).blk rfl;have o2:=af (o:=2) (S.out.keep _ (.head _)).blk rfl;have o3:=af (o:=3) (S.out.keep _ (.head _)).blk rfl;go_wp2_with fail;refine(S.out.ut (Ky S.out.tx OK.out (S.out.live abort (by simp)) (by have:=HK.out;omega))).mono ?_;clear S x0 jT o0 o1 o2 o3;rintro e u ⟨rfl,o,S⟩;have x0:=S.out.tx.x0;have jT:=S.out.tx.jT;have o0:=af (o:=0) (S.out.keep _ (.head _)).blk rfl;have o1:=af (o:=1) (S.out.keep _ (.head _)).blk rfl;have o2:=af (o:=2) (S.out.keep _ (.head _)).blk rfl;have o3:=af (o:=3) (S.out.keep _ (.head _)).blk rfl;go_wp2_with fail;go_still_tail 9,(by kernel_rfl)
 go_wp2_with fail;refine(S.out.drew.load 1 7 t.sum).mono ?_;clear S x0 jT o0 o1 o2 o3;rintro e u ⟨rfl,o,S⟩;have x0:=S.out.tx.x0;have jT:=S.out.tx.jT;have o0:=af (o:=0) (S.out.keep _ (.head _)).blk rfl;have o1:=af (o:=1) (S.out.keep _ (.head _)).blk rfl;have o2:=af (o:=2) (S.out.keep _ (.head _)).blk rfl;have o3:=af (o:=3) (S.out.keep _ (.head _)).blk rfl;go_wp2_with fail;refine(S.out.calc 1 1 2).mono ?_;clear S x0 jT o0 o1 o2 o3;rintro e u ⟨rfl,o,S⟩;have x0:=S.out.tx.x0;have jT:=S.out.tx.jT;have o0:=af (o:=0) (S.out.keep _ (.head _)).blk rfl;have o1:=af (o:=1) (S.out.keep _ (.head _)).blk rfl;have o2:=af (o:=2) (S.out.keep _ (.head _)).blk rfl;have o3:=af (o:=3) (S.out.keep _ (.head _)).blk rfl;go_wp2_with fail;go_still_tail 9,(by kernel_rfl)
 go_wp2_with fail;refine(S.out.drew.store 7 t.sum 1).mono ?_;clear S x0 jT o0 o1 o2 o3;rintro e u ⟨rfl,o,S⟩;have x0:=S.out.tx.x0;have jT:=S.out.tx.jT;have o0:=af (o:=0) (S.out.keep _ (.head _)).blk rfl;have o1:=af (o:=1) (S.out.keep _ (.head _)).blk rfl;have o2:=af (o:=2) (S.out.keep _ (.head _)).blk rfl;have o3:=af (o:=3) (S.out.keep _ (.head _)).blk rfl;go_wp2_with fail;go_end0;exact⟨rfl,_,S.out.tx,S.out.turn,S.out.lab⟩
def Cd.Aa (t:dw) (mZ:Int) (l9:Int) (ov:Int) (abort:Nat) (c0:Cd):Cd:=
 let c1:=c0.set 1 l9
 let c2:=c1.load 2 7 t.sum
 let c3:=c2.with_ 1 2 ov 3
 let c4:=c3.write t
 c4
theorem Gv {c0:Cd} {abort:Nat} (h:dS w own br bc tv t c0 k) (ok:eO t) (mZ:Int) (l9:Int) (ov:Int) (nK:abort<c0.aI.length) (hk:k<=1099509000000):
  Calls Tryz.prog 89 #[.pointer (some ⟨br,0,none⟩),.agg #[.int .i64 mZ,.int .u8 3,.int .i64 l9,.int .i64 ov],.int .i64 (abort:Int)] w (w_ own w br bc tv t c0 (c0.Aa t mZ l9 ov abort) (k+11)):=by
 have OK:=ag ok;have HK:=ag hk;have S:=ag ((Sq.start h).OI nK);have x0:=S.out.tx.x0;have jT:=S.out.tx.jT;clear h ok hk nK;go_in;have hbr:=lt_of_block S.out.tx.row.blk;go_wp2_with fail;replace S:=ag (S.out.box (.cells #[.int .i64 mZ,.int .u8 3,.int .i64 l9,.int .i64 ov] 96));obtain⟨bo,ZF⟩:∃x,x=w.heap.size:=⟨_,rfl⟩;rw[<-ZF] at S⊢;clear ZF;clear hbr x0 jT;generalize w.alloc (.cells #[.int .i64 mZ,.int .u8 3,.int .i64 l9,.int .i64 ov] 96)=wb at S⊢;have x0:=S.out.tx.x0;have jT:=S.out.tx.jT;have o0:=af (o:=0) (S.out.keep _ (.head _)).blk rfl;have o1:=af (o:=1) (S.out.keep _ (.head _)).blk rfl;have o2:=af (o:=2) (S.out.keep _ (.head _)).blk rfl;have o3:=af (o:=3) (S.out.keep _ (.head _)).blk rfl;go_wp2_with fail;go_still_tail 7,(by kernel_rfl)
 go_wp2_with fail;refine(S.out.drew.set 1 l9).mono ?_;clear S x0 jT o0 o1 o2 o3;rintro e u ⟨rfl,o,S⟩;have x0:=S.out.tx.x0;have jT:=S.out.tx.jT;have o0:=af (o:=0) (S.out.keep _ (.head _)).blk rfl;have o1:=af (o:=1) (S.out.keep _ (.head _)).blk rfl;have o2:=af (o:=2) (S.out.keep _ (.head _)).blk rfl;have o3:=af (o:=3) (S.out.keep _ (.head _)).blk rfl;go_wp2_with fail;go_still_tail 9,(by kernel_rfl)
 go_wp2_with fail;refine(S.out.drew.load 2 7 t.sum).mono ?_;clear S x0 jT o0 o1 o2 o3;rintro e u ⟨rfl,o,S⟩;have x0:=S.out.tx.x0;have jT:=S.out.tx.jT;have o0:=af (o:=0) (S.out.keep _ (.head _)).blk rfl;have o1:=af (o:=1) (S.out.keep _ (.head _)).blk rfl;have o2:=af (o:=2) (S.out.keep _ (.head _)).blk rfl;have o3:=af (o:=3) (S.out.keep _ (.head _)).blk rfl;go_wp2_with fail;go_still_tail 7,(by kernel_rfl)
 go_wp2_with fail;refine(S.out.drew.with_ 1 2 ov 3).mono ?_;clear S x0 jT o0 o1 o2 o3;rintro e u ⟨rfl,o,S⟩;have x0:=S.out.tx.x0;have jT:=S.out.tx.jT;have o0:=af (o:=0) (S.out.keep _ (.head _)).blk rfl;have o1:=af (o:=1) (S.out.keep _ (.head _)).blk rfl;have o2:=af (o:=2) (S.out.keep _ (.head _)).blk rfl;have o3:=af (o:=3) (S.out.keep _ (.head _)).blk rfl;go_wp2_with fail;refine(S.out.ut (Ii S.out.tx OK.out (by have:=HK.out;omega))).mono ?_;clear S x0 jT o0 o1 o2 o3;rintro e u ⟨rfl,o,S⟩;have x0:=S.out.tx.x0;have jT:=S.out.tx.jT;have o0:=af (o:=0) (S.out.keep _ (.head _)).blk rfl;have o1:=af (o:=1) (S.out.keep _ (.head _)).blk rfl;have o2:=af (o:=2) (S.out.keep _ (.head _)).blk rfl;have o3:=af (o:=3) (S.out.keep _ (.head _)).blk rfl;go_wp2_with fail;go_end0;exact⟨rfl,_,S.out.tx,S.out.turn,S.out.lab⟩
end Go.Proofs.YtopdcjimpdalpaaGreat

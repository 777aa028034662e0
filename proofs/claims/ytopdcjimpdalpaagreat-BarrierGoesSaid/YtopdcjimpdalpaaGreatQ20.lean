import Derived.Test.YtopdcjimpdalpaaGreatQ19
namespace Go.Proofs.YtopdcjimpdalpaaGreat
open Go.RowKit Go.Maps
set_option linter.all false
set_option maxHeartbeats 4000000
set_option maxRecDepth 100000
variable {w w' w1 w2:World} {own dG jA:Nat->Prop} {bc k br:Nat} {tv:Value} {t:dw}
def Cd.once (t:dw) (o:Tx) (abort:Nat) (c:Cd):Cd:=if o.kind=2 then c.zS t o.th o.at_ o.v abort else c.Aa t o.th o.at_ o.v abort
theorem LD {c0:Cd} {abort:Nat} (h:dS w own br bc tv t c0 k) (ok:eO t) (mZ zx l9 ov:Int) (hkd:zx=2\/zx=3) (hl:abort<c0.aI.length) (hk:k<=1099509000000):
  Calls Tryz.prog 89 #[.pointer (some ⟨br,0,none⟩),.agg #[.int .i64 mZ,.int .u8 zx,.int .i64 l9,.int .i64 ov],.int .i64 (abort:Int)] w (w_ own w br bc tv t c0 (c0.once t ⟨mZ,zx,l9,ov⟩ abort) (k+17)):=by
 rcases hkd with rfl|rfl
 ·exact(GG h ok mZ l9 ov hl hk).mono fun e w' he=>by
   have:c0.once t ⟨mZ,2,l9,ov⟩ abort=c0.zS t mZ l9 ov abort:=by unfold Cd.once;rw[if_pos rfl]
   rw[this];exact he
 ·exact(Gv h ok mZ l9 ov hl hk).mono fun e w' he=>by
   have:c0.once t ⟨mZ,3,l9,ov⟩ abort=c0.Aa t mZ l9 ov abort:=by unfold Cd.once;rw[if_neg (show ¬(3:Int)=2 by decide)]
   rw[this];obtain⟨h1,own',h2,h3,h4⟩:=he;exact⟨h1,own',h2.more (by omega),h3,h4⟩
def rX (o:Tx):List Value:=[.int .i64 o.th,.int .u8 o.kind,.int .i64 o.at_,.int .i64 o.v]
theorem qB:∀o,(rX o).length=4:=fun _=>rfl
structure Rv (w:World) (own:Nat->Prop) (v:Value) (l:List Tx):Prop where
 rd:fI rX w 4 v l
 no:0<l.length->∀b,v.ownBlock=some b->¬own b
theorem Rv.turn {v:Value} {l:List Tx} (h:Rv w own v l) (ht:mh own w dG w1):Rv w1 dG v l:=by
 rcases Nat.eq_zero_or_pos l.length with e|e
 ·obtain⟨h1,ao,cap,hv,h2,h3⟩:=h.rd;exact⟨⟨h1,ao,cap,hv,h2,fun q=>by omega⟩,fun q=>by omega⟩
 ·refine⟨h.rd.GZ ht.GZ (h.no e),fun q b hb ho=>?_⟩;obtain⟨b',hb',hlt⟩:=h.rd.lt e;rw[hb] at hb';simp only[bU] at hb';subst hb';exact h.no e b hb (ht.less b hlt ho)
theorem Rv.below {v:Value} {l:List Tx} (h:Rv w own v l) (hb:Below w.heap.size w w'):Rv w' own v l:=⟨Rd.below h.rd hb,h.no⟩
theorem Rv.drew {v:Value} {l:List Tx} (h:Rv w own v l):Rv w.drew own v l:=⟨h.rd,h.no⟩
def Cd.WX (t:dw) (l:List Tx) (c0:Cd):Cd:=
 let begin:=c0.aI.length
 let c1:=c0.label
 let abort:=c1.aI.length
 let c2:=c1.label
 let over:=c2.aI.length
 let c3:=c2.label
 let c4:=c3.here begin
 let c5:=c4.Ac t
 let c6:=c5.store 7 t.sum 7
 let c7:=l.foldl (fun c o=>c.once t o abort) c6
 let c8:=c7.aL t abort
 let c9:=c8.load 1 7 t.sum
 let c10:=c9.out 1
 let c11:=c10.jump over
 let c12:=c11.here abort
 let c13:=c12.abort t
 let c14:=c13.jump begin
 let c15:=c14.here over
 c15
theorem NL {c0:Cd} {l:List Tx} {lo:Option Addr} {lc:Nat} (h:dS w own br bc tv t c0 k) (ok:eO t) (hr:Rv w own (.slice lo l.length lc) l) (hki:∀o∈l,o.kind=2\/o.kind=3) (hn:l.length<=262144) (hk:k+17*l.length<=1099506000000):
  Calls Tryz.prog 56 #[.pointer (some ⟨br,0,none⟩),.slice lo l.length lc] w (w_ own w br bc tv t c0 (c0.WX t l) (k+65+17*l.length)):=by
 have OK:=ag ok;have HK:=ag hk;have S:=ag (Sq.start h);have x0:=S.out.tx.x0;have jT:=S.out.tx.jT;have HR:=ag hr;have HKI:=ag hki;have HN:=ag hn;clear hr hki hn;clear h ok hk;go_in;go_wp2_with fail;have S0:=ag S.out.drew;clear S;go_region_held3 (fun w'=>w'.cell? ⟨br,0,none⟩=some (.pointer (some ⟨bc,0,none⟩))) (first|assumption|simp only[World.cell?_drew, *]) (first
  |(go_at_call 85;refine(S2.out.label (by have:=HK.out;omega)).mono ?_;clear S2 x0 jT;rintro e u ⟨over,o,rfl,abe,S3⟩;have x0:=S3.out.tx.x0;have jT:=S3.out.tx.jT)
  |(go_at_call 85;refine(S1.out.label (by have:=HK.out;omega)).mono ?_;clear S1 x0 jT;rintro e u ⟨abort,o,rfl,X6,S2⟩;have x0:=S2.out.tx.x0;have jT:=S2.out.tx.jT)
  |(go_at_call 85;refine(S0.out.label (by have:=HK.out;omega)).mono ?_;clear S0 x0 jT;rintro e u ⟨begin,o,rfl,Yg,S1⟩;have x0:=S1.out.tx.x0;have jT:=S1.out.tx.jT)
  )
 have S:=S3;clear S3;go_wp2_with fail;refine(S.out.here begin (by simp)).mono ?_;clear S x0 jT;rintro e u ⟨rfl,o,S⟩;have x0:=S.out.tx.x0;have jT:=S.out.tx.jT;go_wp2_with fail;refine(S.out.ut (F9 S.out.tx OK.out (by have:=HK.out;omega))).mono ?_;clear S x0 jT;rintro e u ⟨rfl,o,S⟩;have x0:=S.out.tx.x0;have jT:=S.out.tx.jT;go_wp2_with fail;go_still_tail 9,(by kernel_rfl)
 go_wp2_with fail;refine(S.out.drew.store 7 t.sum 7).mono ?_;clear S x0 jT;rintro e u ⟨rfl,o,S⟩;have x0:=S.out.tx.x0;have jT:=S.out.tx.jT;go_wp2_with fail;have hlen:=HN.out;obtain⟨wl,rfl⟩:∃x,x=u:=⟨_,rfl⟩;obtain⟨d,hd⟩:∃d,Hid (Sq own w br bc tv t c0 [over,abort,begin] [] wl o d (k+3))/\Hid (((c0.label.label.label.here begin).Ac t).store 7 t.sum 7=d):=⟨_,S,ag rfl⟩;clear S;obtain⟨S,HD⟩:=hd;go_loopw [50] (fun i wr=>∃(j:Nat) (oj:Nat->Prop),j<=l.length/\i= .int .i64 (j:Int)/\Hid (Sq own w br bc tv t c0 [over,abort,begin] [] wr oj ((l.take j).foldl (fun c o=>c.once t o abort) d) (k+3+17*j))) (fun i _=>((l.length:Int) - intOf i).toNat)
 case atStart=>exact⟨0,_,by omega,rfl,S⟩
 case round=>
  clear S;obtain⟨j,oj,hj,rfl,S⟩:=hrel;have hlen:=HN.out;have x0:=S.out.tx.x0;have HR2:=ag (HR.out.turn S.out.turn);by_cases hlt:j<l.length
  ·obtain⟨⟨mZ,zx,l9,ov⟩,hx⟩:=bW hlt;obtain⟨g,off,hlo,hg,hc⟩:=fI.at qB HR2.out.rd hx;subst hlo;have d0:=hc 0 _ rfl;have d1:=hc 1 _ rfl;have d2:=hc 2 _ rfl;have d3:=hc 3 _ rfl;simp only[Nat.add_zero] at d0;have HKD:=ag (show zx=2\/zx=3 from HKI.out _ (bA hx));have Nn:=ag (dx hx);have hw1:IntKind.i64.wrap ((j:Int)+1)=j+1:=IntWalk.i64_in _ (by omega);clear hc hx HR2;go_wp2_with fail;replace S:=ag (S.out.alloc (.cells #[.int .i64 mZ,.int .u8 zx,.int .i64 l9,.int .i64 ov] 96));clear d0 d1 d2 d3;refine(S.out.ut (LD S.out.tx OK.out mZ zx l9 ov HKD.out (S.out.live abort (by simp)) (by have:=HK.out;omega))).mono ?_;clear S;rintro e u ⟨rfl,o,S⟩;go_wp2_with fail;exact⟨⟨j+1,_,by omega,by go_num,ag (by rw[Nn.out,List.foldl_append];exact S.out.more (by omega))⟩,by simp[intOf];omega⟩
  ·obtain rfl:j=l.length:=by omega
   obtain⟨u,rfl⟩:∃x,x=wr:=⟨_,rfl⟩;replace S:=ag (by have:=S.out;rwa [List.take_length] at this);clear hlen HR2 x0;clear HR;have x0:=S.out.tx.x0;have jT:=S.out.tx.jT;go_wp2_with fail;refine(S.out.ut (Gd S.out.tx OK.out (S.out.live abort (by simp)) (by have:=HK.out;omega))).mono ?_;clear S x0 jT;rintro e u ⟨rfl,o,S⟩;have x0:=S.out.tx.x0;have jT:=S.out.tx.jT;go_wp2_with fail;go_still_tail 9,(by kernel_rfl)
   go_wp2_with fail;refine(S.out.drew.load 1 7 t.sum).mono ?_;clear S x0 jT;rintro e u ⟨rfl,o,S⟩;have x0:=S.out.tx.x0;have jT:=S.out.tx.jT;go_wp2_with fail;refine(S.out.out 1).mono ?_;clear S x0 jT;rintro e u ⟨rfl,o,S⟩;have x0:=S.out.tx.x0;have jT:=S.out.tx.jT;go_wp2_with fail;refine(S.out.jump over (by simp) (by have:=HK.out;omega)).mono ?_;clear S x0 jT;rintro e u ⟨rfl,o,S⟩;have x0:=S.out.tx.x0;have jT:=S.out.tx.jT;go_wp2_with fail;refine(S.out.here abort (by simp)).mono ?_;clear S x0 jT;rintro e u ⟨rfl,o,S⟩;have x0:=S.out.tx.x0;have jT:=S.out.tx.jT;go_wp2_with fail;refine(S.out.ut (JM S.out.tx OK.out (by have:=HK.out;omega))).mono ?_;clear S x0 jT;rintro e u ⟨rfl,o,S⟩;have x0:=S.out.tx.x0;have jT:=S.out.tx.jT;go_wp2_with fail;refine(S.out.jump begin (by simp) (by have:=HK.out;omega)).mono ?_;clear S x0 jT;rintro e u ⟨rfl,o,S⟩;have x0:=S.out.tx.x0;have jT:=S.out.tx.jT;go_wp2_with fail;refine(S.out.here over (by simp)).mono ?_;clear S x0 jT;rintro e u ⟨rfl,o,S⟩;have x0:=S.out.tx.x0;have jT:=S.out.tx.jT;go_wp2_with fail;go_end0;have hd:=HD.out;subst hd;cases abe.out;cases X6.out;cases Yg.out;exact⟨rfl,_,S.out.tx.more (by omega),S.out.turn,S.out.lab⟩
end Go.Proofs.YtopdcjimpdalpaaGreat

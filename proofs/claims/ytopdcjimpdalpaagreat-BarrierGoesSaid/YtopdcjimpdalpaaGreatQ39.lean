import Derived.Test.YtopdcjimpdalpaaGreatQ38
import Derived.Deep.RegionHeld3
namespace Go.Proofs.YtopdcjimpdalpaaGreat
open Go.RowKit
set_option linter.all false
set_option maxHeartbeats 8000000
set_option maxRecDepth 100000
section
variable {w w':World} {base b:Nat} {own own':Nat->Nat} {mm:MM} {xs:List RX} {mv tv ev:Value} {tb cap n N:Nat} {x:RX}
theorem Du (h:iy w base b own mm xs mv (.slice (some ⟨tb,0,none⟩) xs.length cap) ev) (hx:xs[n]? =some x) (o:bM) (hw:x.th.wait.length<=64):
  Calls Tryz.prog 38 #[.pointer (some ⟨tb,n*13,none⟩),.agg (bR o).toArray] w fun r w'=>r= .returned (.bool (x.th.waits o))/\Below w.heap.size w w':=by
 obtain⟨kind,bn,ra,rb,rc,num⟩:=o;have hb0:Below w.heap.size w (w.alloc (.cells #[.int .u8 kind,.int .u8 bn,.int .u8 ra,.int .u8 rb,.int .u8 rc,.int .i64 num] 107)):=(aQ _ _).alloc (aR _) _;have h0:=h.below hb0;obtain⟨wo,wc,hwv⟩:=(h.th n x hx).wait.shape;have c10:(w.alloc (.cells #[.int .u8 kind,.int .u8 bn,.int .u8 ra,.int .u8 rb,.int .u8 rc,.int .i64 num] 107)).cell? ⟨tb,n*13+10,none⟩=some (.slice wo x.th.wait.length wc):=by rw[<-hwv];exact h0.cell hx 10 _ rfl
 have gy:=aX w (.cells #[.int .u8 kind,.int .u8 bn,.int .u8 ra,.int .u8 rb,.int .u8 rc,.int .i64 num] 107);have d0:(w.alloc (.cells #[.int .u8 kind,.int .u8 bn,.int .u8 ra,.int .u8 rb,.int .u8 rc,.int .i64 num] 107)).cell? ⟨w.heap.size,0,none⟩=some (.int .u8 kind):=af gy rfl;have HB:=ag hb0;clear h h0 hx gy hb0 hwv;unfold bR;by_cases k5:kind=5
 ·subst k5;by_cases h64:64<=x.th.wait.length
  ·have hv:x.th.waits ⟨5,bn,ra,rb,rc,num⟩=true:=by unfold MT.waits;rw[if_pos rfl];simpa using h64
   rw[hv];have acy:(x.th.wait.length:Int)>=64:=by omega
   clear hv;go_in;go_wp2_with fail;go_ret;exact⟨rfl,HB.out⟩
  ·have hv:x.th.waits ⟨5,bn,ra,rb,rc,num⟩=false:=by unfold MT.waits;rw[if_pos rfl];simpa using h64
   rw[hv];have acy:¬(x.th.wait.length:Int)>=64:=by omega
   clear hv;go_in;go_wp2_with fail;go_ret;exact⟨rfl,HB.out⟩
 ·by_cases k8:kind=8\/kind=9\/kind=10
  ·by_cases h1:0<x.th.wait.length
   ·have hv:x.th.waits ⟨kind,bn,ra,rb,rc,num⟩=true:=by unfold MT.waits;rw[if_neg k5,if_pos k8];simpa using h1
    rw[hv];have h1':(x.th.wait.length:Int)>0:=by omega
    clear hv k5;rcases k8 with rfl|rfl|rfl;all_goals (
     go_in;go_wp2_with fail;go_ret;exact⟨rfl,HB.out⟩)
   ·have hv:x.th.waits ⟨kind,bn,ra,rb,rc,num⟩=false:=by unfold MT.waits;rw[if_neg k5,if_pos k8];simpa using h1
    rw[hv];have h1':¬(x.th.wait.length:Int)>0:=by omega
    clear hv k5;rcases k8 with rfl|rfl|rfl;all_goals (
     go_in;go_wp2_with fail;go_ret;exact⟨rfl,HB.out⟩)
  ·have hv:x.th.waits ⟨kind,bn,ra,rb,rc,num⟩=false:=by unfold MT.waits;rw[if_neg k5,if_neg k8]
   rw[hv];have q5:(kind==5)=false:=by rw[bY];omega
   have q8:(kind==8)=false:=by rw[bY];omega
   have q9:(kind==9)=false:=by rw[bY];omega
   have q10:(kind==10)=false:=by rw[bY];omega
   clear hv k5 k8;go_in;go_wp2_with fail;go_ret;exact⟨rfl,HB.out⟩
end
section
variable {w w':World} {base b:Nat} {own own':Nat->Nat} {mm:MM} {xs:List RX} {mv tv ev:Value} {tb cap n N:Nat} {x:RX}
theorem Li (h:iy w base b own mm xs mv tv ev) {z:Int} (hz:z<0\/(xs.length:Int)<=z):
  Calls Tryz.prog 16 #[.pointer (some ⟨b,0,none⟩),.int .i64 z] w fun r w'=>r= .returned (.bool false)/\w'=w:=by
 obtain⟨ao,cp,rfl⟩:=bF h.aM;have c1:=h.iA 1 _ rfl;clear h;by_cases h0:z<0
 ·clear hz;go_in;go_wp2_with fail;go_ret;exact⟨rfl,rfl⟩
 ·have h1:z>=(xs.length:Int):=by omega
  clear hz;go_in;go_wp2_with fail;go_ret;exact⟨rfl,rfl⟩
theorem Ov (h:iy w base b own mm xs mv (.slice (some ⟨tb,0,none⟩) xs.length cap) ev) (hx:xs[n]? =some x) (h4:xs.length<=4) (hf:x.th.fin≠0):
  Calls Tryz.prog 16 #[.pointer (some ⟨b,0,none⟩),.int .i64 (n:Int)] w fun r w'=>r= .returned (.bool false)/\w'=w:=by
 have hn:n<xs.length:=(bE.1 hx).1;have c1:=h.iA 1 _ rfl;have c12:=h.cell hx 12 _ rfl;have hne:(x.th.fin==0)=false:=by rw[bY];exact hf
 have hne2:(x.th.fin !=0)=true:=by rw[bne,hne];rfl
 clear h hx hf;go_in;go_wp2_with fail;go_ret;exact⟨rfl,rfl⟩
theorem NW (h:iy w base b own mm xs mv (.slice (some ⟨tb,0,none⟩) xs.length cap) ev) (hx:xs[n]? =some x) (h4:xs.length<=4) (hf:x.th.fin=0) (hev:mm.evs.length<2000000000) (hat:0<=x.th.at_) (acW:(x.th.code.length:Int)<=x.th.at_):
  Calls Tryz.prog 16 #[.pointer (some ⟨b,0,none⟩),.int .i64 (n:Int)] w fun r w'=>r= .returned (.bool true)/\dF w base b own (mm.stop n x.th 8) w':=by
 have hn:n<xs.length:=(bE.1 hx).1;have c1:=h.iA 1 _ rfl;have c12:=h.cell hx 12 _ rfl;rw[hf] at c12;have c9:=h.cell hx 9 _ rfl;obtain⟨co,cc,hcv⟩:=((h.th n x hx).code).shape;have c0:w.cell? ⟨tb,n*13,none⟩=some (.slice co x.th.code.length cc):=by rw[<-hcv];exact h.cell hx 0 _ rfl
 have hx1:¬x.th.at_<0:=by omega
 have hx2:x.th.at_>=(x.th.code.length:Int):=by omega
 have H:=ag h;have HX:=ag hx;have HE:=ag hev;clear h hx hf hcv hat acW hev;go_in;go_wp2_with fail;go_quiet (fail)
 go_wp2_with fail;refine(vR (H.out.drewN _) HX.out HE.out h4 8 (by omega)).mono ?_;rintro r w1 ⟨rfl,hg⟩;have HG:=ag hg;clear hg;go_wp2_with fail;go_ret;exact⟨rfl,dF.after (below_drewN (aQ _ _) _) HG.out (fun k hk=>H.out.fresh k hk)⟩
theorem Q5 (h:iy w base b own mm xs mv tv ev) (hx:xs[n]? =some x) {a:Nat} {o:bM} (ho:x.th.code[a]? =some o):
  ∃cb cf cc,x.cv= .slice (some ⟨cb,cf,none⟩) x.th.code.length cc/\∀(j:Nat) u,(bR o)[j]? =some u->w.cell? ⟨cb,cf+a*6+j,none⟩=some u:=by
 have hc:=(h.th n x hx).code;obtain⟨co,cc,hcv⟩:=hc.shape;rw[hcv] at hc;obtain⟨cb,cf,e,_,hcc⟩:=fI.at dL hc ho;subst e;exact⟨cb,cf,cc,hcv,hcc⟩
theorem NF (h:iy w base b own mm xs mv (.slice (some ⟨tb,0,none⟩) xs.length cap) ev) (hx:xs[n]? =some x) (hk:pV N mm) (hN:N<1000000000) {o:bM} (ho:wZ o) {av:Int}
  (hA:(o.kind=4\/o.kind=15\/o.kind=5\/o.kind=8\/o.kind=9)->mm.has av=true) (hW:o.kind=5->x.th.wait.length<64):
  Calls Tryz.prog 39 #[.pointer (some ⟨b,0,none⟩),.int .i64 (n:Int),.pointer (some ⟨tb,n*13,none⟩),.agg (bR o).toArray,.int .i64 av] w fun r w'=>r= .returned (.tuple #[])/\dF w base b own (mm.act n x.th o av) w':=by
 have h4:xs.length<=4:=by rw[<-vJ h];exact hk.four
 have ht:=hk.th x.th (bA (h.AU hx));have hev:mm.evs.length<2000000000:=by have:=hk.evs;omega
 have hm:=hk.mem;obtain⟨kind,bn,ra,rb,rc,num⟩:=o;obtain⟨ra,rfl⟩:∃q:Nat,ra=q:=⟨ra.toNat,by have:=ho.ra;simp only at this;omega⟩;obtain⟨rb,rfl⟩:∃q:Nat,rb=q:=⟨rb.toNat,by have:=ho.rb;simp only at this;omega⟩;obtain⟨rc,rfl⟩:∃q:Nat,rc=q:=⟨rc.toNat,by have:=ho.rc;simp only at this;omega⟩;have hra:ra<8:=by have:=ho.ra;simp only at this;omega
 have hrb:rb<8:=by have:=ho.rb;simp only at this;omega
 have hrc:rc<8:=by have:=ho.rc;simp only at this;omega
 have hkd:=ho.kind;have hj:=ho.jump;have hno:=ho.note;have htr:=ho.trap;simp only at hkd hj hno htr hA hW;have hok:∀c∈x.th.wait,0<=c.1/\c.1<262144:=fun c hc=>by have:=ht.wait c hc;omega
 have hhas:mm.has av=true->∃a:Nat,av=(a:Int)/\a<mm.mem.length:=fun hq=>by
  have:=nL.1 hq;exact⟨av.toNat,by omega,by omega⟩
 rcases(by omega:kind=1\/kind=2\/kind=3\/kind=4\/kind=5\/kind=6\/kind=7\/kind=8\/kind=9\/kind=10\/kind=11\/kind=12\/kind=13\/kind=14\/kind=15) with rfl|rfl|rfl|rfl|rfl|rfl|rfl|rfl|rfl|rfl|rfl|rfl|rfl|rfl|rfl
 ·exact Vl ⟨h,hx,hra,hrb,hrc,ht.at_⟩ av
 ·exact Un ⟨h,hx,hra,hrb,hrc,ht.at_⟩ av
 ·exact Uq ⟨h,hx,hra,hrb,hrc,ht.at_⟩ av hev h4
 ·obtain⟨a,rfl,ha⟩:=hhas (hA (by simp));exact SH ⟨h,hx,hra,hrb,hrc,ht.at_⟩ ha ht.full hok
 ·have hq:=nL.1 (hA (by simp));exact Pj ⟨h,hx,hra,hrb,hrc,ht.at_⟩ av (hW rfl) (by omega)
 ·exact R6 ⟨h,hx,hra,hrb,hrc,ht.at_⟩ av (hj (by simp))
 ·exact Sz ⟨h,hx,hra,hrb,hrc,ht.at_⟩ av (hj (by simp))
 ·obtain⟨a,rfl,ha⟩:=hhas (hA (by simp));exact UO ⟨h,hx,hra,hrb,hrc,ht.at_⟩ ha
 ·obtain⟨a,rfl,ha⟩:=hhas (hA (by simp));exact Sv ⟨h,hx,hra,hrb,hrc,ht.at_⟩ ha
 ·exact NU ⟨h,hx,hra,hrb,hrc,ht.at_⟩ av
 ·exact Wj ⟨h,hx,hra,hrb,hrc,ht.at_⟩ av (by have:=ht.out;omega) hev
 ·exact Tt ⟨h,hx,hra,hrb,hrc,ht.at_⟩ av (hno rfl) hev
 ·exact Tk ⟨h,hx,hra,hrb,hrc,ht.at_⟩ av (htr rfl) hev h4
 ·exact RG ⟨h,hx,hra,hrb,hrc,ht.at_⟩ av hev h4
 ·obtain⟨a,rfl,ha⟩:=hhas (hA (by simp));exact Rp ⟨h,hx,hra,hrb,hrc,ht.at_⟩ ha ht.full hok hev
theorem Ui (h:iy w base b own mm xs mv (.slice (some ⟨tb,0,none⟩) xs.length cap) ev) (hx:xs[n]? =some x) (hk:pV N mm) (hN:N<1000000000) (hf:x.th.fin=0) {a:Nat} {o:bM} (hat:x.th.at_=(a:Int)) (ho:x.th.code[a]? =some o):
  Calls Tryz.prog 16 #[.pointer (some ⟨b,0,none⟩),.int .i64 (n:Int)] w fun r w'=>r= .returned (.bool (mm.go n x.th).1)/\dF w base b own (mm.go n x.th).2 w':=by
 have hn:n<xs.length:=(bE.1 hx).1;have h4:xs.length<=4:=by rw[<-vJ h];exact hk.four
 have ht:=hk.th x.th (bA (h.AU hx));have hoo:=ht.ops o (bA ho);have hal:a<x.th.code.length:=(bE.1 ho).1;have c1:=h.iA 1 _ rfl;have c12:=h.cell hx 12 _ rfl;rw[hf] at c12;have c9:w.cell? ⟨tb,n*13+9,none⟩=some (.int .i64 (a:Int)):=by rw[<-hat];exact h.cell hx 9 _ rfl
 obtain⟨cb,cf,cc,hcv,hcc⟩:=Q5 h hx ho;have c0:w.cell? ⟨tb,n*13,none⟩=some (.slice (some ⟨cb,cf,none⟩) x.th.code.length cc):=by rw[<-hcv];exact h.cell hx 0 _ rfl
 have o0:w.cell? ⟨cb,cf+a*6,none⟩=some (.int .u8 o.kind):=hcc 0 _ rfl;have o1:w.cell? ⟨cb,cf+a*6+1,none⟩=some (.int .u8 o.bn):=hcc 1 _ rfl;have o2:w.cell? ⟨cb,cf+a*6+2,none⟩=some (.int .u8 o.a):=hcc 2 _ rfl;have o3:w.cell? ⟨cb,cf+a*6+3,none⟩=some (.int .u8 o.b):=hcc 3 _ rfl;have o4:w.cell? ⟨cb,cf+a*6+4,none⟩=some (.int .u8 o.c):=hcc 4 _ rfl;have o5:w.cell? ⟨cb,cf+a*6+5,none⟩=some (.int .i64 o.n):=hcc 5 _ rfl;have hx1:¬(a:Int)<0:=by omega
 have hx2:¬(a:Int)>=(x.th.code.length:Int):=by omega
 have H:=ag h;have HX:=ag hx;have HK:=ag hk;have HT:=ag ht;have UL:=ag hoo;have HAT:=ag hat;have HO:=ag ho;clear h hx hf hcv hcc hk ht hoo hat ho;go_in;go_wp2_with fail;go_quiet (fail)
 go_wp2_with fail;have hA:=aX (w.drewN (nq+1)) (.cells #[.int .u8 0,.int .u8 0,.int .u8 0,.int .u8 0,.int .u8 0,.int .i64 0] 107);have UC:Below w.heap.size w ((w.drewN (nq+1)).alloc (.cells #[.int .u8 0,.int .u8 0,.int .u8 0,.int .u8 0,.int .u8 0,.int .i64 0] 107)):=(below_drewN (aQ _ _) _).alloc (aR _) _;have za0:((w.drewN (nq+1)).alloc (.cells #[.int .u8 0,.int .u8 0,.int .u8 0,.int .u8 0,.int .u8 0,.int .i64 0] 107)).cell? ⟨w.heap.size,0,none⟩=some (.int .u8 0):=af hA rfl;have za1:((w.drewN (nq+1)).alloc (.cells #[.int .u8 0,.int .u8 0,.int .u8 0,.int .u8 0,.int .u8 0,.int .i64 0] 107)).cell? ⟨w.heap.size,1,none⟩=some (.int .u8 0):=af hA rfl;have za2:((w.drewN (nq+1)).alloc (.cells #[.int .u8 0,.int .u8 0,.int .u8 0,.int .u8 0,.int .u8 0,.int .i64 0] 107)).cell? ⟨w.heap.size,2,none⟩=some (.int .u8 0):=af hA rfl;have za3:((w.drewN (nq+1)).alloc (.cells #[.int .u8 0,.int .u8 0,.int .u8 0,.int .u8 0,.int .u8 0,.int .i64 0] 107)).cell? ⟨w.heap.size,3,none⟩=some (.int .u8 0):=af hA rfl;have za4:((w.drewN (nq+1)).alloc (.cells #[.int .u8 0,.int .u8 0,.int .u8 0,.int .u8 0,.int .u8 0,.int .i64 0] 107)).cell? ⟨w.heap.size,4,none⟩=some (.int .u8 0):=af hA rfl;have za5:((w.drewN (nq+1)).alloc (.cells #[.int .u8 0,.int .u8 0,.int .u8 0,.int .u8 0,.int .u8 0,.int .i64 0] 107)).cell? ⟨w.heap.size,5,none⟩=some (.int .i64 0):=af hA rfl;have zf:∀j,((w.drewN (nq+1)).alloc (.cells #[.int .u8 0,.int .u8 0,.int .u8 0,.int .u8 0,.int .u8 0,.int .i64 0] 107)).frozen? ⟨w.heap.size,j,none⟩=false:=fun j=>aJ hA
 have y0:=cell_later UC c0;have y9:=cell_later UC c9;have y10:=cell_later UC o0;have y11:=cell_later UC o1;have y12:=cell_later UC o2;have y13:=cell_later UC o3;have y14:=cell_later UC o4;have y15:=cell_later UC o5;have HA:=ag hA;have XC:=ag UC;clear hA UC;go_region;have hbx:=aK (o:=5) (.int .i64 o.n) (aK (o:=4) (.int .u8 o.c) (aK (o:=3) (.int .u8 o.b) (aK (o:=2) (.int .u8 o.a) (aK (o:=1) (.int .u8 o.bn) (aK (o:=0) (.int .u8 o.kind) HA.out)))));have hb1:Below w.heap.size w ((((((((w.drewN (nq+1)).alloc (.cells #[.int .u8 0,.int .u8 0,.int .u8 0,.int .u8 0,.int .u8 0,.int .i64 0] 107)).setCell ⟨w.heap.size,0,none⟩ (.int .u8 o.kind)).setCell ⟨w.heap.size,1,none⟩ (.int .u8 o.bn)).setCell ⟨w.heap.size,2,none⟩ (.int .u8 o.a)).setCell ⟨w.heap.size,3,none⟩ (.int .u8 o.b)).setCell ⟨w.heap.size,4,none⟩ (.int .u8 o.c)).setCell ⟨w.heap.size,5,none⟩ (.int .i64 o.n)):=(((((XC.out.setCell (aR _) _).setCell (aR _) _).setCell (aR _) _).setCell (aR _) _).setCell (aR _) _).setCell (aR _) _;have tN:Hid (((((((((w.drewN (nq+1)).alloc (.cells #[.int .u8 0,.int .u8 0,.int .u8 0,.int .u8 0,.int .u8 0,.int .i64 0] 107)).setCell ⟨w.heap.size,0,none⟩ (.int .u8 o.kind)).setCell ⟨w.heap.size,1,none⟩ (.int .u8 o.bn)).setCell ⟨w.heap.size,2,none⟩ (.int .u8 o.a)).setCell ⟨w.heap.size,3,none⟩ (.int .u8 o.b)).setCell ⟨w.heap.size,4,none⟩ (.int .u8 o.c)).setCell ⟨w.heap.size,5,none⟩ (.int .i64 o.n)).heap[w.heap.size]? =some (.cells (bR o).toArray 107 (0,0))):=ag hbx;have HB1:=ag hb1;clear hbx hb1 za0 za1 za2 za3 za4 za5 zf y0 y9 y10 y11 y12 y13 y14 y15 HA XC;generalize((((((((w.drewN (nq+1)).alloc (.cells #[.int .u8 0,.int .u8 0,.int .u8 0,.int .u8 0,.int .u8 0,.int .i64 0] 107)).setCell ⟨w.heap.size,0,none⟩ (.int .u8 o.kind)).setCell ⟨w.heap.size,1,none⟩ (.int .u8 o.bn)).setCell ⟨w.heap.size,2,none⟩ (.int .u8 o.a)).setCell ⟨w.heap.size,3,none⟩ (.int .u8 o.b)).setCell ⟨w.heap.size,4,none⟩ (.int .u8 o.c)).setCell ⟨w.heap.size,5,none⟩ (.int .i64 o.n))=w1 at tN HB1⊢;have p0:w1.cell? ⟨w.heap.size,0,none⟩=some (.int .u8 o.kind):=af tN.out rfl;have p1:w1.cell? ⟨w.heap.size,1,none⟩=some (.int .u8 o.bn):=af tN.out rfl;have p2:w1.cell? ⟨w.heap.size,2,none⟩=some (.int .u8 o.a):=af tN.out rfl;have p3:w1.cell? ⟨w.heap.size,3,none⟩=some (.int .u8 o.b):=af tN.out rfl;have p4:w1.cell? ⟨w.heap.size,4,none⟩=some (.int .u8 o.c):=af tN.out rfl;have p5:w1.cell? ⟨w.heap.size,5,none⟩=some (.int .i64 o.n):=af tN.out rfl;have vG:=ag (show mm.go n x.th=(match x.th.word o with
  |none=>if x.th.waits o=true then(false,mm) else(true,mm.act n x.th o 0)
  |some a=>if mm.has a=true then(if x.th.waits o=true then(false,mm) else(true,mm.act n x.th o a)) else(true,mm.stop n x.th 8)) from by
  unfold MM.go;rw[HAT.out,if_neg (by omega),Int.toNat_natCast,HO.out];rfl)
 go_wp2_with fail;refine(PW (H.out.below HB1.out) HX.out o UL.out).mono ?_;rintro r w2 ⟨rfl,hb⟩;have HB2:=ag (gH HB1.out hb);have p20:=cell_later hb p0;have p21:=cell_later hb p1;have p22:=cell_later hb p2;have p23:=cell_later hb p3;have p24:=cell_later hb p4;have p25:=cell_later hb p5;clear hb p0 p1 p2 p3 p4 p5 c0 c9 c12 o0 o1 o2 o3 o4 o5 hx1 hx2;cases hwd:x.th.word o with
 |none=>
  have HWD:=ag hwd;rw[hwd] at vG;clear hwd;go_wp2_with fail;refine(Du (H.out.below HB2.out) HX.out o HT.out.full).mono ?_;rintro r w3 ⟨rfl,hb⟩;have HB3:=ag (gH HB2.out hb);have p30:=cell_later hb p20;have p31:=cell_later hb p21;have p32:=cell_later hb p22;have p33:=cell_later hb p23;have p34:=cell_later hb p24;have p35:=cell_later hb p25;clear hb p20 p21 p22 p23 p24 p25;cases hwt:x.th.waits o with
  |true=>
   have Ij:=ag hwt;clear hwt;go_wp2_with fail;go_ret;rw[vG.out];simp only[Ij.out,if_true];exact⟨(by first|rfl|trivial),dF.same H.out HB3.out⟩
  |false=>
   have Ij:=ag hwt;clear hwt;go_wp2_with fail;refine(NF (H.out.below HB3.out) HX.out HK.out hN UL.out (av:=0) (fun hq=>by
    exfalso;have:=HWD.out;unfold MT.word at this;rcases hq with e|e|e|e|e
    ·rw[if_pos (.inl e)] at this;cases this
    ·rw[if_pos (.inr e)] at this;cases this
    ·rw[if_neg (by omega),if_pos (.inl e)] at this;cases this
    ·rw[if_neg (by omega),if_pos (.inr (.inl e))] at this;cases this
    ·rw[if_neg (by omega),if_pos (.inr (.inr e))] at this;cases this) (fun h5=>by
    have:=Ij.out;unfold MT.waits at this;rw[if_pos h5] at this;simpa using this)).mono ?_
   rintro r w4 ⟨rfl,hg⟩;have HG:=ag hg;clear hg;go_wp2_with fail;go_ret;rw[vG.out];simp only[Ij.out,Bool.false_eq_true,if_false];exact⟨(by first|rfl|trivial),dF.after HB3.out HG.out (fun k hk=>H.out.fresh k hk)⟩
 |some av=>
  have HWD:=ag hwd;rw[hwd] at vG;clear hwd;go_wp2_with fail;refine(Ki (H.out.below HB2.out) av HK.out.mem.2).mono ?_;rintro r w9 ⟨rfl,hw⟩;obtain rfl:=hw.symm;cases hh:mm.has av with
  |false=>
   have HH:=ag hh;clear hh;go_wp2_with fail;refine(vR (H.out.below HB2.out) HX.out (by have:=HK.out.evs;omega) h4 8 (by omega)).mono ?_;rintro r w4 ⟨rfl,hg⟩;have HG:=ag hg;clear hg;go_wp2_with fail;go_ret;rw[vG.out];simp only[HH.out,Bool.false_eq_true,if_false];exact⟨(by first|rfl|trivial),dF.after HB2.out HG.out (fun k hk=>H.out.fresh k hk)⟩
  |true=>
   have HH:=ag hh;clear hh;go_wp2_with fail;refine(Du (H.out.below HB2.out) HX.out o HT.out.full).mono ?_;rintro r w3 ⟨rfl,hb⟩;have HB3:=ag (gH HB2.out hb);have p30:=cell_later hb p20;have p31:=cell_later hb p21;have p32:=cell_later hb p22;have p33:=cell_later hb p23;have p34:=cell_later hb p24;have p35:=cell_later hb p25;clear hb p20 p21 p22 p23 p24 p25;cases hwt:x.th.waits o with
   |true=>
    have Ij:=ag hwt;clear hwt;go_wp2_with fail;go_ret;rw[vG.out];simp only[Ij.out,HH.out,if_true,if_true];exact⟨(by first|rfl|trivial),dF.same H.out HB3.out⟩
   |false=>
    have Ij:=ag hwt;clear hwt;go_wp2_with fail;refine(NF (H.out.below HB3.out) HX.out HK.out hN UL.out (av:=av) (fun _=>HH.out) (fun h5=>by
     have:=Ij.out;unfold MT.waits at this;rw[if_pos h5] at this;simpa using this)).mono ?_
    rintro r w4 ⟨rfl,hg⟩;have HG:=ag hg;clear hg;go_wp2_with fail;go_ret;rw[vG.out];simp only[Ij.out,HH.out,if_true,Bool.false_eq_true,if_false];exact⟨(by first|rfl|trivial),dF.after HB3.out HG.out (fun k hk=>H.out.fresh k hk)⟩
theorem N_ (h:iy w base b own mm xs mv tv ev) (hk:pV N mm) (hN:N<1000000000) (z:Int):
  Calls Tryz.prog 16 #[.pointer (some ⟨b,0,none⟩),.int .i64 z] w fun r w'=>r= .returned (.bool (mm.step z).1)/\dF w base b own (mm.step z).2 w':=by
 by_cases hz:0<=z/\z<(xs.length:Int)
 ·obtain⟨n,rfl⟩:∃n:Nat,z=(n:Int):=⟨z.toNat,by omega⟩;obtain⟨x,hx⟩:=bW (show n<xs.length by omega);obtain⟨tb,cap,rfl, -⟩:=h.xE hx;have h4:xs.length<=4:=by rw[<-vJ h];exact hk.four
  have ht:=hk.th x.th (bA (h.AU hx));by_cases hf:x.th.fin=0
  ·have hs:mm.step (n:Int)=mm.go n x.th:=by
    unfold MM.step;rw[wU h hx];simp only[hf,ne_eq,not_true_eq_false,if_false,Int.toNat_natCast]
   rw[hs];by_cases hl:x.th.at_<(x.th.code.length:Int)
   ·obtain⟨a,ha⟩:∃a:Nat,x.th.at_=(a:Int):=⟨x.th.at_.toNat,by have:=ht.at_;omega⟩;obtain⟨o,ho⟩:=bW (show a<x.th.code.length by omega);exact Ui h hx hk hN hf ha ho
   ·refine(NW h hx h4 hf (by have:=hk.evs;omega) ht.at_.1 (by omega)).mono ?_;rintro r w' ⟨rfl,hg⟩;have he:mm.go n x.th=(true,mm.stop n x.th 8):=by
     unfold MM.go;have h1:=ht.at_.1;rw[if_neg (by omega),List.getElem?_eq_none (by omega)]
    rw[he];exact⟨rfl,hg⟩
  ·refine(Ov h hx h4 hf).mono ?_;rintro r w' ⟨rfl,rfl⟩;unfold MM.step;rw[wU h hx];simp only[ne_eq,hf,not_false_eq_true,if_true];exact⟨(by first|rfl|trivial),dF.same h (aQ _ _)⟩
 ·refine(Li h (by omega)).mono ?_;rintro r w' ⟨rfl,rfl⟩;unfold MM.step;rw[E9 h (by omega)];exact⟨(by first|rfl|trivial),dF.same h (aQ _ _)⟩
end
section
variable {w w':World} {base b N:Nat} {mm:MM}
def iO (w:World) (base b:Nat) (mm:MM) (N:Nat):Prop:=∃own xs mv tv ev,iy w base b own mm xs mv tv ev/\pV N mm
theorem iO.below (h:iO w base b mm N) (hb:Below w.heap.size w w'):iO w' base b mm N:=by
 obtain⟨own,xs,mv,tv,ev,h1,h2⟩:=h;exact⟨own,xs,mv,tv,ev,h1.below hb,h2⟩
theorem iO.eX (h:iO w base b mm N):base<=w.heap.size:=by
 obtain⟨own,xs,mv,tv,ev,h1,h2⟩:=h;exact h1.eX
theorem iO.more (h:iO w base b mm N):iO w base b mm (N+1):=by
 obtain⟨own,xs,mv,tv,ev,h1,h2⟩:=h;exact⟨own,xs,mv,tv,ev,h1,h2.mono (by omega)⟩
theorem dF.live {own:Nat->Nat} {xs:List RX} {mv tv ev:Value} {iZ:MM} (h:iy w base b own mm xs mv tv ev) (hg:dF w base b own iZ w') (hk:pV N iZ):iO w' base b iZ N/\Below base w w':=by
 obtain⟨⟨own',xs',mv',tv',ev',h', -⟩,hc⟩:=hg;exact⟨⟨own',xs',mv',tv',ev',h',hk⟩,hc.vg h.eX h.low⟩
theorem MU (h:iO w base b mm N) (hN:N<1000000000) (z:Int):
  Calls Tryz.prog 16 #[.pointer (some ⟨b,0,none⟩),.int .i64 z] w fun r w'=>r= .returned (.bool (mm.step z).1)/\iO w' base b (mm.step z).2 (N+1)/\Below base w w':=by
 obtain⟨own,xs,mv,tv,ev,h1,h2⟩:=h;refine(N_ h1 h2 hN z).mono ?_;rintro r w' ⟨rfl,hg⟩;exact⟨rfl,dF.live h1 hg (h2.step z)⟩
theorem Ic (h:iO w base b mm N) (z:Int):
  Calls Tryz.prog 17 #[.pointer (some ⟨b,0,none⟩),.int .i64 z] w fun r w'=>r= .returned (.bool (mm.flush z).1)/\iO w' base b (mm.flush z).2 N/\Below base w w':=by
 obtain⟨own,xs,mv,tv,ev,h1,h2⟩:=h;refine(K7 h1 h2 z).mono ?_;rintro r w' ⟨rfl,hg⟩;exact⟨rfl,dF.live h1 hg (h2.flush z)⟩
theorem iO.of {own:Nat->Nat} {xs:List RX} {mv tv ev:Value} (h:iy w base b own mm xs mv tv ev) (hk:pV N mm):iO w base b mm N:=⟨own,xs,mv,tv,ev,h,hk⟩
def Ed (w:World) (base b:Nat) (mm:MM) (N:Nat) (P:List Nat):Prop:=∃own xs mv tv ev,iy w base b own mm xs mv tv ev/\pV N mm/\∀k∈P,own k=0/\k<w.heap.size
theorem Ed.live {P:List Nat} (h:Ed w base b mm N P):iO w base b mm N:=by
 obtain⟨own,xs,mv,tv,ev,h1,h2, -⟩:=h;exact⟨own,xs,mv,tv,ev,h1,h2⟩
theorem Ed.Gm (h:iO w base b mm N):Ed w base b mm N []:=by
 obtain⟨own,xs,mv,tv,ev,h1,h2⟩:=h;exact⟨own,xs,mv,tv,ev,h1,h2,fun k hk=>absurd hk (by simp)⟩
theorem Ed.below {P:List Nat} (h:Ed w base b mm N P) (hb:Below w.heap.size w w'):Ed w' base b mm N P:=by
 obtain⟨own,xs,mv,tv,ev,h1,h2,h3⟩:=h;exact⟨own,xs,mv,tv,ev,h1.below hb,h2,fun k hk=>⟨(h3 k hk).1,Nat.lt_of_lt_of_le (h3 k hk).2 hb.size⟩⟩
theorem Ed.add {P:List Nat} (h:Ed w base b mm N P) (o:Obj):Ed (w.alloc o) base b mm N (w.heap.size::P):=by
 obtain⟨own,xs,mv,tv,ev,h1,h2,h3⟩:=h;refine⟨own,xs,mv,tv,ev,h1.below ((aQ _ _).alloc (aR _) _),h2,fun k hk=>?_⟩;rcases List.mem_cons.1 hk with rfl|hk
 ·exact⟨h1.fresh _ (aR _),by simp⟩
 ·have:=h3 k hk;exact⟨this.1,by simp;omega⟩
end
theorem NV (w:World) (k:Int) (h:¬(1<=k/\k<=15)):Calls Tryz.prog 109 #[.int .u8 k] w fun e w'=>e= .returned (.tuple #[.agg #[.bool false,.int .i64 0,.bool false],.bool false])/\Below w.heap.size w w':=by
 have k1:(k==1)=false:=by simp;omega
 have k2:(k==2)=false:=by simp;omega
 have k3:(k==3)=false:=by simp;omega
 have k4:(k==4)=false:=by simp;omega
 have k5:(k==5)=false:=by simp;omega
 have k6:(k==6)=false:=by simp;omega
 have k7:(k==7)=false:=by simp;omega
 have k8:(k==8)=false:=by simp;omega
 have k9:(k==9)=false:=by simp;omega
 have k10:(k==10)=false:=by simp;omega
 have k11:(k==11)=false:=by simp;omega
 have k12:(k==12)=false:=by simp;omega
 have k13:(k==13)=false:=by simp;omega
 have k14:(k==14)=false:=by simp;omega
 have k15:(k==15)=false:=by simp;omega
 clear h;go_in;go_wp2_with fail;refine bodyPost_ret (v:=.tuple #[.agg #[.bool false,.int .i64 0,.bool false],.bool false]) (by simp[results,Tryz.results109,go_sem]) rfl ⟨rfl,?_⟩;first|exact aQ _ _|exact(aQ _ _).alloc (aR _) _|exact((aQ _ _).alloc (aR _) _).alloc (by simp) _
theorem Oy (w:World) {k:Int} (h:k=1\/k=2\/k=3):Calls Tryz.prog 109 #[.int .u8 k] w fun e w'=>e= .returned (lX (eB k))/\Below w.heap.size w w':=by
 rcases h with rfl|rfl|rfl<;>(
  go_in;go_wp2_with fail;refine bodyPost_ret (by simp[results,Tryz.results109,go_sem];rfl) rfl ⟨by simp[eB,fm,lX,uW,uQ];done,?_⟩;first|exact aQ _ _|exact(aQ _ _).alloc (aR _) _|exact((aQ _ _).alloc (aR _) _).alloc (by simp) _)
theorem NK (w:World) {k:Int} (h:k=4\/k=5\/k=6):Calls Tryz.prog 109 #[.int .u8 k] w fun e w'=>e= .returned (lX (eB k))/\Below w.heap.size w w':=by
 rcases h with rfl|rfl|rfl<;>(
  go_in;go_wp2_with fail;refine bodyPost_ret (by simp[results,Tryz.results109,go_sem];rfl) rfl ⟨by simp[eB,fm,lX,uW,uQ];done,?_⟩;first|exact aQ _ _|exact(aQ _ _).alloc (aR _) _|exact((aQ _ _).alloc (aR _) _).alloc (by simp) _)
theorem O3 (w:World) {k:Int} (h:k=7\/k=8\/k=9):Calls Tryz.prog 109 #[.int .u8 k] w fun e w'=>e= .returned (lX (eB k))/\Below w.heap.size w w':=by
 rcases h with rfl|rfl|rfl<;>(
  go_in;go_wp2_with fail;refine bodyPost_ret (by simp[results,Tryz.results109,go_sem];rfl) rfl ⟨by simp[eB,fm,lX,uW,uQ];done,?_⟩;first|exact aQ _ _|exact(aQ _ _).alloc (aR _) _|exact((aQ _ _).alloc (aR _) _).alloc (by simp) _)
theorem PO (w:World) {k:Int} (h:k=10\/k=11\/k=12):Calls Tryz.prog 109 #[.int .u8 k] w fun e w'=>e= .returned (lX (eB k))/\Below w.heap.size w w':=by
 rcases h with rfl|rfl|rfl<;>(
  go_in;go_wp2_with fail;refine bodyPost_ret (by simp[results,Tryz.results109,go_sem];rfl) rfl ⟨by simp[eB,fm,lX,uW,uQ];done,?_⟩;first|exact aQ _ _|exact(aQ _ _).alloc (aR _) _|exact((aQ _ _).alloc (aR _) _).alloc (by simp) _)
theorem Ou (w:World) {k:Int} (h:k=13\/k=14\/k=15):Calls Tryz.prog 109 #[.int .u8 k] w fun e w'=>e= .returned (lX (eB k))/\Below w.heap.size w w':=by
 rcases h with rfl|rfl|rfl<;>(
  go_in;go_wp2_with fail;refine bodyPost_ret (by simp[results,Tryz.results109,go_sem];rfl) rfl ⟨by simp[eB,fm,lX,uW,uQ];done,?_⟩;first|exact aQ _ _|exact(aQ _ _).alloc (aR _) _|exact((aQ _ _).alloc (aR _) _).alloc (by simp) _)
theorem KI (w:World) (k:Int):Calls Tryz.prog 109 #[.int .u8 k] w fun e w'=>e= .returned (lX (eB k))/\Below w.heap.size w w':=by
 by_cases hk:1<=k/\k<=15
 ·rcases(by omega:k<=3\/4<=k/\k<=6\/7<=k/\k<=9\/10<=k/\k<=12\/13<=k) with h|h|h|h|h
  ·exact Oy w (by omega)
  ·exact NK w (by omega)
  ·exact O3 w (by omega)
  ·exact PO w (by omega)
  ·exact Ou w (by omega)
 ·have hn:eB k=none:=by
   cases h:eB k with
   |none=>rfl
   |some f=>exact absurd (by have:=kinds (k:=k) (by rw[h];simp);omega) hk
  rw[hn];exact NV w k hk
theorem CS (w:World) (k n:Int):Calls Tryz.prog 110 #[.int .u8 k,.int .i64 n] w fun e w'=>e= .returned (.bool (Dg k n))/\Below w.heap.size w w':=by
 by_cases k6:k=6
 ·subst k6;rcases(by omega:n<0\/n>262144\/(0<=n/\n<=262144)) with h|h|⟨h,h'⟩<;>(
   go_in;go_wp2_with fail;go_ret;exact⟨by simp[Dg];try omega,aQ _ _⟩)
 by_cases k7:k=7
 ·subst k7;rcases(by omega:n<0\/n>262144\/(0<=n/\n<=262144)) with h|h|⟨h,h'⟩<;>(
   go_in;go_wp2_with fail;go_ret;exact⟨by simp[Dg];try omega,aQ _ _⟩)
 by_cases k12:k=12
 ·subst k12;rcases(by omega:n<1\/n>8\/(1<=n/\n<=8)) with h|h|⟨h,h'⟩<;>(
   go_in;go_wp2_with fail;go_ret;exact⟨by simp[Dg];try omega,aQ _ _⟩)
 by_cases k13:k=13
 ·subst k13;rcases(by omega:n<2\/n>8\/(2<=n/\n<=8)) with h|h|⟨h,h'⟩<;>(
   go_in;go_wp2_with fail;go_ret;exact⟨by simp[Dg];try omega,aQ _ _⟩)
 have b6:(k==6)=false:=by simp[k6]
 have b7:(k==7)=false:=by simp[k7]
 have b12:(k==12)=false:=by simp[k12]
 have b13:(k==13)=false:=by simp[k13]
 go_in;go_wp2_with fail;go_ret;exact⟨by simp[Dg,k6,k7,k12,k13],aQ _ _⟩
theorem LZ (w:World) (o:bM) (hw:DT o):Calls Tryz.prog 70 #[.agg (bR o).toArray] w fun e w'=>e= .returned (rz (dJ o))/\Below w.heap.size w w':=by
 obtain⟨kind,bn,a,b,c,n⟩:=o;obtain⟨-,⟨hc0, -⟩,⟨ha0, -⟩,⟨hb0, -⟩,⟨YF, -⟩,hn0,hn1⟩:=hw;simp only at hc0 ha0 hb0 YF hn0 hn1;unfold bR;go_in;go_wp2_with fail;refine(KI _ _).mono ?_;rintro e w1 ⟨rfl,hb1⟩;have hblk:=blk hb1 (aX w _);have y (i:Nat) (u:Value) (h:(#[Value.int .u8 kind,.int .u8 bn,.int .u8 a,.int .u8 b,.int .u8 c,.int .i64 n])[i]? =some u):∀x,(w1.alloc x).cell? ⟨w.heap.size,i,none⟩=some u:=fun x=>af (bz hblk) h
 have z (i:Nat) (u:Value) (h:(#[Value.int .u8 kind,.int .u8 bn,.int .u8 a,.int .u8 b,.int .u8 c,.int .i64 n])[i]? =some u):∀x y,((w1.alloc x).alloc y).cell? ⟨w.heap.size,i,none⟩=some u:=fun x y=>af (bz (bz hblk)) h
 have y0:=y 0 _ rfl;have z0:=z 0 _ rfl;have y1:=y 1 _ rfl;have z1:=z 1 _ rfl;have y2:=y 2 _ rfl;have z2:=z 2 _ rfl;have y3:=y 3 _ rfl;have z3:=z 3 _ rfl;have y4:=y 4 _ rfl;have z4:=z 4 _ rfl;have y5:=y 5 _ rfl;have z5:=z 5 _ rfl;have HB1:=ag (MF (aQ _ _) hb1);clear hb1 hblk y z;cases hf:eB kind with
 |none=>
  unfold lX;have HF:=ag hf;clear hf;go_wp2_with fail;go_ret;exact⟨by simp[dJ,HF.out,rz],HB1.out.alloc HB1.out.size _⟩
 |some f=>
  have hfr:=EH hf;obtain⟨fc,fr,fn,fl,fM⟩:=f;have HF:=ag hf;clear hf;simp only at hfr;have HB2:=ag (fun x y:Obj=>(HB1.out.alloc HB1.out.size x).alloc (HB1.out.alloc HB1.out.size x).size y);have f (i:Nat) (u:Value) (h:(#[Value.bool fc,.int .i64 (fr:Int),.bool fn])[i]? =some u):∀y,((w1.alloc (.cells #[.bool fc,.int .i64 fr,.bool fn] 202)).alloc y).cell? ⟨w1.heap.size,i,none⟩=some u:=fun y=>af (bz (aX _ _)) h
  have f0:=f 0 _ rfl;have f1:=f 1 _ rfl;have f2:=f 2 _ rfl;unfold lX uQ;go_wp2_with fail;go_loopw [6] (fun i wr=>wr=(w1.alloc (.cells #[.bool fc,.int .i64 fr,.bool fn] 202)).alloc (.cells #[.int .u8 a,.int .u8 b,.int .u8 c] 5)/\∃j:Nat,j<=3/\i= .int .i64 (j:Int)/\Hid (∀t,t<j->oV fr t (r3 a b c t)=true)) (fun i _=>(3 - intOf i).toNat)
  case atStart=>exact⟨rfl,0,by omega,rfl,fun t ht=>absurd ht (Nat.not_lt_zero t)⟩
  case round=>
   obtain⟨rfl,j,hj,rfl,G⟩:=hrel;by_cases h3:j<3
   ·obtain⟨v,hv⟩:∃v,r3 a b c j=v:=⟨_,rfl⟩;have g3:((w1.alloc (.cells #[.bool fc,.int .i64 fr,.bool fn] 202)).alloc (.cells #[.int .u8 a,.int .u8 b,.int .u8 c] 5)).cell? ⟨w1.heap.size+1,j,none⟩=some (.int .u8 v):=af (j3 _ _ _) (by rcases(by omega:j=0\/j=1\/j=2) with rfl|rfl|rfl<;>subst hv<;>rfl);have hw:IntKind.i64.wrap ((j:Int)+1)=j+1:=IntWalk.i64_in _ (by omega);have h3':(j:Int)<3:=by omega
    have hv0:0<=v:=by rw[<-hv];rcases(by omega:j=0\/j=1\/j=2) with rfl|rfl|rfl<;>assumption
    rcases Au (r:=fr) (j:=j) (v:=v) with⟨ho,hq⟩|⟨ho,hq⟩
    ·have HO:=ag (show ∀t,t<j+1->oV fr t (r3 a b c t)=true from fun t ht=>by
      rcases Nat.lt_succ_iff_lt_or_eq.1 ht with h|rfl
      ·exact G.out t h
      ·rw[hv];exact ho)
     clear ho hv;rcases hq with⟨hl,h8⟩|⟨hl,h8⟩
     ·have e1:(j:Int)<fr:=by omega
      have e2:¬(j:Int)>=fr:=by omega
      have e3:¬v>=8:=by omega
      clear hl h8;go_wp2_with fail;exact⟨⟨trivial,j+1,by omega,by go_num,HO⟩,by simp[intOf];omega⟩
     ·have e1:¬(j:Int)<fr:=by omega
      have e2:(j:Int)>=fr:=by omega
      subst h8;clear hl;go_wp2_with fail;exact⟨⟨trivial,j+1,by omega,by go_num,HO⟩,by simp[intOf];omega⟩
    ·have HN:=ag (IZ (bn:=bn) (n:=n) HF.out h3 (by rw[hv];exact ho));clear ho hv;rcases hq with⟨hl,h8⟩|⟨hl,h8⟩
     ·have e1:(j:Int)<fr:=by omega
      have e3:v>=8:=by omega
      clear hl h8;go_wp2_with fail;go_ret;exact⟨by rw[HN.out];rfl,HB2.out _ _⟩
     ·have e1:¬(j:Int)<fr:=by omega
      have e2:(j:Int)>=fr:=by omega
      have e3:(v !=0)=true:=by simp[h8]
      have e4:(v==0)=false:=by simp[h8]
      clear hl h8;go_wp2_with fail;go_ret;exact⟨by rw[HN.out];rfl,HB2.out _ _⟩
   ·obtain rfl:j=3:=by omega
    clear hj h3;have q3:(fc=true/\1<=bn/\bn<=14\/fc=false/\bn=0)\/(fc=true/\bn<1\/fc=true/\1<=bn/\bn>14\/fc=false/\bn≠0):=by cases fc<;>simp<;>omega
    rcases q3 with q3|q3
    ·have HY:=ag (EB (n:=n) HF.out (bn:=bn) (by rcases q3 with⟨rfl,h1, -⟩|⟨rfl,rfl⟩<;>simp;omega) (by rcases q3 with⟨-, -,h⟩|⟨-,rfl⟩<;>omega) G.out);have HW:=ag (show fn=true->dJ ⟨kind,bn,a,b,c,n⟩=Dg kind n from fun hfn=>by rw[HY.out,YD HF.out hfn hn0 hn1]);have HW2:=ag (show fn=false->dJ ⟨kind,bn,a,b,c,n⟩=decide (n=0) from fun hfn=>by rw[HY.out,hfn];simp[oU]);clear HY G;rcases q3 with⟨rfl,h1,h2⟩|⟨rfl,rfl⟩
     ·have e1:¬bn<1:=by omega
      have e2:¬bn>14:=by omega
      clear h1 h2;cases fn with
      |true=>
       go_wp2_with fail;refine(CS _ _ _).mono ?_;rintro e w2 ⟨rfl,hb2⟩;have HB3:=ag ((HB2.out _ _).trans (hb2.mono (HB2.out _ _).size));clear hb2;cases D7:Dg kind n<;>(
        have EQ:=ag ((HW.out (by trivial)).trans D7);clear D7;go_wp2_with fail;go_ret;exact⟨by rw[EQ.out];rfl,HB3.out⟩)
      |false=>
       by_cases h1:n=0
       ·subst h1;go_wp2_with fail;go_ret;exact⟨by rw[HW2.out (by trivial)];rfl,HB2.out _ _⟩
       ·have h2:(n==0)=false:=by simp[h1]
        have h3:(n !=0)=true:=by simp[h1]
        have HZ:=ag (decide_eq_false h1);clear h1;go_wp2_with fail;go_ret;exact⟨by rw[HW2.out (by trivial),HZ.out];rfl,HB2.out _ _⟩
     ·cases fn with
      |true=>
       go_wp2_with fail;refine(CS _ _ _).mono ?_;rintro e w2 ⟨rfl,hb2⟩;have HB3:=ag ((HB2.out _ _).trans (hb2.mono (HB2.out _ _).size));clear hb2;cases D7:Dg kind n<;>(
        have EQ:=ag ((HW.out (by trivial)).trans D7);clear D7;go_wp2_with fail;go_ret;exact⟨by rw[EQ.out];rfl,HB3.out⟩)
      |false=>
       by_cases h1:n=0
       ·subst h1;go_wp2_with fail;go_ret;exact⟨by rw[HW2.out (by trivial)];rfl,HB2.out _ _⟩
       ·have h2:(n==0)=false:=by simp[h1]
        have h3:(n !=0)=true:=by simp[h1]
        have HZ:=ag (decide_eq_false h1);clear h1;go_wp2_with fail;go_ret;exact⟨by rw[HW2.out (by trivial),HZ.out];rfl,HB2.out _ _⟩
    ·have HN:=ag (zZ (n:=n) (a:=a) (b:=b) (c:=c) (bn:=bn) HF.out (fun q=>by
      have q1:fc=decide (bn≠0):=eq_of_beq q.1;rcases q3 with⟨h,h1⟩|⟨h,h1,h2⟩|⟨h,h1⟩
      ·rw[h] at q1;simp at q1;omega
      ·omega
      ·rw[h] at q1;simp at q1;omega))
     clear G;rcases q3 with⟨rfl,h1⟩|⟨rfl,h1,h2⟩|⟨rfl,h1⟩
     ·go_wp2_with fail;go_ret;exact⟨by rw[HN.out];rfl,HB2.out _ _⟩
     ·have e1:¬bn<1:=by omega
      clear h1;go_wp2_with fail;go_ret;exact⟨by rw[HN.out];rfl,HB2.out _ _⟩
     ·have e1:(bn==0)=false:=by simp[h1]
      have e2:(bn !=0)=true:=by simp[h1]
      clear h1;go_wp2_with fail;go_ret;exact⟨by rw[HN.out];rfl,HB2.out _ _⟩
section
variable {w w':World}
theorem zF {mem:Int}:∀{cs:List (Int×Int)} {last:Int},last<mem->jo mem last cs=true->(cs.length:Int)<=mem - 1 - last
 |[],last,hl,_=>by simp;omega
 |c::r,last,hl,h=>by
  simp only[jo,Bool.and_eq_true,decide_eq_true_eq] at h;have:=zF (cs:=r) h.1.2 h.2;simp only[List.length_cons];omega
theorem JS {ca ug:Option Addr} {iF jZ:Nat} {l:List (Value×List bM)} {cs:List (Int×Int)} (h:pI w (.slice ca l.length iF) l) (hc:fI iI w 2 (.slice ug cs.length jZ) cs) (mem:Int) (hl:l.length<=6000000000000) (hcl:cs.length<=9000000000000) (hol:∀p∈l,p.2.length<=9000000000000):
  Calls Tryz.prog 32 #[.agg #[.slice ca l.length iF,.int .i64 mem,.slice ug cs.length jZ]] w fun e w'=>e= .returned (.int .i64 (dB mem l cs))/\Below w.heap.size w w':=by
 have H:=ag h;have HC:=ag hc;have HL:=ag hl;have NA:=ag hcl;have LV:=ag hol;have hb0:Below w.heap.size w (w.alloc (Obj.cells #[.slice ca l.length iF,.int .i64 mem,.slice ug cs.length jZ] 30)):=(aQ _ _).alloc (aR _) _;have gy:=aX w (.cells #[.slice ca l.length iF,.int .i64 mem,.slice ug cs.length jZ] 30);have H0:=ag (h.below hb0);have GL:=ag (Rd.below hc hb0);have HB:=ag hb0;have d0:(w.alloc (Obj.cells #[.slice ca l.length iF,.int .i64 mem,.slice ug cs.length jZ] 30)).cell? ⟨w.heap.size,0,none⟩=some (.slice ca l.length iF):=af gy rfl;have d1:(w.alloc (Obj.cells #[.slice ca l.length iF,.int .i64 mem,.slice ug cs.length jZ] 30)).cell? ⟨w.heap.size,1,none⟩=some (.int .i64 mem):=af gy rfl;have d2:(w.alloc (Obj.cells #[.slice ca l.length iF,.int .i64 mem,.slice ug cs.length jZ] 30)).cell? ⟨w.heap.size,2,none⟩=some (.slice ug cs.length jZ):=af gy rfl;clear h hc hl hcl hb0 gy hol;by_cases hA1:262144<mem\/4<l.length
 ·have HE:=ag (show dB mem l cs=3 from by unfold dB;rw[if_pos (by omega)]);by_cases a1:mem>262144
  ·clear hA1;go_in;go_wp2_with fail;go_ret;exact⟨by rw[HE.out];rfl,HB.out⟩
  ·have a2:(l.length:Int)>4:=by omega
   clear hA1;go_in;go_wp2_with fail;go_ret;exact⟨by rw[HE.out];rfl,HB.out⟩
 ·have a1:¬mem>262144:=by omega
  have a2:¬(l.length:Int)>4:=by omega
  have h4:l.length<=4:=by omega
  have HA1:=ag hA1;clear hA1;go_in;go_wp2_with fail;generalize(w.alloc (Obj.cells #[.slice ca l.length iF,.int .i64 mem,.slice ug cs.length jZ] 30))=w0 at H0 GL HB d0 d1 d2⊢;go_loopw [3,4] (fun c i w'=>∃k:Nat,k<=l.length/\i= .int .i64 (k:Int)/\c= .int .i64 (262144 - (fC (l.take k):Int))/\fC (l.take k)<=262144/\w'=w0) (fun c i _=>((l.length:Int) - intOf i).toNat)
  case atStart=>exact⟨0,by omega,rfl,by simp[fC],by simp[fC],rfl⟩
  case round=>
   obtain⟨k,hk,rfl,rfl,hcnt,hw⟩:=hrel;obtain rfl:=hw.symm;by_cases hlt:k<l.length
   ·have hp:=dZ hlt;generalize l[k]=p at hp;obtain⟨cb,co,rfl,hcb,hcc⟩:=fI.at sW H0.out.rows hp;have i0:=hcc 0 _ rfl;obtain⟨ao,cap,hcv⟩:=(H0.out.each p (bA hp)).shape;have hst:=Dx hp;rw[Nat.mul_one,Nat.add_zero,hcv] at i0;have hpl:=LV.out p (bA hp);have HST:=ag hst;have HP:=ag hp;clear hst hcc hcv hp;by_cases hbig:262144 - (fC (l.take k):Int) - (p.2.length:Int)<0
    ·have HE:=ag (show dB mem l cs=3 from by
      have h1:fC (l.take (k+1))<=fC l:=by
       unfold fC
       conv=>rhs;rw[<-List.take_append_drop (k+1) l,List.map_append,List.sum_append]
       omega
      have h2:=HST.out;unfold dB;rw[if_pos (by omega)])
     go_wp2_with fail;go_ret;exact⟨by rw[HE.out];rfl,HB.out⟩
    ·have h2:fC (l.take (k+1))=fC (l.take k)+p.2.length:=by have:=HST.out;omega
     have HS2:=ag h2;clear h2;go_wp2_with fail;exact⟨⟨k+1,by omega,by go_num,by rw[HS2.out];first|rfl|(congr 1;omega),by have:=HS2.out;omega,by trivial⟩,by simp[intOf];omega⟩
   ·obtain rfl:k=l.length:=by omega
    rw[List.take_length] at hcnt;have af3:=ag hcnt;have HNA:=ag (show ¬(262144<mem\/4<l.length\/262144<fC l) from by have:=HA1.out;omega);have Ra:=ag (tZ (l:=l) hcnt);clear hcnt;by_cases hm:mem<1\/mem<(cs.length:Int)
    ·have HE:=ag (show dB mem l cs=1 from by
      unfold dB;rw[if_neg HNA.out];by_cases h1:mem<1
      ·rw[if_pos h1]
      ·rw[if_neg h1];split
       ·rfl
       ·rw[if_pos];rw[<-Bool.not_eq_true];intro hc;have:=zF (by omega) hc;omega)
     by_cases h1:mem<1
     ·clear hm;go_wp2_with fail;go_ret;exact⟨by rw[HE.out];rfl,HB.out⟩
     ·have h2:(cs.length:Int)>mem:=by omega
      clear hm;go_wp2_with fail;go_ret;exact⟨by rw[HE.out];rfl,HB.out⟩
    ·have h1:¬mem<1:=by omega
     have h2:¬(cs.length:Int)>mem:=by omega
     have HM:=ag h1;clear hm;go_wp2_with fail;have hcl:=NA.out;clear a1 a2 h1 h2;go_loopw [5] (fun i w'=>∃k:Nat,k<=l.length/\i= .int .i64 (k:Int)/\Hid (Below w0.heap.size w0 w'/\∀j (p:Value×List bM),j<k->l[j]? =some p->p.2.all dJ=true)) (fun i _=>((l.length:Int) - intOf i).toNat)
     case atStart=>exact⟨0,by omega,rfl,⟨aQ _ _,fun j p hj=>absurd hj (by omega)⟩⟩
     case round=>
      obtain⟨k,hk,rfl,HR⟩:=hrel;have e0:wr.cell? ⟨w.heap.size,0,none⟩=some (.slice ca l.length iF):=cell_later HR.out.1 d0;by_cases hlt:k<l.length
      ·have hp:=dZ hlt;generalize l[k]=p at hp;have hmp:=bA hp;obtain⟨ao,cap,hcv⟩:=(H0.out.each p hmp).shape;have hrow:=H0.out.each p hmp;rw[hcv] at hrow;obtain⟨cb,co,e1,hcb,hcc⟩:=fI.at sW H0.out.rows hp;have i0:=hcc 0 _ rfl;rw[Nat.mul_one,Nat.add_zero,hcv] at i0;subst e1;have HI0:=ag i0;have Gx:=ag hrow;have agy:=Ra.out p hmp;have X0:=ag (H0.out.wf p hmp);have HP:=ag hp;clear hcc hcv hcb hrow hmp hp i0;go_wp2_with fail;go_loopw [6] (fun i w'=>∃m:Nat,m<=p.2.length/\i= .int .i64 (m:Int)/\Hid (Below w0.heap.size w0 w'/\∀o∈p.2.take m,dJ o=true)) (fun i _=>((p.2.length:Int) - intOf i).toNat)
       case atStart=>exact⟨0,by omega,rfl,⟨HR.out.1,fun o ho=>by simp at ho⟩⟩
       case round=>
        obtain⟨m,hm,rfl,HS⟩:=hrel;obtain⟨wi,rfl⟩:∃x,x=wr:=⟨_,rfl⟩;have f0:=cell_later HS.out.1 d0;have fi:=cell_later HS.out.1 HI0.out;by_cases hlm:m<p.2.length
        ·obtain⟨o,ho⟩:=bW hlm;obtain⟨ob,oo,e1,hob,hoc⟩:=fI.at dL (Rd.below Gx.out HS.out.1) ho;subst e1;have g0:=hoc 0 _ rfl;have g1:=hoc 1 _ rfl;have g2:=hoc 2 _ rfl;have g3:=hoc 3 _ rfl;have g4:=hoc 4 _ rfl;have g5:=hoc 5 _ rfl;simp only[Nat.add_zero] at g0;have UL:=ag ho;clear hoc hob ho;go_wp2_with fail;refine(LZ _ o (X0.out o (bA UL.out))).mono ?_;rintro e w2 ⟨rfl,hb2⟩;have HB2:=ag (gH HS.out.1 hb2);clear hb2;cases hck:dJ o with
         |false=>
          have HCK:=ag hck;clear hck;simp only[rz];go_wp2_with fail;go_ret;refine⟨?_,gH HB.out HB2.out⟩;rw[show dB mem l cs=1 from by
           unfold dB;rw[if_neg HNA.out,if_neg (show ¬mem<1 from by have:=HM.out;omega),if_pos];rw[List.all_eq_false];exact⟨p,bA HP.out,by
            rw[Bool.not_eq_true,List.all_eq_false];exact⟨o,bA UL.out,by rw[HCK.out];decide⟩⟩]
          rfl
         |true=>
          have HCK:=ag hck;clear hck;simp only[rz];go_wp2_with fail;refine⟨⟨m+1,by omega,by go_num,⟨HB2.out,fun q hq=>?_⟩⟩,by simp[intOf];omega⟩;rw[dx UL.out] at hq;rcases List.mem_append.1 hq with hq|hq
          ·exact HS.out.2 q hq
          ·rw[List.mem_singleton.1 hq];exact HCK.out
        ·obtain rfl:m=p.2.length:=by omega
         go_wp2_with fail;refine⟨⟨k+1,by omega,by go_num,⟨HS.out.1,fun j q hj hq=>?_⟩⟩,by simp[intOf];omega⟩;by_cases e:j=k
         ·subst e;rw[HP.out] at hq;cases hq;rw[List.all_eq_true];intro o ho;exact HS.out.2 o (by rw[List.take_length];exact ho)
         ·exact HR.out.2 j q (by omega) hq
      ·obtain rfl:k=l.length:=by omega
       have Df:=ag (show(l.all fun p=>p.2.all dJ)=true from by
        rw[List.all_eq_true];intro p hp;obtain⟨j,hj⟩:=List.getElem?_of_mem hp;exact HR.out.2 j p (bE.1 hj).1 hj)
       have HB1:=ag HR.out.1;have q1:=cell_later HB1.out d1;have q2:=cell_later HB1.out d2;have J8:=ag (Rd.below GL.out HB1.out);obtain⟨w1,rfl⟩:∃x,x=wr:=⟨_,rfl⟩;clear d0 d1 d2 HR;go_wp2_with fail;go_loopw [7,8] (fun lv i w'=>∃(k:Nat) (la:Int),k<=cs.length/\i= .int .i64 (k:Int)/\lv= .int .i64 la/\Hid (Below w1.heap.size w1 w'/\jo mem (-1) cs=jo mem la (cs.drop k))) (fun lv i _=>((cs.length:Int) - intOf i).toNat)
       case atStart=>exact⟨0, -1,by omega,rfl,rfl,⟨aQ _ _,by simp⟩⟩
       case round=>
        obtain⟨k,la,hk,rfl,rfl,HR⟩:=hrel;have m1:=cell_later HR.out.1 q1;have m2:=cell_later HR.out.1 q2;by_cases hlt:k<cs.length
        ·have hp:=dZ hlt;have hdr:=List.drop_eq_getElem_cons hlt;generalize cs[k]=c at hp hdr;obtain⟨cat,cv⟩:=c;obtain⟨cb,co,e1,hcb,hcc⟩:=fI.at oD (Rd.below J8.out HR.out.1) hp;have i0:=hcc 0 _ rfl;rw[Nat.add_zero] at i0;have HD:=ag (show jo mem (-1) cs=(decide (la<cat/\cat<mem) && jo mem cat (cs.drop (k+1))) from by rw[HR.out.2,hdr];rfl);have HB2:=ag HR.out.1;subst e1;clear hcc hcb hp hdr HR;by_cases b1:cat<=la
         ·go_wp2_with fail;go_quiet (fail)
          go_wp2_with fail;go_ret;refine⟨?_,below_drewN (gH HB.out (gH HB1.out HB2.out)) _⟩;rw[show dB mem l cs=1 from by
           unfold dB;rw[if_neg HNA.out,if_neg (show ¬mem<1 from by have:=HM.out;omega),if_neg (by rw[Df.out];decide),if_pos];rw[HD.out,decide_eq_false (by omega)];rfl]
          rfl
         ·by_cases b2:cat>=mem
          ·go_wp2_with fail;go_quiet (fail)
           go_wp2_with fail;go_ret;refine⟨?_,below_drewN (gH HB.out (gH HB1.out HB2.out)) _⟩;rw[show dB mem l cs=1 from by
            unfold dB;rw[if_neg HNA.out,if_neg (show ¬mem<1 from by have:=HM.out;omega),if_neg (by rw[Df.out];decide),if_pos];rw[HD.out,decide_eq_false (by omega)];rfl]
           rfl
          ·have b1':la<cat:=by omega
           have b2':cat<mem:=by omega
           have HBB:=ag (And.intro b1' b2');clear b1' b2';go_wp2_with fail;go_quiet (fail)
           go_wp2_with fail;refine⟨⟨k+1,cat,by omega,by go_num,rfl,⟨below_drewN HB2.out _,by rw[HD.out,decide_eq_true HBB.out];rfl⟩⟩,by simp[intOf];omega⟩
        ·obtain rfl:k=cs.length:=by omega
         go_wp2_with fail;go_ret;refine⟨?_,gH HB.out (gH HB1.out HR.out.1)⟩;rw[show dB mem l cs=0 from by
          unfold dB;rw[if_neg HNA.out,if_neg (show ¬mem<1 from by have:=HM.out;omega),if_neg (by rw[Df.out];decide),if_neg];rw[HR.out.2];simp[jo]]
         rfl
end
section
variable {w w':World} {base b:Nat} {own own':Nat->Nat} {mm:MM} {xs:List RX} {mv tv ev:Value}
theorem iy.start {w3:World} {base B mb mn:Nat} (hB:w3.heap[B]? =some (.cells #[.slice (some ⟨mb,0,none⟩) mn mn,.slice none 0 0,.slice none 0 0] 55 (0,0)))
  (hm:w3.heap[mb]? =some (.cells (List.replicate mn (encI 0)).flatten.toArray 2 (0,0))) (hne:mb≠B) (h1:base<=B) (h2:base<=mb) (hmn:mn<=262144):
  iy w3 base B (dK B mb) ⟨List.replicate mn 0,[],[]⟩ [] (.slice (some ⟨mb,0,none⟩) mn mn) (.slice none 0 0) (.slice none 0 0):=by
 have e1:(List.replicate mn (encI 0)).flatten=(List.replicate mn (0:Int)).flatMap encI:=by simp[List.flatMap]
 have e2:((List.replicate mn (0:Int)).flatMap encI).length=mn:=by rw[jQ jL];simp
 have hrow:w3.ownsRow base 2 1 (.slice (some ⟨mb,0,none⟩) mn mn) mn ((List.replicate mn (0:Int)).flatMap encI):=by
  refine⟨by rw[e2,Nat.mul_one],.inr ⟨mb,mn,_,rfl,h2,hm,aR _,by unfold maxLen;omega,?_,?_⟩⟩
  ·rw[e1];simp only[List.size_toArray];rw[e2,Nat.mul_one]
  ·rw[e1,List.toList_toArray,List.take_of_length_le (by rw[e2];simp)]
 have hown:dK B mb B=1:=by unfold dK;rw[if_pos rfl]
 have hlen:(List.replicate mn (0:Int)).length=mn:=by simp
 refine⟨hB,⟨h1,hown⟩,by rw[hlen];exact hrow,fun g hg=>?_,World.ownsRow_nil _ _ _ _,(fun g hg=>by cases hg),World.ownsRow_nil _ _ _ _,(fun g hg=>by cases hg),rfl,(fun i x hx=>by simp at hx),fun k hk=>?_,fun k hk=>?_⟩
 ·simp only[Value.ownBlock,bU] at hg;subst hg;unfold dK;rw[if_neg hne,if_pos rfl]
 ·have l1:=lt_of_block hB;have l2:=lt_of_block hm;unfold dK;rw[if_neg (by omega),if_neg (by omega)]
 ·unfold dK at hk;split at hk
  ·omega
  ·split at hk
   ·omega
   ·exact absurd rfl hk
def JG (code:List bM) (cv:Value):RX:=⟨MT.new code,cv,.slice none 0 0,.slice none 0 0⟩
theorem iy.push (h:iy w base b own mm xs mv tv ev) (hc:bH (fun k=>tv.ownBlock=some k) w w') {code:List bM} {cv tv':Value} (hcode:fI bR w' 6 cv code) (hcn:∀g,code≠[]->cv.ownBlock=some g->g<base)
  (Uj:w'.ownsRow base 61 13 tv' (xs.length+1) ((xs++[JG code cv]).flatMap rE)) (htn:∀g,tv'.ownBlock=some g->tv.ownBlock=some g\/w.heap.size<=g):
  iy (w'.setCell ⟨b,1,none⟩ tv') base b (retag own tv' 3 w.heap.size) {mm with aM:=mm.aM++[MT.new code]} (xs++[JG code cv]) mv tv' ev:=by
 have hbl:=h.lt;have hk:∀g,own g≠3->own g≠1->g<w.heap.size->(w'.setCell ⟨b,1,none⟩ tv').heap[g]? =w.heap[g]?:=fun g h3 h1 hl=>by
  rw[dO _ _ _ _ (fun e=>h1 (by rw[e];exact h.bT.2))];exact hc.block g hl fun e=>h3 (h.fo g e)
 have hb1:=gV hc h.blk (fun hk=>by have h1:=h.fo _ hk;rw[h.bT.2] at h1;exact absurd h1 (by decide));have hset:=aK (o:=1) tv' hb1;have hsz:=hc.size;have hbs:=h.eX;have ho:∀k,k<w.heap.size->retag own tv' 3 w.heap.size k=own k:=fun k hk=>iT hk
 have hlen:(xs++[JG code cv]).length=xs.length+1:=by simp
 have htb:∀g,tv'.ownBlock=some g->g≠b:=fun g hg e=>by
  rcases htn g hg with e'|e'
  ·have:=h.fo g e';rw[e,h.bT.2] at this;omega
  ·omega
 refine⟨hset,⟨h.bT.1,by rw[ho _ hbl];exact h.bT.2⟩,aP h.mem fun g hg hl=>hk g (by rw[h.memT g hg];omega) (by rw[h.memT g hg];omega) hl,fun g hg=>by rw[ho _ (cK h.mem hg).2];exact h.memT g hg,
  by rw[hlen];exact aP Uj fun g hg _=>dO _ _ _ _ (htb g hg),fun g hg=>qd htn h.fo hg,
  aP h.evs fun g hg hl=>hk g (by rw[h.jI g hg];omega) (by rw[h.jI g hg];omega) hl,fun g hg=>by rw[ho _ (cK h.evs hg).2];exact h.jI g hg,
  by simp[h.same,JG],fun i x hx=>?_,fun k hk'=>by rw[bG] at hk';exact m_ (fun g hg=>(cK Uj hg).2) (h.fresh k (by omega)) hk',fun k=>wF hbs h.low⟩
 rcases Nat.lt_or_ge i xs.length with hi|hi
 ·rw[List.getElem?_append_left hi] at hx;exact(h.th i x hx).keep ho fun g hg hl=>by
   rcases hg with e|e|e
   ·exact hk g (by rw[h.zero e];decide) (by rw[h.zero e];decide) hl
   ·exact hk g (by omega) (by omega) hl
   ·exact hk g (by omega) (by omega) hl
 ·have hi':i=xs.length:=by have:=(bE.1 hx).1;rw[hlen] at this;omega
  subst hi';simp at hx;subst hx;exact⟨hcode.yN fun g hn hg _=>dO _ _ _ _ (fun e=>by have h1:=hcn g hn hg;have h2:=h.bT.1;simp only at e;omega),hcn,eF.nil _ _ _ _,(fun g hg=>by cases hg),World.ownsRow_nil _ _ _ _,fun g hg=>by cases hg⟩
theorem Vz:(Tryz.prog.info? 61).map (fun i=>(i.zero,i.size,i.bytes))=some (some (.agg #[.slice none 0 0,.int .i64 0,.int .i64 0,.int .i64 0,.int .i64 0,.int .i64 0,.int .i64 0,.int .i64 0,.int .i64 0,.int .i64 0,.slice none 0 0,.slice none 0 0,.int .u8 0]),13,152):=by kernel_rfl
theorem R3 (code:List bM) (ao:Option Addr) (n cp:Nat):∀u∈rE (JG code (.slice ao n cp)),u.oneCell'=true:=by
 intro u hu;simp[rE,JG,MT.new] at hu;rcases hu with rfl|rfl|rfl|rfl<;>rfl
def I9 (mem:Int) (l:List (Value×List bM)) (cs:List (Int×Int)) (w:World) (e:Ending) (w':World):Prop:=
 ∃b own xs mv tv ev,e= .returned (.tuple #[.pointer (some ⟨b,0,none⟩),.int .i64 0])/\iy w' w.heap.size b own (iC mem (l.map (·.2)) cs) xs mv tv ev/\Below w.heap.size w w'
def Tj (l:List (Value×List bM)) (xs:List RX):Prop:=∀x∈xs,∃p∈l,x.cv=p.1/\x.th.code=p.2
def O6 (mem:Int) (l:List (Value×List bM)) (cs:List (Int×Int)) (w:World) (e:Ending) (w':World):Prop:=
 ∃b own xs mv tv ev,e= .returned (.tuple #[.pointer (some ⟨b,0,none⟩),.int .i64 0])/\iy w' w.heap.size b own (iC mem (l.map (·.2)) cs) xs mv tv ev/\Tj l xs/\Below w.heap.size w w'
theorem OJ {ca ug:Option Addr} {iF jZ:Nat} {l:List (Value×List bM)} {cs:List (Int×Int)} (h:pI w (.slice ca l.length iF) l) (hc:fI iI w 2 (.slice ug cs.length jZ) cs) (mem:Int) (hl:l.length<=6000000000000) (hcl:cs.length<=9000000000000) (hol:∀p∈l,p.2.length<=9000000000000) (hk:dB mem l cs=0):
  Calls Tryz.prog 14 #[.agg #[.slice ca l.length iF,.int .i64 mem,.slice ug cs.length jZ]] w (O6 mem l cs w):=by
 have hb0:Below w.heap.size w (w.alloc (.cells #[.slice ca l.length iF,.int .i64 mem,.slice ug cs.length jZ] 30)):=(aQ _ _).alloc (aR _) _;have gy:=aX w (.cells #[.slice ca l.length iF,.int .i64 mem,.slice ug cs.length jZ] 30);have H0:=ag (h.below hb0);have GL:=ag (Rd.below hc hb0);have HB:=ag hb0;have HC:=ag hc;have H:=ag h;have HL:=ag hl;have NA:=ag hcl;have LV:=ag hol;have HE:=ag hk;have tN:=ag gy;clear h hc hl hcl hb0 hk gy hol;go_in;go_wp2_with fail;refine(JS H0.out GL.out mem HL.out NA.out LV.out).mono ?_;rintro e w1 ⟨rfl,hb1⟩;rw[HE.out];have Cc:=(hb1.block w.heap.size (by simp)).trans tN.out;have d0:w1.cell? ⟨w.heap.size,0,none⟩=some (.slice ca l.length iF):=af Cc rfl;have d1:w1.cell? ⟨w.heap.size,1,none⟩=some (.int .i64 mem):=af Cc rfl;have d2:w1.cell? ⟨w.heap.size,2,none⟩=some (.slice ug cs.length jZ):=af Cc rfl;have HB1:=ag (HB.out.trans (hb1.mono HB.out.size));have hw1:w.heap.size+1<=w1.heap.size:=lt_of_block Cc;have ZA:=ag Cc;clear hb1 Cc HB H0 GL tN;have hmem:=um HE.out;have hlc:=p8 HE.out;obtain⟨mn,rfl⟩:=Int.eq_ofNat_of_zero_le (show 0<=mem by omega);have XD:=ag hmem;have HLC:=ag hlc;have hcs:cs.length<=262144:=by
  have h1:=zF (by omega) (pX HE.out).2;omega
 obtain⟨i0,hi,hz0,hz1,hz2⟩:=info_parts BL;clear hmem hlc;go_wp2_with (at_make;refine mq _ rfl _ _ 51 rfl 2 i0 _ 1 (encI 0) Tryz.underlying51 hi hz0 hz1 rfl rfl (by decide) _ _ _ _ mn mn rfl rfl rfl rfl ?b0 ?b1 ?b2 ?_)
 case b0=>exact aR _
 case b1=>have:=XD.out;rw[hz2];omega
 case b2=>have:=XD.out;unfold maxLen;omega
 intro w2 hblk hsz2 hb2;have hB3:=heap_alloc_new w2 (.cells #[.slice (some ⟨w1.heap.size,0,none⟩) mn mn,.slice none 0 0,.slice none 0 0] 55);have Yo:=(heap_alloc_old w2 (.cells #[.slice (some ⟨w1.heap.size,0,none⟩) mn mn,.slice none 0 0,.slice none 0 0] 55) (show w1.heap.size<w2.heap.size by omega)).trans hblk;have hb3:Below w1.heap.size w1 (w2.alloc (.cells #[.slice (some ⟨w1.heap.size,0,none⟩) mn mn,.slice none 0 0,.slice none 0 0] 55)):=hb2.alloc hb2.size _;have Xz:=ag (iy.start (base:=w.heap.size) hB3 Yo (by omega) (by have:=HB1.out.size;omega) HB1.out.size (by have:=XD.out;omega));have HB3:=ag (HB1.out.trans (hb3.mono HB1.out.size));have Vf:=ag (blk hb3 ZA.out);have Q7:=ag hsz2;clear hblk hsz2 hb2 hB3 Yo hb3 hi hz0 hz1 hz2 d0 d1 d2 HB1 ZA;have q2':=af (o:=2) Vf.out rfl;go_wp2_with fail;generalize(w2.alloc (.cells #[.slice (some ⟨w1.heap.size,0,none⟩) mn mn,.slice none 0 0,.slice none 0 0] 55))=w3 at Xz HB3 Vf q2'⊢;clear q2';have HNB:=ag (show ¬w.heap.size=w1.heap.size from by omega);have Zt:=ag (show iy w3 w.heap.size w2.heap.size (dK w2.heap.size w1.heap.size) ⟨iG (cs.take 0) (List.replicate mn 0),[],[]⟩ [] (.slice (some ⟨w1.heap.size,0,none⟩) (iG (cs.take 0) (List.replicate mn 0)).length mn) (.slice none 0 0) (.slice none 0 0) from by
  have e:(iG (cs.take 0) (List.replicate mn 0)).length=mn:=by rw[qK];simp
  rw[e];exact Xz.out)
 clear Xz;go_loopw [6] (fun i w'=>∃k:Nat,k<=cs.length/\i= .int .i64 (k:Int)/\Hid (iy w' w.heap.size w2.heap.size (dK w2.heap.size w1.heap.size) ⟨iG (cs.take k) (List.replicate mn 0),[],[]⟩ [] (.slice (some ⟨w1.heap.size,0,none⟩) (iG (cs.take k) (List.replicate mn 0)).length mn) (.slice none 0 0) (.slice none 0 0)/\bH (fun k=>k=w1.heap.size) w3 w')) (fun i _=>((cs.length:Int) - intOf i).toNat)
 case atStart=>exact⟨0,by omega,rfl,⟨Zt.out,bH.refl _ _⟩⟩
 case round=>
  obtain⟨k,hk,rfl,HR⟩:=hrel;have hlen:(iG (cs.take k) (List.replicate mn 0)).length=mn:=by rw[qK];simp
  have WY:=gV HR.out.2 Vf.out (fun e=>HNB.out e);have r2:wr.cell? ⟨w.heap.size,2,none⟩=some (.slice ug cs.length jZ):=af WY rfl;have r0:wr.cell? ⟨w.heap.size,0,none⟩=some (.slice ca l.length iF):=af WY rfl;have hwr:Below w.heap.size w wr:=bH.below HB3.out HB3.out.size HR.out.2 (fun k e=>by rw[e];omega);have HWR:=ag hwr;have HXR:=ag WY;clear WY hwr;by_cases hlt:k<cs.length
  ·have hp:=dZ hlt;generalize cs[k]=c at hp;have hst:=EO hp (List.replicate mn 0);have hcb:=Cz (by omega) (pX HE.out).2 c (bA hp);obtain⟨can,cv⟩:=c;obtain⟨an,rfl⟩:=Int.eq_ofNat_of_zero_le hcb.1;obtain⟨gb,co,e1,hgb,hcc⟩:=fI.at oD (Rd.below HC.out HWR.out) hp;have GQ:=hcc 0 _ rfl;have Ka:=hcc 1 _ rfl;rw[Nat.add_zero] at GQ;subst e1;have TN:an<(iG (cs.take k) (List.replicate mn 0)).length:=by rw[hlen];omega
   have c0:=HR.out.1.iA 0 _ rfl;rw[hlen] at c0;obtain⟨M0,hM0⟩:∃M0,(iG (cs.take k) (List.replicate mn 0)).getD an 0=M0:=⟨_,rfl⟩;have cM:=HR.out.1.yZ TN;have fM:=HR.out.1.Cv (by show 0<(iG (cs.take k) (List.replicate mn 0)).length;omega) an;simp only at cM;rw[hM0] at cM;have vF:an<mn:=by rw[hlen] at TN;exact TN
   have HST:=ag hst;have HAM:=ag TN;have HLEN:=ag hlen;clear hcc hgb hp hst hcb hM0 hlen TN;go_wp2_with fail;go_region;go_wp2_with fail;refine⟨⟨k+1,by omega,by go_num,ag ⟨?_,(HR.out.2.setCell (p:=⟨w1.heap.size,an,none⟩) (.inl rfl) _).drew⟩⟩,by simp[intOf];omega⟩;have hw:=(HR.out.1.word HAM.out cv).drew;have e:(iG (cs.take (k+1)) (List.replicate mn 0)).length=(iG (cs.take k) (List.replicate mn 0)).length:=by rw[qK,qK]
   rw[e,HST.out];exact hw
  ·obtain rfl:k=cs.length:=by omega
   rw[List.take_length] at HR;have HR1:=ag HR.out.1;clear HR hlen;obtain⟨w5,rfl⟩:∃x,x=wr:=⟨_,rfl⟩;go_wp2_with fail;go_loopw [7] (fun i w'=>∃k:Nat,k<=l.length/\i= .int .i64 (k:Int)/\Hid (∃own xs tv,iy w' w.heap.size w2.heap.size own ⟨iG cs (List.replicate mn 0),(l.take k).map fun p=>MT.new p.2,[]⟩ xs (.slice (some ⟨w1.heap.size,0,none⟩) (iG cs (List.replicate mn 0)).length mn) tv (.slice none 0 0)/\xs.length=k/\Tj l xs/\∀j,w5.heap.size<=j\/own j=dK w2.heap.size w1.heap.size j)/\Hid (Below w.heap.size w w'/\w'.heap[w.heap.size]? =w5.heap[w.heap.size]?/\w5.heap.size<=w'.heap.size)) (fun i _=>((l.length:Int) - intOf i).toNat)
   case atStart=>exact⟨0,by omega,rfl,ag ⟨_,[],_,by simpa using HR1.out,rfl,(fun x hx=>absurd hx (by simp)),fun j=>.inr rfl⟩,ag ⟨HWR.out,rfl,aR _⟩⟩
   case round=>
    obtain⟨k,hk,rfl,HQ,HW⟩:=hrel;obtain⟨own,xs,tv,hq,hxl,hco,hoo⟩:=HQ.out;have WY:wr.heap[w.heap.size]? =some (.cells #[.slice ca l.length iF,.int .i64 (mn:Int),.slice ug cs.length jZ] 30 (0,0)):=HW.out.2.1.trans HXR.out;have t0:wr.cell? ⟨w.heap.size,0,none⟩=some (.slice ca l.length iF):=af WY rfl;have HX:=ag WY;clear WY;by_cases hlt:k<l.length
    ·have hp:=dZ hlt;generalize l[k]=p at hp;have hmp:=bA hp;obtain⟨ao,cap,hcv⟩:=(H.out.each p hmp).shape;obtain⟨cb,co,e1,hcb,hcc⟩:=fI.at sW (H.out.below HW.out.1).rows hp;have GQ:=hcc 0 _ rfl;rw[Nat.mul_one,Nat.add_zero,hcv] at GQ;subst e1;subst hxl;obtain⟨tz9,tc,rfl⟩:=bF hq.aM;obtain⟨i0,hi,hz0,hz1,hz2⟩:=info_parts Vz;have c1:=hq.iA 1 _ rfl;have f1:=hq.WI 1;have h4:=HLC.out.1;have HQT:=ag hq.aM;have Zw:=ag hq;have UL:=ag hoo;have HP:=ag hp;have hrow:=H.out.each p hmp;rw[hcv] at hrow;have Gx:=ag hrow;have J5:=ag hcv;have XE:=ag hmp;have HCO:=ag hco;have adr:w.heap.size<wr.heap.size:=lt_of_block HX.out;have hbl:w2.heap.size<wr.heap.size:=hq.lt;clear hcc hp hmp hq hoo hcv hrow hco;go_wp2_with fail
     go_region_law (first|(refine kE (by rfl) (.tmp 53) (.tmp 60) 52 (by rfl) w.heap.size 61 i0 _ 13 152 Tryz.underlying52 hi hz0 hz1 hz2 rfl (by decide) (.slice tz9 xs.length tc) xs.length (xs.flatMap rE) (by simp[Act.eval]) (by exact bD HQT.out (((bH.refl (fun _=>False) wr).alloc _).drew) (fun _ _=>id)) ⟨wr.heap.size,0,none⟩ 1 1 (by decide) (rE (JG p.2 (.slice ao p.2.length cap))) (by simp[Act.eval]) rfl (by exact kK (aX wr _)) (R3 _ _ _ _) (by unfold maxLen;omega) (by omega) (by show w.heap.size<=(wr.alloc _).heap.size;rw[World.size_alloc];omega) ?_;intro Mw Lt w9 h1 h2 h3;have hg0:bH (fun k=>(Value.slice tz9 xs.length tc).ownBlock=some k) wr w9:=bH.grown (S:=fun k=>(Value.slice tz9 xs.length tc).ownBlock=some k) (((bH.refl _ wr).alloc _).drew) h3 (fun k hk=>.inl hk);have hbt:w9.heap[w2.heap.size]? =wr.heap[w2.heap.size]?:=hg0.block w2.heap.size Zw.out.lt (fun e=>by have h7:=Zw.out.fo _ e;rw[Zw.out.bT.2] at h7;omega);have s1:w9.cell? ⟨w2.heap.size,1,none⟩=some (.slice tz9 xs.length tc):=(World.cell?_of_block hbt).trans c1;have s2:w9.frozen? ⟨w2.heap.size,1,none⟩=false:=(by have f12:=f1;unfold World.frozen? at f12⊢;rw[hbt];exact f12);have J_:=ag hg0;have UB:=ag h1;have GV:=ag h2;clear h1 h2 h3 hg0 hbt))
     all_goals (
      have vF:Below w.heap.size w w9:=bH.below HW.out.1 HW.out.1.size J_.out (fun k hk=>(cK HQT.out hk).1);have hne:∀g,(Value.slice Mw (xs.length+1) Lt).ownBlock=some g->(Value.slice tz9 xs.length tc).ownBlock=some g\/wr.heap.size<=g:=fun g hg=>by
       rcases GV.out g hg with e|e
       ·exact .inl e
       ·exact .inr (by have e':(wr.alloc _).heap.size<=g:=e;rw[World.size_alloc] at e';omega)
      have hpush:=Zw.out.push J_.out (Rd.below Gx.out vF) (fun g hn hg=>Cf Gx.out hn hg) (by rw[mU];exact UB.out) hne;have hown0:dK w2.heap.size w1.heap.size w.heap.size=0:=by
       unfold dK;rw[if_neg (by have:=Q7.out;omega),if_neg HNB.out]
      have abb:own w.heap.size=0:=by
       rcases UL.out w.heap.size with e|e
       ·have:=lt_of_block HXR.out;omega
       ·rw[e];exact hown0
      have Tp:(w9.setCell ⟨w2.heap.size,1,none⟩ (.slice Mw (xs.length+1) Lt)).heap[w.heap.size]? =w5.heap[w.heap.size]?:=by
       rw[dO _ _ _ _ (fun e=>by have:=Q7.out;(try simp only at e);omega)];exact(J_.out.block _ adr (fun e=>by have h7:=Zw.out.fo _ e;rw[abb] at h7;omega)).trans HW.out.2.1
      have Zr:=ag hpush;have WT:=ag Tp;have Fa:=ag vF;clear hpush Tp vF hne abb hown0 c1 f1 hi hz0 hz1 hz2 t0;go_wp2_with fail;refine⟨⟨xs.length+1,by omega,by go_num,ag ⟨retag own (.slice Mw (xs.length+1) Lt) 3 wr.heap.size,xs++[JG p.2 (.slice ao p.2.length cap)],.slice Mw (xs.length+1) Lt,?_,by simp,fun x hx=>?_,fun j=>?_⟩,ag ⟨(bH.below Fa.out Fa.out.size ((bH.refl (fun k=>k=w2.heap.size) w9).setCell (p:=⟨w2.heap.size,1,none⟩) (.inl rfl) _) (fun k e=>by rw[e];exact Zw.out.bT.1)),WT.out,by
       have h8:=J_.out.size;have h9:=HW.out.2.2;simp[World.setCell];omega⟩⟩,by simp[intOf];omega⟩
      ·have e:(l.take (xs.length+1)).map (fun p=>MT.new p.2)=(l.take xs.length).map (fun p=>MT.new p.2)++[MT.new p.2]:=by
        rw[dx HP.out,List.map_append];rfl
       rw[e];exact Zr.out
      ·rcases List.mem_append.1 hx with hx|hx
       ·exact HCO.out x hx
       ·rw[List.mem_singleton.1 hx];exact⟨p,XE.out,J5.out.symm,rfl⟩
      ·rcases Nat.lt_or_ge j w5.heap.size with hj|hj
       ·right
        rw[iT (Nat.lt_of_lt_of_le hj HW.out.2.2)];rcases UL.out j with e|e
        ·omega
        ·exact e
       ·exact .inl hj)
    ·obtain rfl:k=l.length:=by omega
     go_wp2_with fail
     go_ret2
     have e:iC (mn:Int) (l.map (·.2)) cs=⟨iG cs (List.replicate mn 0),(l.take l.length).map fun p=>MT.new p.2,[]⟩:=by
      rw[List.take_length];unfold iC;simp
     rw[<-e] at hq;exact⟨_,_,_,_,_,_,rfl,hq,hco,HW.out.1⟩
theorem Tn {ca ug:Option Addr} {iF jZ:Nat} {l:List (Value×List bM)} {cs:List (Int×Int)} (h:pI w (.slice ca l.length iF) l) (hc:fI iI w 2 (.slice ug cs.length jZ) cs) (mem:Int) (hl:l.length<=6000000000000) (hcl:cs.length<=9000000000000) (hol:∀p∈l,p.2.length<=9000000000000) (hk:dB mem l cs=0):
  Calls Tryz.prog 14 #[.agg #[.slice ca l.length iF,.int .i64 mem,.slice ug cs.length jZ]] w (I9 mem l cs w):=
 (OJ h hc mem hl hcl hol hk).mono fun _ _ ⟨b,own,xs,mv,tv,ev,h1,h2,_,h3⟩=>⟨b,own,xs,mv,tv,ev,h1,h2,h3⟩
end
section
variable {w w':World} {base:Nat}
theorem PI (w:World) (p:gT):
  Calls Tryz.prog 33 #[.agg #[.int .u8 p.kind,.int .i64 p.th,.int .i64 p.n]] w fun e w'=>e= .returned (.bool (!nC p))/\Below w.heap.size w w':=by
 have hv:(!nC p)=(decide (p.kind<=2) && decide (p.n>=0)):=by
  unfold nC;rw[Bool.eq_iff_iff];simp
 by_cases h1:p.kind<=2
 ·by_cases h2:p.n>=0
  ·have hr:(!nC p)=true:=by rw[hv];simp[h1];omega
   have HR:=ag hr;clear hr hv;go_in;go_wp2_with fail;go_ret;rw[HR.out];exact⟨rfl,(aQ _ _).alloc (aR _) _⟩
  ·have hr:(!nC p)=false:=by rw[hv];simp;omega
   have HR:=ag hr;clear hr hv;go_in;go_wp2_with fail;go_ret;rw[HR.out];exact⟨rfl,(aQ _ _).alloc (aR _) _⟩
 ·have hr:(!nC p)=false:=by rw[hv];simp;omega
  have HR:=ag hr;clear hr hv;go_in;go_wp2_with fail;go_ret;rw[HR.out];exact⟨rfl,(aQ _ _).alloc (aR _) _⟩
theorem O4 (w:World) (p:gT) (hn:0<=p.n):
  Calls Tryz.prog 34 #[.agg #[.int .u8 p.kind,.int .i64 p.th,.int .i64 p.n],.int .i64 1048576] w fun e w'=>e= .returned (.int .i64 (min (qA p) 1048577))/\Below w.heap.size w w':=by
 go_in;by_cases hk:p.kind=2
 ·go_wp2_with fail;all_goals
   go_ret;refine⟨?_,(aQ _ _).alloc (aR _) _⟩;simp[qA,wrap64,hk] at*;omega
 ·go_wp2_with fail;all_goals
   go_ret;refine⟨?_,(aQ _ _).alloc (aR _) _⟩;simp[qA,hk] at*;omega
theorem Ir {ao:Option Addr} {cap:Nat} {l:List gT} (h:fI iE w 3 (.slice ao l.length cap) l) (hm:l.length<=9000000000000):
  Calls Tryz.prog 15 #[.slice ao l.length cap] w fun e w'=>e= .returned (.tuple #[.int .i64 (eG l).1,.int .i64 (eG l).2])/\Below w.heap.size w w':=by
 have H:=ag h;clear h;go_in;by_cases hb:65536<l.length
 ·go_wp2_with fail
  go_ret2
  unfold eG;rw[if_pos hb];exact⟨rfl,aQ _ _⟩
 ·have h1:¬((l.length:Int)>65536):=by omega
  go_wp2_with fail;go_loopw [4] (fun i w'=>∃k:Nat,k<=l.length/\i= .int .i64 (k:Int)/\Hid (Below w.heap.size w w')/\Hid ((l.take k).any nC=false)) (fun i _=>((l.length:Int) - intOf i).toNat)
  case atStart=>exact⟨0,by omega,rfl,ag (aQ _ _),ag rfl⟩
  case round=>
   obtain⟨k,hk,rfl,HB,hall⟩:=hrel;by_cases hlt:k<l.length
   ·obtain⟨x,hx⟩:=bW hlt;obtain⟨b1,o1,rfl,hs1,hc1⟩:=fI.at qi (Rd.below H.out HB.out) hx;have x0:=hc1 0 _ rfl;have x1:=hc1 1 _ rfl;have x2:=hc1 2 _ rfl;simp only[Nat.add_zero] at x0;clear hc1 hs1;have HX:=ag hx;clear hx;go_wp2_with fail;refine(PI _ x).mono ?_;rintro e w2 ⟨rfl,hb2⟩;have HB2:=ag (gH HB.out hb2);clear hb2;by_cases hbad:nC x=true
    ·have hv:eG l=(0,1):=by unfold eG;rw[if_neg hb,if_pos (List.any_eq_true.2 ⟨x,bA HX.out,hbad⟩)]
     have HV:=ag hv;rw[hbad];clear hv hall hbad;go_wp2_with fail
     go_ret2
     rw[HV.out];exact⟨rfl,HB2.out⟩
    ·have Sd:nC x=false:=by simpa using hbad
     have HBAD:=ag Sd;rw[Sd];clear hbad Sd;go_wp2_with fail;refine⟨⟨k+1,by omega,by go_num,HB2,ag ?_⟩,by simp[intOf];omega⟩;rw[dx HX.out,List.any_append,hall.out];simpa using HBAD.out
   ·obtain rfl:k=l.length:=by omega
    have Dj:=hall.out;rw[List.take_length] at Dj;have HA:=ag Dj;clear hall Dj;obtain⟨w1,rfl⟩:∃w1,w1=wr:=⟨_,rfl⟩;go_wp2_with fail;go_loopw [5,6] (fun nv i w'=>∃k:Nat,k<=l.length/\i= .int .i64 (k:Int)/\nv= .int .i64 (total (l.take k))/\total (l.take k)<=1048576/\Hid (Below w.heap.size w w')) (fun nv i _=>((l.length:Int) - intOf i).toNat)
    case atStart=>exact⟨0,by omega,rfl,rfl,by simp[total],HB⟩
    case round=>
     obtain⟨k,hk,rfl,rfl,htot,HB⟩:=hrel;by_cases hlt:k<l.length
     ·obtain⟨x,hx⟩:=bW hlt;obtain⟨b1,o1,rfl,hs1,hc1⟩:=fI.at qi (Rd.below H.out HB.out) hx;have x0:=hc1 0 _ rfl;have x1:=hc1 1 _ rfl;have x2:=hc1 2 _ rfl;simp only[Nat.add_zero] at x0;have hbx:nC x=false:=by
       have:=List.any_eq_false.1 HA.out x (bA hx);simpa using this
      have hng:0<=x.n:=by unfold nC at hbx;simp at hbx;omega
      have hp0:=BA hbx;have hp1:=Nu x;have ht0:0<=total (l.take k):=oJ (by
       refine List.any_eq_false.2 fun y hy=>?_
       exact List.any_eq_false.1 HA.out y (List.mem_of_mem_take hy))
      have hsn:total (l.take (k+1))=total (l.take k)+qA x:=by rw[dx hx,mO]
      have hle:total (l.take (k+1))<=total l:=by
       have h1:=wC (l.take (k+1)) (l.drop (k+1));rw[List.take_append_drop] at h1;have:0<=total (l.drop (k+1)):=oJ (by
        refine List.any_eq_false.2 fun y hy=>?_
        exact List.any_eq_false.1 HA.out y (List.mem_of_mem_drop hy))
       omega
      have Xe:=ag hle;have HX:=ag hx;clear hc1 hs1 hx hbx hle;go_wp2_with fail;refine(O4 _ x hng).mono ?_;rintro e w2 ⟨rfl,hb2⟩;have HB2:=ag (gH HB.out hb2);clear hb2;have YJ:=ag hsn;clear hsn;generalize hT:total (l.take k)=T at*;generalize hP:qA x=pl at*;obtain⟨m,hm⟩:∃m,m=min pl 1048577:=⟨_,rfl⟩;rw[<-hm];have hm0:0<=m:=by omega
      have hm1:m<=1048577:=by omega
      have HM:=ag hm;clear hT hP hm;by_cases hgt:T+m>1048576
      ·go_wp2_with fail
       go_ret2
       have hv:eG l=(0,3):=by unfold eG;rw[if_neg hb,if_neg (by rw[HA.out];decide),if_pos (by have:=Xe.out;have:=YJ.out;have:=HM.out;omega)]
       rw[hv];exact⟨rfl,HB2.out⟩
      ·go_wp2_with fail;exact⟨⟨k+1,by omega,by go_num,by rw[YJ.out,show m=pl from by have:=HM.out;omega],by have:=YJ.out;have:=HM.out;omega,HB2⟩,by simp[intOf];omega⟩
     ·obtain rfl:k=l.length:=by omega
      go_wp2_with fail
      go_ret2
      rw[List.take_length] at htot⊢;refine⟨?_,HB.out⟩;have hv:eG l=(total l,0):=by unfold eG;rw[if_neg hb,if_neg (by rw[HA.out];decide),if_neg (by omega)]
      rw[hv];rfl
end
section
variable {w w':World} {base b N:Nat} {mm:MM}
theorem iO.mono {M:Nat} (h:iO w base b mm N) (hN:N<=M):iO w base b mm M:=by
 obtain⟨own,xs,mv,tv,ev,h1,h2⟩:=h;exact⟨own,xs,mv,tv,ev,h1,h2.mono hN⟩
structure CU (w:World) (base:Nat) (v:Value) (ls:List SX) (ao:Option Addr) (cap:Nat) (evs:List Ev):Prop where
 row:w.ownsRow base 81 2 v ls.length (ls.flatMap encS)
 each:∀s∈ls,w.ownsRow base 2 1 s.v s.out.length (s.out.flatMap encI)
 evs:w.ownsRow base 127 4 (.slice ao evs.length cap) evs.length (evs.flatMap mF)
theorem CU.seen {base:Nat} {v:Value} {ls:List SX} {ao:Option Addr} {cap:Nat} {evs:List Ev} (h:CU w base v ls ao cap evs):Dy w v ls:=⟨Rd.iV h.row,fun s hs=>Rd.iV (h.each s hs)⟩
theorem CU.keep {w':World} {base:Nat} {v:Value} {ls:List SX} {ao:Option Addr} {cap:Nat} {evs:List Ev} (h:CU w base v ls ao cap evs) (hk:∀g,base<=g->g<w.heap.size->w'.heap[g]? =w.heap[g]?):CU w' base v ls ao cap evs:=
 ⟨aP h.row fun g hg hl=>hk g (cK h.row hg).1 hl,fun s hs=>aP (h.each s hs) fun g hg hl=>hk g (cK (h.each s hs) hg).1 hl,aP h.evs fun g hg hl=>hk g (cK h.evs hg).1 hl⟩
theorem CU.none {base:Nat}:CU w base (.slice none 0 0) [] none 0 []:=⟨World.ownsRow_nil _ _ _ _,fun s hs=>absurd hs (by simp),World.ownsRow_nil _ _ _ _⟩
end
section
variable {w w':World} {base b N:Nat} {mm:MM}
structure ZN where
 seen:List (List Int×Int)
 evs:List Ev
 steps:Int
 code:Int
structure GH (w:World) (v:ZN) (ao:Option Addr) (ac:Nat) (ls:List SX) (eo:Option Addr) (ec:Nat):Prop where
 seen:Dy w (.slice ao ls.length ac) ls
 same:ls.map (fun s=>(s.out,s.fin))=v.seen
 evs:fI mF w 4 (.slice eo v.evs.length ec) v.evs
theorem GH.below {v:ZN} {ao eo:Option Addr} {ac ec:Nat} {ls:List SX} (h:GH w v ao ac ls eo ec) (hb:Below w.heap.size w w'):GH w' v ao ac ls eo ec:=⟨h.seen.below hb,h.same,Rd.below h.evs hb⟩
end
def Ch (x:Ev):List Value:=[.int .i64 x.th,.int .u8 x.k,.int .i64 x.a,.int .i64 x.b]
def Gn (a:bV) (dv:Value):List Value:=[.int .i64 a.th,.int .u8 a.kind,.int .i64 a.uU,.int .i64 a.fin,.int .i64 a.clock,.int .i64 a.place,.bool a.writer,dv]
def RD (w:World) (base g:Nat) (dv:Value) (a:bV):Prop:=
 w.heap[g]? =some (.cells (Gn a dv).toArray 76 (0,0))/\base<=g/\w.ownsRow base 127 4 dv a.done.length (a.done.flatMap Ch)
end Go.Proofs.YtopdcjimpdalpaaGreat

import Derived.Test.YtopdcjimpdalpaaGreatR37
import Derived.Deep.RegionHeld3
namespace Go.Proofs.YtopdcjimpdalpaaGreat
open Go.RowKit
set_option linter.all false
set_option maxHeartbeats 8000000
set_option maxRecDepth 100000
section
variable {w w':World} {base b:Nat} {own own':Nat->Nat} {mm:MM} {xs:List RX} {mv tv ev:Value} {tb cap n N:Nat} {x:RX}
theorem EB (h:iI w base b own mm xs mv (.slice (some ⟨tb,0,none⟩) xs.length cap) ev) (hx:xs[n]? =some x) (o:bR) (hw:x.th.wait.length<=64):
  Calls Tryz.prog 38 #[.pointer (some ⟨tb,n*13,none⟩),.agg (b_ o).toArray] w fun r w'=>r= .returned (.bool (x.th.waits o))/\Below w.heap.size w w':=by
 obtain⟨kind,bD,ra,rb,rc,num⟩:=o;have hb0:Below w.heap.size w (w.alloc (.cells #[.int .u8 kind,.int .u8 bD,.int .u8 ra,.int .u8 rb,.int .u8 rc,.int .i64 num] 107)):=(au _ _).alloc (aB _) _;have h0:=h.below hb0;obtain⟨wo,wc,hwv⟩:=(h.th n x hx).wait.shape;have c10:(w.alloc (.cells #[.int .u8 kind,.int .u8 bD,.int .u8 ra,.int .u8 rb,.int .u8 rc,.int .i64 num] 107)).cell? ⟨tb,n*13+10,none⟩=some (.slice wo x.th.wait.length wc):=by rw[<-hwv];exact h0.cell hx 10 _ rfl
 have gQ:=aj w (.cells #[.int .u8 kind,.int .u8 bD,.int .u8 ra,.int .u8 rb,.int .u8 rc,.int .i64 num] 107);have d0:(w.alloc (.cells #[.int .u8 kind,.int .u8 bD,.int .u8 ra,.int .u8 rb,.int .u8 rc,.int .i64 num] 107)).cell? ⟨w.heap.size,0,none⟩=some (.int .u8 kind):=af gQ rfl;have HB:=ag hb0;clear h h0 hx gQ hb0 hwv;unfold b_;by_cases k5:kind=5
 ·subst k5;by_cases h64:64<=x.th.wait.length
  ·have hv:x.th.waits ⟨5,bD,ra,rb,rc,num⟩=true:=by unfold MT.waits;rw[if_pos rfl];simpa using h64
   rw[hv];have agC:(x.th.wait.length:Int)>=64:=by omega
   clear hv;go_in;go_wp2_with fail;go_ret;exact⟨rfl,HB.out⟩
  ·have hv:x.th.waits ⟨5,bD,ra,rb,rc,num⟩=false:=by unfold MT.waits;rw[if_pos rfl];simpa using h64
   rw[hv];have agC:¬(x.th.wait.length:Int)>=64:=by omega
   clear hv;go_in;go_wp2_with fail;go_ret;exact⟨rfl,HB.out⟩
 ·by_cases k8:kind=8\/kind=9\/kind=10
  ·by_cases h1:0<x.th.wait.length
   ·have hv:x.th.waits ⟨kind,bD,ra,rb,rc,num⟩=true:=by unfold MT.waits;rw[if_neg k5,if_pos k8];simpa using h1
    rw[hv];have h1':(x.th.wait.length:Int)>0:=by omega
    clear hv k5;rcases k8 with rfl|rfl|rfl;all_goals (
     go_in;go_wp2_with fail;go_ret;exact⟨rfl,HB.out⟩)
   ·have hv:x.th.waits ⟨kind,bD,ra,rb,rc,num⟩=false:=by unfold MT.waits;rw[if_neg k5,if_pos k8];simpa using h1
    rw[hv];have h1':¬(x.th.wait.length:Int)>0:=by omega
    clear hv k5;rcases k8 with rfl|rfl|rfl;all_goals (
     go_in;go_wp2_with fail;go_ret;exact⟨rfl,HB.out⟩)
  ·have hv:x.th.waits ⟨kind,bD,ra,rb,rc,num⟩=false:=by unfold MT.waits;rw[if_neg k5,if_neg k8]
   rw[hv];have q5:(kind==5)=false:=by rw[cz];omega
   have q8:(kind==8)=false:=by rw[cz];omega
   have q9:(kind==9)=false:=by rw[cz];omega
   have XA:(kind==10)=false:=by rw[cz];omega
   clear hv k5 k8;go_in;go_wp2_with fail;go_ret;exact⟨rfl,HB.out⟩
end
section
variable {w w':World} {base b:Nat} {own own':Nat->Nat} {mm:MM} {xs:List RX} {mv tv ev:Value} {tb cap n N:Nat} {x:RX}
theorem N8 (h:iI w base b own mm xs mv tv ev) {z:Int} (hz:z<0\/(xs.length:Int)<=z):
  Calls Tryz.prog 16 #[.pointer (some ⟨b,0,none⟩),.int .i64 z] w fun r w'=>r= .returned (.bool false)/\w'=w:=by
 obtain⟨ao,cp,rfl⟩:=aS h.aT;have c1:=h.iN 1 _ rfl;clear h;by_cases h0:z<0
 ·clear hz;go_in;go_wp2_with fail;go_ret;exact⟨rfl,rfl⟩
 ·have h1:z>=(xs.length:Int):=by omega
  clear hz;go_in;go_wp2_with fail;go_ret;exact⟨rfl,rfl⟩
theorem RY (h:iI w base b own mm xs mv (.slice (some ⟨tb,0,none⟩) xs.length cap) ev) (hx:xs[n]? =some x) (h4:xs.length<=4) (hf:x.th.fin≠0):
  Calls Tryz.prog 16 #[.pointer (some ⟨b,0,none⟩),.int .i64 (n:Int)] w fun r w'=>r= .returned (.bool false)/\w'=w:=by
 have hn:n<xs.length:=(bu.1 hx).1;have c1:=h.iN 1 _ rfl;have c12:=h.cell hx 12 _ rfl;have hne:(x.th.fin==0)=false:=by rw[cz];exact hf
 have hne2:(x.th.fin !=0)=true:=by rw[bne,hne];rfl
 clear h hx hf;go_in;go_wp2_with fail;go_ret;exact⟨rfl,rfl⟩
theorem P6 (h:iI w base b own mm xs mv (.slice (some ⟨tb,0,none⟩) xs.length cap) ev) (hx:xs[n]? =some x) (h4:xs.length<=4) (hf:x.th.fin=0) (hev:mm.evs.length<2000000000) (hat:0<=x.th.at_) (agE:(x.th.code.length:Int)<=x.th.at_):
  Calls Tryz.prog 16 #[.pointer (some ⟨b,0,none⟩),.int .i64 (n:Int)] w fun r w'=>r= .returned (.bool true)/\dJ w base b own (mm.stop n x.th 8) w':=by
 have hn:n<xs.length:=(bu.1 hx).1;have c1:=h.iN 1 _ rfl;have c12:=h.cell hx 12 _ rfl;rw[hf] at c12;have c9:=h.cell hx 9 _ rfl;obtain⟨co,cc,hcv⟩:=((h.th n x hx).code).shape;have c0:w.cell? ⟨tb,n*13,none⟩=some (.slice co x.th.code.length cc):=by rw[<-hcv];exact h.cell hx 0 _ rfl
 have hx1:¬x.th.at_<0:=by omega
 have hx2:x.th.at_>=(x.th.code.length:Int):=by omega
 have H:=ag h;have HX:=ag hx;have HE:=ag hev;clear h hx hf hcv hat agE hev;go_in;go_wp2_with fail;go_quiet (fail)
 go_wp2_with fail;refine(wM (H.out.drewN _) HX.out HE.out h4 8 (by omega)).mono ?_;rintro r w1 ⟨rfl,hg⟩;have HG:=ag hg;clear hg;go_wp2_with fail;go_ret;exact⟨rfl,dJ.after (below_drewN (au _ _) _) HG.out (fun k hk=>H.out.fresh k hk)⟩
theorem UM (h:iI w base b own mm xs mv tv ev) (hx:xs[n]? =some x) {a:Nat} {o:bR} (ho:x.th.code[a]? =some o):
  ∃cb cf cc,x.cv= .slice (some ⟨cb,cf,none⟩) x.th.code.length cc/\∀(j:Nat) u,(b_ o)[j]? =some u->w.cell? ⟨cb,cf+a*6+j,none⟩=some u:=by
 have hc:=(h.th n x hx).code;obtain⟨co,cc,hcv⟩:=hc.shape;rw[hcv] at hc;obtain⟨cb,cf,e,_,hcc⟩:=dH.at dX hc ho;subst e;exact⟨cb,cf,cc,hcv,hcc⟩
theorem O5 (h:iI w base b own mm xs mv (.slice (some ⟨tb,0,none⟩) xs.length cap) ev) (hx:xs[n]? =some x) (hk:qz N mm) (hN:N<1000000000) {o:bR} (ho:xU o) {av:Int}
  (hA:(o.kind=4\/o.kind=15\/o.kind=5\/o.kind=8\/o.kind=9)->mm.has av=true) (hW:o.kind=5->x.th.wait.length<64):
  Calls Tryz.prog 39 #[.pointer (some ⟨b,0,none⟩),.int .i64 (n:Int),.pointer (some ⟨tb,n*13,none⟩),.agg (b_ o).toArray,.int .i64 av] w fun r w'=>r= .returned (.tuple #[])/\dJ w base b own (mm.act n x.th o av) w':=by
 have h4:xs.length<=4:=by rw[<-uy h];exact hk.four
 have ht:=hk.th x.th (bC (h.Bg hx));have hev:mm.evs.length<2000000000:=by have:=hk.evs;omega
 have hm:=hk.mem;obtain⟨kind,bD,ra,rb,rc,num⟩:=o;obtain⟨ra,rfl⟩:∃q:Nat,ra=q:=⟨ra.toNat,by have:=ho.ra;simp only at this;omega⟩;obtain⟨rb,rfl⟩:∃q:Nat,rb=q:=⟨rb.toNat,by have:=ho.rb;simp only at this;omega⟩;obtain⟨rc,rfl⟩:∃q:Nat,rc=q:=⟨rc.toNat,by have:=ho.rc;simp only at this;omega⟩;have hra:ra<8:=by have:=ho.ra;simp only at this;omega
 have hrb:rb<8:=by have:=ho.rb;simp only at this;omega
 have hrc:rc<8:=by have:=ho.rc;simp only at this;omega
 have hkd:=ho.kind;have hj:=ho.jump;have hno:=ho.note;have htr:=ho.trap;simp only at hkd hj hno htr hA hW;have hok:∀c∈x.th.wait,0<=c.1/\c.1<262144:=fun c hc=>by have:=ht.wait c hc;omega
 have hhas:mm.has av=true->∃a:Nat,av=(a:Int)/\a<mm.mem.length:=fun hq=>by
  have:=oq.1 hq;exact⟨av.toNat,by omega,by omega⟩
 rcases(by omega:kind=1\/kind=2\/kind=3\/kind=4\/kind=5\/kind=6\/kind=7\/kind=8\/kind=9\/kind=10\/kind=11\/kind=12\/kind=13\/kind=14\/kind=15) with rfl|rfl|rfl|rfl|rfl|rfl|rfl|rfl|rfl|rfl|rfl|rfl|rfl|rfl|rfl
 ·exact XE ⟨h,hx,hra,hrb,hrc,ht.at_⟩ av
 ·exact VW ⟨h,hx,hra,hrb,hrc,ht.at_⟩ av
 ·exact T9 ⟨h,hx,hra,hrb,hrc,ht.at_⟩ av hev h4
 ·obtain⟨a,rfl,ha⟩:=hhas (hA (by simp));exact U9 ⟨h,hx,hra,hrb,hrc,ht.at_⟩ ha ht.full hok
 ·have hq:=oq.1 (hA (by simp));exact Rv ⟨h,hx,hra,hrb,hrc,ht.at_⟩ av (hW rfl) (by omega)
 ·exact SH ⟨h,hx,hra,hrb,hrc,ht.at_⟩ av (hj (by simp))
 ·exact Wo ⟨h,hx,hra,hrb,hrc,ht.at_⟩ av (hj (by simp))
 ·obtain⟨a,rfl,ha⟩:=hhas (hA (by simp));exact Xn ⟨h,hx,hra,hrb,hrc,ht.at_⟩ ha
 ·obtain⟨a,rfl,ha⟩:=hhas (hA (by simp));exact Uv ⟨h,hx,hra,hrb,hrc,ht.at_⟩ ha
 ·exact Rh ⟨h,hx,hra,hrb,hrc,ht.at_⟩ av
 ·exact YV ⟨h,hx,hra,hrb,hrc,ht.at_⟩ av (by have:=ht.out;omega) hev
 ·exact Uh ⟨h,hx,hra,hrb,hrc,ht.at_⟩ av (hno rfl) hev
 ·exact TG ⟨h,hx,hra,hrb,hrc,ht.at_⟩ av (htr rfl) hev h4
 ·exact VH ⟨h,hx,hra,hrb,hrc,ht.at_⟩ av hev h4
 ·obtain⟨a,rfl,ha⟩:=hhas (hA (by simp));exact VG ⟨h,hx,hra,hrb,hrc,ht.at_⟩ ha ht.full hok hev
theorem VA (h:iI w base b own mm xs mv (.slice (some ⟨tb,0,none⟩) xs.length cap) ev) (hx:xs[n]? =some x) (hk:qz N mm) (hN:N<1000000000) (hf:x.th.fin=0) {a:Nat} {o:bR} (hat:x.th.at_=(a:Int)) (ho:x.th.code[a]? =some o):
  Calls Tryz.prog 16 #[.pointer (some ⟨b,0,none⟩),.int .i64 (n:Int)] w fun r w'=>r= .returned (.bool (mm.go n x.th).1)/\dJ w base b own (mm.go n x.th).2 w':=by
 have hn:n<xs.length:=(bu.1 hx).1;have h4:xs.length<=4:=by rw[<-uy h];exact hk.four
 have ht:=hk.th x.th (bC (h.Bg hx));have MI:=ht.ops o (bC ho);have hal:a<x.th.code.length:=(bu.1 ho).1;have c1:=h.iN 1 _ rfl;have c12:=h.cell hx 12 _ rfl;rw[hf] at c12;have c9:w.cell? ⟨tb,n*13+9,none⟩=some (.int .i64 (a:Int)):=by rw[<-hat];exact h.cell hx 9 _ rfl
 obtain⟨cb,cf,cc,hcv,hcc⟩:=UM h hx ho;have c0:w.cell? ⟨tb,n*13,none⟩=some (.slice (some ⟨cb,cf,none⟩) x.th.code.length cc):=by rw[<-hcv];exact h.cell hx 0 _ rfl
 have o0:w.cell? ⟨cb,cf+a*6,none⟩=some (.int .u8 o.kind):=hcc 0 _ rfl;have o1:w.cell? ⟨cb,cf+a*6+1,none⟩=some (.int .u8 o.bD):=hcc 1 _ rfl;have o2:w.cell? ⟨cb,cf+a*6+2,none⟩=some (.int .u8 o.a):=hcc 2 _ rfl;have o3:w.cell? ⟨cb,cf+a*6+3,none⟩=some (.int .u8 o.b):=hcc 3 _ rfl;have o4:w.cell? ⟨cb,cf+a*6+4,none⟩=some (.int .u8 o.c):=hcc 4 _ rfl;have o5:w.cell? ⟨cb,cf+a*6+5,none⟩=some (.int .i64 o.n):=hcc 5 _ rfl;have hx1:¬(a:Int)<0:=by omega
 have hx2:¬(a:Int)>=(x.th.code.length:Int):=by omega
 have H:=ag h;have HX:=ag hx;have HK:=ag hk;have HT:=ag ht;have WZ:=ag MI;have HAT:=ag hat;have HO:=ag ho;clear h hx hf hcv hcc hk ht MI hat ho;go_in;go_wp2_with fail;go_quiet (fail)
 go_wp2_with fail;have hA:=aj (w.drewN (nq+1)) (.cells #[.int .u8 0,.int .u8 0,.int .u8 0,.int .u8 0,.int .u8 0,.int .i64 0] 107);have WT:Below w.heap.size w ((w.drewN (nq+1)).alloc (.cells #[.int .u8 0,.int .u8 0,.int .u8 0,.int .u8 0,.int .u8 0,.int .i64 0] 107)):=(below_drewN (au _ _) _).alloc (aB _) _;have za0:((w.drewN (nq+1)).alloc (.cells #[.int .u8 0,.int .u8 0,.int .u8 0,.int .u8 0,.int .u8 0,.int .i64 0] 107)).cell? ⟨w.heap.size,0,none⟩=some (.int .u8 0):=af hA rfl;have za1:((w.drewN (nq+1)).alloc (.cells #[.int .u8 0,.int .u8 0,.int .u8 0,.int .u8 0,.int .u8 0,.int .i64 0] 107)).cell? ⟨w.heap.size,1,none⟩=some (.int .u8 0):=af hA rfl;have za2:((w.drewN (nq+1)).alloc (.cells #[.int .u8 0,.int .u8 0,.int .u8 0,.int .u8 0,.int .u8 0,.int .i64 0] 107)).cell? ⟨w.heap.size,2,none⟩=some (.int .u8 0):=af hA rfl;have za3:((w.drewN (nq+1)).alloc (.cells #[.int .u8 0,.int .u8 0,.int .u8 0,.int .u8 0,.int .u8 0,.int .i64 0] 107)).cell? ⟨w.heap.size,3,none⟩=some (.int .u8 0):=af hA rfl;have za4:((w.drewN (nq+1)).alloc (.cells #[.int .u8 0,.int .u8 0,.int .u8 0,.int .u8 0,.int .u8 0,.int .i64 0] 107)).cell? ⟨w.heap.size,4,none⟩=some (.int .u8 0):=af hA rfl;have za5:((w.drewN (nq+1)).alloc (.cells #[.int .u8 0,.int .u8 0,.int .u8 0,.int .u8 0,.int .u8 0,.int .i64 0] 107)).cell? ⟨w.heap.size,5,none⟩=some (.int .i64 0):=af hA rfl;have zf:∀j,((w.drewN (nq+1)).alloc (.cells #[.int .u8 0,.int .u8 0,.int .u8 0,.int .u8 0,.int .u8 0,.int .i64 0] 107)).frozen? ⟨w.heap.size,j,none⟩=false:=fun j=>ah hA
 have y0:=cell_later WT c0;have y9:=cell_later WT c9;have y10:=cell_later WT o0;have y11:=cell_later WT o1;have y12:=cell_later WT o2;have y13:=cell_later WT o3;have y14:=cell_later WT o4;have y15:=cell_later WT o5;have HA:=ag hA;have vD:=ag WT;clear hA WT;go_region;have hbx:=ai (o:=5) (.int .i64 o.n) (ai (o:=4) (.int .u8 o.c) (ai (o:=3) (.int .u8 o.b) (ai (o:=2) (.int .u8 o.a) (ai (o:=1) (.int .u8 o.bD) (ai (o:=0) (.int .u8 o.kind) HA.out)))));have hb1:Below w.heap.size w ((((((((w.drewN (nq+1)).alloc (.cells #[.int .u8 0,.int .u8 0,.int .u8 0,.int .u8 0,.int .u8 0,.int .i64 0] 107)).setCell ⟨w.heap.size,0,none⟩ (.int .u8 o.kind)).setCell ⟨w.heap.size,1,none⟩ (.int .u8 o.bD)).setCell ⟨w.heap.size,2,none⟩ (.int .u8 o.a)).setCell ⟨w.heap.size,3,none⟩ (.int .u8 o.b)).setCell ⟨w.heap.size,4,none⟩ (.int .u8 o.c)).setCell ⟨w.heap.size,5,none⟩ (.int .i64 o.n)):=(((((vD.out.setCell (aB _) _).setCell (aB _) _).setCell (aB _) _).setCell (aB _) _).setCell (aB _) _).setCell (aB _) _;have vP:Hid (((((((((w.drewN (nq+1)).alloc (.cells #[.int .u8 0,.int .u8 0,.int .u8 0,.int .u8 0,.int .u8 0,.int .i64 0] 107)).setCell ⟨w.heap.size,0,none⟩ (.int .u8 o.kind)).setCell ⟨w.heap.size,1,none⟩ (.int .u8 o.bD)).setCell ⟨w.heap.size,2,none⟩ (.int .u8 o.a)).setCell ⟨w.heap.size,3,none⟩ (.int .u8 o.b)).setCell ⟨w.heap.size,4,none⟩ (.int .u8 o.c)).setCell ⟨w.heap.size,5,none⟩ (.int .i64 o.n)).heap[w.heap.size]? =some (.cells (b_ o).toArray 107 (0,0))):=ag hbx;have HB1:=ag hb1;clear hbx hb1 za0 za1 za2 za3 za4 za5 zf y0 y9 y10 y11 y12 y13 y14 y15 HA vD;generalize((((((((w.drewN (nq+1)).alloc (.cells #[.int .u8 0,.int .u8 0,.int .u8 0,.int .u8 0,.int .u8 0,.int .i64 0] 107)).setCell ⟨w.heap.size,0,none⟩ (.int .u8 o.kind)).setCell ⟨w.heap.size,1,none⟩ (.int .u8 o.bD)).setCell ⟨w.heap.size,2,none⟩ (.int .u8 o.a)).setCell ⟨w.heap.size,3,none⟩ (.int .u8 o.b)).setCell ⟨w.heap.size,4,none⟩ (.int .u8 o.c)).setCell ⟨w.heap.size,5,none⟩ (.int .i64 o.n))=w1 at vP HB1⊢;have p0:w1.cell? ⟨w.heap.size,0,none⟩=some (.int .u8 o.kind):=af vP.out rfl;have p1:w1.cell? ⟨w.heap.size,1,none⟩=some (.int .u8 o.bD):=af vP.out rfl;have p2:w1.cell? ⟨w.heap.size,2,none⟩=some (.int .u8 o.a):=af vP.out rfl;have p3:w1.cell? ⟨w.heap.size,3,none⟩=some (.int .u8 o.b):=af vP.out rfl;have p4:w1.cell? ⟨w.heap.size,4,none⟩=some (.int .u8 o.c):=af vP.out rfl;have p5:w1.cell? ⟨w.heap.size,5,none⟩=some (.int .i64 o.n):=af vP.out rfl;have Bc:=ag (show mm.go n x.th=(match x.th.word o with
  |none=>if x.th.waits o=true then(false,mm) else(true,mm.act n x.th o 0)
  |some a=>if mm.has a=true then(if x.th.waits o=true then(false,mm) else(true,mm.act n x.th o a)) else(true,mm.stop n x.th 8)) from by
  unfold MM.go;rw[HAT.out,if_neg (by omega),Int.toNat_natCast,HO.out];rfl)
 go_wp2_with fail;refine(RS (H.out.below HB1.out) HX.out o WZ.out).mono ?_;rintro r w2 ⟨rfl,hb⟩;have HB2:=ag (fe HB1.out hb);have ZP:=cell_later hb p0;have VZ:=cell_later hb p1;have Zu:=cell_later hb p2;have Vq:=cell_later hb p3;have Vn:=cell_later hb p4;have p25:=cell_later hb p5;clear hb p0 p1 p2 p3 p4 p5 c0 c9 c12 o0 o1 o2 o3 o4 o5 hx1 hx2;cases hwd:x.th.word o with
 |none=>
  have HWD:=ag hwd;rw[hwd] at Bc;clear hwd;go_wp2_with fail;refine(EB (H.out.below HB2.out) HX.out o HT.out.full).mono ?_;rintro r w3 ⟨rfl,hb⟩;have HB3:=ag (fe HB2.out hb);have p30:=cell_later hb ZP;have p31:=cell_later hb VZ;have p32:=cell_later hb Zu;have p33:=cell_later hb Vq;have p34:=cell_later hb Vn;have p35:=cell_later hb p25;clear hb ZP VZ Zu Vq Vn p25;cases hwt:x.th.waits o with
  |true=>
   have Je:=ag hwt;clear hwt;go_wp2_with fail;go_ret;rw[Bc.out];simp only[Je.out,if_true];exact⟨(by first|rfl|trivial),dJ.same H.out HB3.out⟩
  |false=>
   have Je:=ag hwt;clear hwt;go_wp2_with fail;refine(O5 (H.out.below HB3.out) HX.out HK.out hN WZ.out (av:=0) (fun hq=>by
    exfalso;have:=HWD.out;unfold MT.word at this;rcases hq with e|e|e|e|e
    ·rw[if_pos (.inl e)] at this;cases this
    ·rw[if_pos (.inr e)] at this;cases this
    ·rw[if_neg (by omega),if_pos (.inl e)] at this;cases this
    ·rw[if_neg (by omega),if_pos (.inr (.inl e))] at this;cases this
    ·rw[if_neg (by omega),if_pos (.inr (.inr e))] at this;cases this) (fun h5=>by
    have:=Je.out;unfold MT.waits at this;rw[if_pos h5] at this;simpa using this)).mono ?_
   rintro r w4 ⟨rfl,hg⟩;have HG:=ag hg;clear hg;go_wp2_with fail;go_ret;rw[Bc.out];simp only[Je.out,Bool.false_eq_true,if_false];exact⟨(by first|rfl|trivial),dJ.after HB3.out HG.out (fun k hk=>H.out.fresh k hk)⟩
 |some av=>
  have HWD:=ag hwd;rw[hwd] at Bc;clear hwd;go_wp2_with fail;refine(Ni (H.out.below HB2.out) av HK.out.mem.2).mono ?_;rintro r w9 ⟨rfl,hw⟩;obtain rfl:=hw.symm;cases hh:mm.has av with
  |false=>
   have HH:=ag hh;clear hh;go_wp2_with fail;refine(wM (H.out.below HB2.out) HX.out (by have:=HK.out.evs;omega) h4 8 (by omega)).mono ?_;rintro r w4 ⟨rfl,hg⟩;have HG:=ag hg;clear hg;go_wp2_with fail;go_ret;rw[Bc.out];simp only[HH.out,Bool.false_eq_true,if_false];exact⟨(by first|rfl|trivial),dJ.after HB2.out HG.out (fun k hk=>H.out.fresh k hk)⟩
  |true=>
   have HH:=ag hh;clear hh;go_wp2_with fail;refine(EB (H.out.below HB2.out) HX.out o HT.out.full).mono ?_;rintro r w3 ⟨rfl,hb⟩;have HB3:=ag (fe HB2.out hb);have p30:=cell_later hb ZP;have p31:=cell_later hb VZ;have p32:=cell_later hb Zu;have p33:=cell_later hb Vq;have p34:=cell_later hb Vn;have p35:=cell_later hb p25;clear hb ZP VZ Zu Vq Vn p25;cases hwt:x.th.waits o with
   |true=>
    have Je:=ag hwt;clear hwt;go_wp2_with fail;go_ret;rw[Bc.out];simp only[Je.out,HH.out,if_true,if_true];exact⟨(by first|rfl|trivial),dJ.same H.out HB3.out⟩
   |false=>
    have Je:=ag hwt;clear hwt;go_wp2_with fail;refine(O5 (H.out.below HB3.out) HX.out HK.out hN WZ.out (av:=av) (fun _=>HH.out) (fun h5=>by
     have:=Je.out;unfold MT.waits at this;rw[if_pos h5] at this;simpa using this)).mono ?_
    rintro r w4 ⟨rfl,hg⟩;have HG:=ag hg;clear hg;go_wp2_with fail;go_ret;rw[Bc.out];simp only[Je.out,HH.out,if_true,Bool.false_eq_true,if_false];exact⟨(by first|rfl|trivial),dJ.after HB3.out HG.out (fun k hk=>H.out.fresh k hk)⟩
theorem Qp (h:iI w base b own mm xs mv tv ev) (hk:qz N mm) (hN:N<1000000000) (z:Int):
  Calls Tryz.prog 16 #[.pointer (some ⟨b,0,none⟩),.int .i64 z] w fun r w'=>r= .returned (.bool (mm.step z).1)/\dJ w base b own (mm.step z).2 w':=by
 by_cases hz:0<=z/\z<(xs.length:Int)
 ·obtain⟨n,rfl⟩:∃n:Nat,z=(n:Int):=⟨z.toNat,by omega⟩;obtain⟨x,hx⟩:=bE (show n<xs.length by omega);obtain⟨tb,cap,rfl, -⟩:=h.yw hx;have h4:xs.length<=4:=by rw[<-uy h];exact hk.four
  have ht:=hk.th x.th (bC (h.Bg hx));by_cases hf:x.th.fin=0
  ·have hs:mm.step (n:Int)=mm.go n x.th:=by
    unfold MM.step;rw[xI h hx];simp only[hf,ne_eq,not_true_eq_false,if_false,Int.toNat_natCast]
   rw[hs];by_cases hl:x.th.at_<(x.th.code.length:Int)
   ·obtain⟨a,ha⟩:∃a:Nat,x.th.at_=(a:Int):=⟨x.th.at_.toNat,by have:=ht.at_;omega⟩;obtain⟨o,ho⟩:=bE (show a<x.th.code.length by omega);exact VA h hx hk hN hf ha ho
   ·refine(P6 h hx h4 hf (by have:=hk.evs;omega) ht.at_.1 (by omega)).mono ?_;rintro r w' ⟨rfl,hg⟩;have he:mm.go n x.th=(true,mm.stop n x.th 8):=by
     unfold MM.go;have h1:=ht.at_.1;rw[if_neg (by omega),List.getElem?_eq_none (by omega)]
    rw[he];exact⟨rfl,hg⟩
  ·refine(RY h hx h4 hf).mono ?_;rintro r w' ⟨rfl,rfl⟩;unfold MM.step;rw[xI h hx];simp only[ne_eq,hf,not_false_eq_true,if_true];exact⟨(by first|rfl|trivial),dJ.same h (au _ _)⟩
 ·refine(N8 h (by omega)).mono ?_;rintro r w' ⟨rfl,rfl⟩;unfold MM.step;rw[Gq h (by omega)];exact⟨(by first|rfl|trivial),dJ.same h (au _ _)⟩
end
section
variable {w w':World} {base b:Nat} {own own':Nat->Nat} {mm:MM} {xs:List RX} {mv tv ev:Value}
def KI (x:RX):SX:=⟨x.ov,x.th.out,x.th.fin⟩
theorem XW:(Tryz.prog.info? 81).map (fun i=>(i.zero,i.size,i.bytes))=some (some (.agg #[.slice none 0 0,.int .u8 0]),2,32):=by kernel_rfl
theorem aae {ao:Option Addr} {n c:Nat} {f:Int}:∀u∈[Value.slice ao n c,Value.int .u8 f],u.oneCell'=true:=by
 intro u hu;simp at hu;rcases hu with rfl|rfl<;>rfl
def Zx (base:Nat) (mm:MM) (w:World) (r:Ending) (w':World):Prop:=
 ∃(v:Value) (ls:List SX),r= .returned v/\w'.ownsRow w.heap.size 81 2 v ls.length (ls.flatMap encS)/\(∀s∈ls,w'.ownsRow base 2 1 s.v s.out.length (s.out.flatMap encI))/\ls.map (fun s=>(s.out,s.fin))=mm.aT.map (fun t=>(t.out,t.fin))/\Below w.heap.size w w'
theorem P5 (h:iI w base b own mm xs mv tv ev) (h4:xs.length<=4):
  Calls Tryz.prog 74 #[.pointer (some ⟨b,0,none⟩)] w (Zx base mm w):=by
 obtain⟨DU,tc,rfl⟩:=aS h.aT;have H:=ag h;obtain⟨i0,hi,hz0,hz1,hz2⟩:=info_parts XW;have c1:=h.iN 1 _ rfl;clear h;go_in;go_wp2_with fail;go_loopw [3,4] (fun v i wr=>∃(k:Nat) (va:Value),va=v/\k<=xs.length/\i= .int .i64 (k:Int)/\Hid (wr.ownsRow w.heap.size 81 2 va k (((xs.take k).map KI).flatMap encS))/\Hid (Below w.heap.size w wr)) (fun v i _=>((xs.length:Int) - intOf i).toNat)
 case atStart=>exact⟨0,_,rfl,by omega,rfl,ag (World.ownsRow_nil _ _ _ _),ag (au _ _)⟩
 case round=>
  obtain⟨k,va,hva,hk,rfl,A7,HW⟩:=hrel;subst hva;have d1:wr.cell? ⟨b,1,none⟩=some (.slice DU xs.length tc):=(H.out.below HW.out).iN 1 _ rfl;by_cases hlt:k<xs.length
  ·obtain⟨x,hx⟩:=bE hlt;obtain⟨tb,cap,e1, -⟩:=H.out.yw hx;cases e1;have e11:=(H.out.below HW.out).cell hx 11 _ rfl;have e12:=(H.out.below HW.out).cell hx 12 _ rfl;obtain⟨oo,oc,hov⟩:=aS (H.out.th k x hx).out;rw[hov] at e11;have HX:=ag hx;have UZ:=ag hov;have hlb:b<w.heap.size:=H.out.lt;have hlt':tb<w.heap.size:=(bO H.out.aT rfl).2;clear hov hx;go_wp2_with fail
   go_region_law (first|(refine ji (by rfl) (.tmp 14) (.tmp 32) 64 (by rfl) w.heap.size 81 i0 _ 2 32 Tryz.underlying64 hi hz0 hz1 hz2 rfl (by decide) va k (((xs.take k).map KI).flatMap encS) (by simp[Act.eval]) (by exact aX A7.out (((bz.refl (fun _=>False) wr).alloc _).drew) (fun _ _=>id)) ⟨wr.heap.size,0,none⟩ 1 1 (by decide) [.slice oo x.th.out.length oc,.int .u8 x.th.fin] (by simp[Act.eval]) rfl (by exact iP (aj wr _)) aae (by unfold maxLen;omega) (by omega) (by have:=HW.out.size;show w.heap.size<=(wr.alloc _).heap.size;rw[World.size_alloc];omega) ?_;intro ao cp w2 h1 h2 h3;have hg0:bz (fun k=>va.ownBlock=some k) wr w2:=bz.grown (S:=fun k=>va.ownBlock=some k) (((bz.refl _ wr).alloc _).drew) h3 (fun k hk=>.inl hk);have I7:=ag hg0;have HR:=ag h1;clear h1 h2 h3 hg0))
   all_goals go_wp2_with fail
   all_goals (
    refine⟨⟨k+1,_,rfl,by omega,by go_num,ag ?_,ag (bz.below HW.out HW.out.size I7.out (fun k hk=>(bO A7.out hk).1))⟩,by simp[intOf];omega⟩;have e:((xs.take (k+1)).map KI).flatMap encS=((xs.take k).map KI).flatMap encS++[.slice oo x.th.out.length oc,.int .u8 x.th.fin]:=by
     rw[bU HX.out,List.map_append,List.flatMap_append];congr 1
     show [x.ov,Value.int .u8 x.th.fin]=_;rw[UZ.out]
    rw[e];exact HR.out)
  ·obtain rfl:k=xs.length:=by omega
   go_wp2_with fail;go_ret;have hrow:=A7.out;rw[List.take_length] at hrow;refine⟨_,xs.map KI,rfl,?_,fun s hs=>?_,?_,HW.out⟩
   ·rw[List.length_map];exact hrow
   ·obtain⟨x,hx,rfl⟩:=List.mem_map.1 hs;obtain⟨i,hi⟩:=List.getElem?_of_mem hx;exact aP (H.out.th i x hi).out fun g _ hl=>HW.out.block g hl
   ·rw[H.out.same,List.map_map,List.map_map];try rfl
end
section
variable {w w':World} {base b N:Nat} {mm:MM}
def nk (w:World) (base b:Nat) (mm:MM) (N:Nat):Prop:=∃own xs mv tv ev,iI w base b own mm xs mv tv ev/\qz N mm
theorem nk.below (h:nk w base b mm N) (hb:Below w.heap.size w w'):nk w' base b mm N:=by
 obtain⟨own,xs,mv,tv,ev,h1,h2⟩:=h;exact⟨own,xs,mv,tv,ev,h1.below hb,h2⟩
theorem nk.fQ (h:nk w base b mm N):base<=w.heap.size:=by
 obtain⟨own,xs,mv,tv,ev,h1,h2⟩:=h;exact h1.fQ
theorem nk.more (h:nk w base b mm N):nk w base b mm (N+1):=by
 obtain⟨own,xs,mv,tv,ev,h1,h2⟩:=h;exact⟨own,xs,mv,tv,ev,h1,h2.mono (by omega)⟩
theorem dJ.live {own:Nat->Nat} {xs:List RX} {mv tv ev:Value} {j5:MM} (h:iI w base b own mm xs mv tv ev) (hg:dJ w base b own j5 w') (hk:qz N j5):nk w' base b j5 N/\Below base w w':=by
 obtain⟨⟨own',xs',mv',tv',ev',h', -⟩,hc⟩:=hg;exact⟨⟨own',xs',mv',tv',ev',h',hk⟩,hc.iL h.fQ h.low⟩
theorem Yc (h:nk w base b mm N):
  Calls Tryz.prog 74 #[.pointer (some ⟨b,0,none⟩)] w (Zx base mm w):=by
 obtain⟨own,xs,mv,tv,ev,h1,h2⟩:=h;exact P5 h1 (by rw[<-uy h1];exact h2.four)
theorem nk.events (h:nk w base b mm N):∃ao cap,w.cell? ⟨b,2,none⟩=some (.slice ao mm.evs.length cap)/\w.ownsRow base 127 4 (.slice ao mm.evs.length cap) mm.evs.length (mm.evs.flatMap mV):=by
 obtain⟨own,xs,mv,tv,ev,h1,h2⟩:=h;obtain⟨ao,cap,rfl⟩:=aS h1.evs;exact⟨ao,cap,h1.iN 2 _ rfl,h1.evs⟩
theorem nk.of {own:Nat->Nat} {xs:List RX} {mv tv ev:Value} (h:iI w base b own mm xs mv tv ev) (hk:qz N mm):nk w base b mm N:=⟨own,xs,mv,tv,ev,h,hk⟩
def qJ (w:World) (base b:Nat) (mm:MM) (N:Nat) (P:List Nat):Prop:=∃own xs mv tv ev,iI w base b own mm xs mv tv ev/\qz N mm/\∀k∈P,own k=0/\k<w.heap.size
theorem qJ.live {P:List Nat} (h:qJ w base b mm N P):nk w base b mm N:=by
 obtain⟨own,xs,mv,tv,ev,h1,h2, -⟩:=h;exact⟨own,xs,mv,tv,ev,h1,h2⟩
theorem qJ.zO (h:nk w base b mm N):qJ w base b mm N []:=by
 obtain⟨own,xs,mv,tv,ev,h1,h2⟩:=h;exact⟨own,xs,mv,tv,ev,h1,h2,fun k hk=>absurd hk (by simp)⟩
theorem qJ.below {P:List Nat} (h:qJ w base b mm N P) (hb:Below w.heap.size w w'):qJ w' base b mm N P:=by
 obtain⟨own,xs,mv,tv,ev,h1,h2,h3⟩:=h;exact⟨own,xs,mv,tv,ev,h1.below hb,h2,fun k hk=>⟨(h3 k hk).1,Nat.lt_of_lt_of_le (h3 k hk).2 hb.size⟩⟩
theorem qJ.add {P:List Nat} (h:qJ w base b mm N P) (o:Obj):qJ (w.alloc o) base b mm N (w.heap.size::P):=by
 obtain⟨own,xs,mv,tv,ev,h1,h2,h3⟩:=h;refine⟨own,xs,mv,tv,ev,h1.below ((au _ _).alloc (aB _) _),h2,fun k hk=>?_⟩;rcases List.mem_cons.1 hk with rfl|hk
 ·exact⟨h1.fresh _ (aB _),by simp⟩
 ·have:=h3 k hk;exact⟨this.1,by simp;omega⟩
theorem dJ.off {own:Nat->Nat} {xs:List RX} {mv tv ev:Value} {j5:MM} {P:List Nat} (h:iI w base b own mm xs mv tv ev) (h3:∀k∈P,own k=0/\k<w.heap.size) (hg:dJ w base b own j5 w') (hk:qz N j5):
  qJ w' base b j5 N P/\Below base w w'/\∀k∈P,w'.heap[k]? =w.heap[k]?:=by
 obtain⟨⟨own',xs',mv',tv',ev',h',ho⟩,hc⟩:=hg;exact⟨⟨own',xs',mv',tv',ev',h',hk,fun k hk'=>⟨by rw[ho k (h3 k hk').2];exact(h3 k hk').1,Nat.lt_of_lt_of_le (h3 k hk').2 hc.size⟩⟩,hc.iL h.fQ h.low,fun k hk'=>hc.block k (h3 k hk').2 (fun e=>e (h3 k hk').1)⟩
theorem OH {P:List Nat} (h:qJ w base b mm N P) (hN:N<1000000000) (z:Int):
  Calls Tryz.prog 16 #[.pointer (some ⟨b,0,none⟩),.int .i64 z] w fun r w'=>r= .returned (.bool (mm.step z).1)/\qJ w' base b (mm.step z).2 (N+1) P/\Below base w w'/\∀k∈P,w'.heap[k]? =w.heap[k]?:=by
 obtain⟨own,xs,mv,tv,ev,h1,h2,h3⟩:=h;refine(Qp h1 h2 hN z).mono ?_;rintro r w' ⟨rfl,hg⟩;exact⟨rfl,dJ.off h1 h3 hg (h2.step z)⟩
theorem Dp {P:List Nat} (h:qJ w base b mm N P) (z:Int):
  Calls Tryz.prog 17 #[.pointer (some ⟨b,0,none⟩),.int .i64 z] w fun r w'=>r= .returned (.bool (mm.flush z).1)/\qJ w' base b (mm.flush z).2 N P/\Below base w w'/\∀k∈P,w'.heap[k]? =w.heap[k]?:=by
 obtain⟨own,xs,mv,tv,ev,h1,h2,h3⟩:=h;refine(LZ h1 h2 z).mono ?_;rintro r w' ⟨rfl,hg⟩;exact⟨rfl,dJ.off h1 h3 hg (h2.flush z)⟩
end
theorem QM (w:World) (k:Int) (h:¬(1<=k/\k<=15)):Calls Tryz.prog 109 #[.int .u8 k] w fun e w'=>e= .returned (.tuple #[.agg #[.bool false,.int .i64 0,.bool false],.bool false])/\Below w.heap.size w w':=by
 have k1:(k==1)=false:=by simp;omega
 have k2:(k==2)=false:=by simp;omega
 have k3:(k==3)=false:=by simp;omega
 have k4:(k==4)=false:=by simp;omega
 have k5:(k==5)=false:=by simp;omega
 have k6:(k==6)=false:=by simp;omega
 have k7:(k==7)=false:=by simp;omega
 have k8:(k==8)=false:=by simp;omega
 have k9:(k==9)=false:=by simp;omega
 have k10:(k==10)=false:=by simp;omega
 have k11:(k==11)=false:=by simp;omega
 have k12:(k==12)=false:=by simp;omega
 have k13:(k==13)=false:=by simp;omega
 have k14:(k==14)=false:=by simp;omega
 have k15:(k==15)=false:=by simp;omega
 clear h;go_in;go_wp2_with fail;refine bodyPost_ret (v:=.tuple #[.agg #[.bool false,.int .i64 0,.bool false],.bool false]) (by simp[results,Tryz.results109,go_sem]) rfl ⟨rfl,?_⟩;first|exact au _ _|exact(au _ _).alloc (aB _) _|exact((au _ _).alloc (aB _) _).alloc (by simp) _
theorem PE (w:World) {k:Int} (h:k=1\/k=2\/k=3):Calls Tryz.prog 109 #[.int .u8 k] w fun e w'=>e= .returned (mG (eZ k))/\Below w.heap.size w w':=by
 rcases h with rfl|rfl|rfl<;>(
  go_in;go_wp2_with fail;refine bodyPost_ret (by simp[results,Tryz.results109,go_sem];rfl) rfl ⟨by simp[eZ,fm,mG,vM,vK];done,?_⟩;first|exact au _ _|exact(au _ _).alloc (aB _) _|exact((au _ _).alloc (aB _) _).alloc (by simp) _)
theorem RO (w:World) {k:Int} (h:k=4\/k=5\/k=6):Calls Tryz.prog 109 #[.int .u8 k] w fun e w'=>e= .returned (mG (eZ k))/\Below w.heap.size w w':=by
 rcases h with rfl|rfl|rfl<;>(
  go_in;go_wp2_with fail;refine bodyPost_ret (by simp[results,Tryz.results109,go_sem];rfl) rfl ⟨by simp[eZ,fm,mG,vM,vK];done,?_⟩;first|exact au _ _|exact(au _ _).alloc (aB _) _|exact((au _ _).alloc (aB _) _).alloc (by simp) _)
theorem QW (w:World) {k:Int} (h:k=7\/k=8\/k=9):Calls Tryz.prog 109 #[.int .u8 k] w fun e w'=>e= .returned (mG (eZ k))/\Below w.heap.size w w':=by
 rcases h with rfl|rfl|rfl<;>(
  go_in;go_wp2_with fail;refine bodyPost_ret (by simp[results,Tryz.results109,go_sem];rfl) rfl ⟨by simp[eZ,fm,mG,vM,vK];done,?_⟩;first|exact au _ _|exact(au _ _).alloc (aB _) _|exact((au _ _).alloc (aB _) _).alloc (by simp) _)
theorem Rj (w:World) {k:Int} (h:k=10\/k=11\/k=12):Calls Tryz.prog 109 #[.int .u8 k] w fun e w'=>e= .returned (mG (eZ k))/\Below w.heap.size w w':=by
 rcases h with rfl|rfl|rfl<;>(
  go_in;go_wp2_with fail;refine bodyPost_ret (by simp[results,Tryz.results109,go_sem];rfl) rfl ⟨by simp[eZ,fm,mG,vM,vK];done,?_⟩;first|exact au _ _|exact(au _ _).alloc (aB _) _|exact((au _ _).alloc (aB _) _).alloc (by simp) _)
theorem R6 (w:World) {k:Int} (h:k=13\/k=14\/k=15):Calls Tryz.prog 109 #[.int .u8 k] w fun e w'=>e= .returned (mG (eZ k))/\Below w.heap.size w w':=by
 rcases h with rfl|rfl|rfl<;>(
  go_in;go_wp2_with fail;refine bodyPost_ret (by simp[results,Tryz.results109,go_sem];rfl) rfl ⟨by simp[eZ,fm,mG,vM,vK];done,?_⟩;first|exact au _ _|exact(au _ _).alloc (aB _) _|exact((au _ _).alloc (aB _) _).alloc (by simp) _)
theorem Oo (w:World) (k:Int):Calls Tryz.prog 109 #[.int .u8 k] w fun e w'=>e= .returned (mG (eZ k))/\Below w.heap.size w w':=by
 by_cases hk:1<=k/\k<=15
 ·rcases(by omega:k<=3\/4<=k/\k<=6\/7<=k/\k<=9\/10<=k/\k<=12\/13<=k) with h|h|h|h|h
  ·exact PE w (by omega)
  ·exact RO w (by omega)
  ·exact QW w (by omega)
  ·exact Rj w (by omega)
  ·exact R6 w (by omega)
 ·have hn:eZ k=none:=by
   cases h:eZ k with
   |none=>rfl
   |some f=>exact absurd (by have:=kinds (k:=k) (by rw[h];simp);omega) hk
  rw[hn];exact QM w k hk
theorem Er (w:World) (k n:Int):Calls Tryz.prog 110 #[.int .u8 k,.int .i64 n] w fun e w'=>e= .returned (.bool (Db k n))/\Below w.heap.size w w':=by
 by_cases k6:k=6
 ·subst k6;rcases(by omega:n<0\/n>262144\/(0<=n/\n<=262144)) with h|h|⟨h,h'⟩<;>(
   go_in;go_wp2_with fail;go_ret;exact⟨by simp[Db];try omega,au _ _⟩)
 by_cases k7:k=7
 ·subst k7;rcases(by omega:n<0\/n>262144\/(0<=n/\n<=262144)) with h|h|⟨h,h'⟩<;>(
   go_in;go_wp2_with fail;go_ret;exact⟨by simp[Db];try omega,au _ _⟩)
 by_cases k12:k=12
 ·subst k12;rcases(by omega:n<1\/n>8\/(1<=n/\n<=8)) with h|h|⟨h,h'⟩<;>(
   go_in;go_wp2_with fail;go_ret;exact⟨by simp[Db];try omega,au _ _⟩)
 by_cases k13:k=13
 ·subst k13;rcases(by omega:n<2\/n>8\/(2<=n/\n<=8)) with h|h|⟨h,h'⟩<;>(
   go_in;go_wp2_with fail;go_ret;exact⟨by simp[Db];try omega,au _ _⟩)
 have b6:(k==6)=false:=by simp[k6]
 have b7:(k==7)=false:=by simp[k7]
 have b12:(k==12)=false:=by simp[k12]
 have b13:(k==13)=false:=by simp[k13]
 go_in;go_wp2_with fail;go_ret;exact⟨by simp[Db,k6,k7,k12,k13],au _ _⟩
theorem Mf (w:World) (o:bR) (hw:Fj o):Calls Tryz.prog 70 #[.agg (b_ o).toArray] w fun e w'=>e= .returned (sj (dR o))/\Below w.heap.size w w':=by
 obtain⟨kind,bD,a,b,c,n⟩:=o;obtain⟨-,⟨hc0, -⟩,⟨ha0, -⟩,⟨hb0, -⟩,⟨aay, -⟩,hn0,hn1⟩:=hw;simp only at hc0 ha0 hb0 aay hn0 hn1;unfold b_;go_in;go_wp2_with fail;refine(Oo _ _).mono ?_;rintro e w1 ⟨rfl,hb1⟩;have hblk:=blk hb1 (aj w _);have y (i:Nat) (u:Value) (h:(#[Value.int .u8 kind,.int .u8 bD,.int .u8 a,.int .u8 b,.int .u8 c,.int .i64 n])[i]? =some u):∀x,(w1.alloc x).cell? ⟨w.heap.size,i,none⟩=some u:=fun x=>af (aZ hblk) h
 have z (i:Nat) (u:Value) (h:(#[Value.int .u8 kind,.int .u8 bD,.int .u8 a,.int .u8 b,.int .u8 c,.int .i64 n])[i]? =some u):∀x y,((w1.alloc x).alloc y).cell? ⟨w.heap.size,i,none⟩=some u:=fun x y=>af (aZ (aZ hblk)) h
 have y0:=y 0 _ rfl;have z0:=z 0 _ rfl;have y1:=y 1 _ rfl;have z1:=z 1 _ rfl;have y2:=y 2 _ rfl;have z2:=z 2 _ rfl;have y3:=y 3 _ rfl;have z3:=z 3 _ rfl;have y4:=y 4 _ rfl;have z4:=z 4 _ rfl;have y5:=y 5 _ rfl;have z5:=z 5 _ rfl;have HB1:=ag (NU (au _ _) hb1);clear hb1 hblk y z;cases hf:eZ kind with
 |none=>
  unfold mG;have HF:=ag hf;clear hf;go_wp2_with fail;go_ret;exact⟨by simp[dR,HF.out,sj],HB1.out.alloc HB1.out.size _⟩
 |some f=>
  have hfr:=Gd hf;obtain⟨fc,fr,fn,fl,fM⟩:=f;have HF:=ag hf;clear hf;simp only at hfr;have HB2:=ag (fun x y:Obj=>(HB1.out.alloc HB1.out.size x).alloc (HB1.out.alloc HB1.out.size x).size y);have f (i:Nat) (u:Value) (h:(#[Value.bool fc,.int .i64 (fr:Int),.bool fn])[i]? =some u):∀y,((w1.alloc (.cells #[.bool fc,.int .i64 fr,.bool fn] 202)).alloc y).cell? ⟨w1.heap.size,i,none⟩=some u:=fun y=>af (aZ (aj _ _)) h
  have f0:=f 0 _ rfl;have f1:=f 1 _ rfl;have f2:=f 2 _ rfl;unfold mG vK;go_wp2_with fail;go_loopw [6] (fun i wr=>wr=(w1.alloc (.cells #[.bool fc,.int .i64 fr,.bool fn] 202)).alloc (.cells #[.int .u8 a,.int .u8 b,.int .u8 c] 5)/\∃j:Nat,j<=3/\i= .int .i64 (j:Int)/\Hid (∀t,t<j->pV fr t (r3 a b c t)=true)) (fun i _=>(3 - intOf i).toNat)
  case atStart=>exact⟨rfl,0,by omega,rfl,fun t ht=>absurd ht (Nat.not_lt_zero t)⟩
  case round=>
   obtain⟨rfl,j,hj,rfl,G⟩:=hrel;by_cases h3:j<3
   ·obtain⟨v,hv⟩:∃v,r3 a b c j=v:=⟨_,rfl⟩;have g3:((w1.alloc (.cells #[.bool fc,.int .i64 fr,.bool fn] 202)).alloc (.cells #[.int .u8 a,.int .u8 b,.int .u8 c] 5)).cell? ⟨w1.heap.size+1,j,none⟩=some (.int .u8 v):=af (iT _ _ _) (by rcases(by omega:j=0\/j=1\/j=2) with rfl|rfl|rfl<;>subst hv<;>rfl);have hw:IntKind.i64.wrap ((j:Int)+1)=j+1:=IntWalk.i64_in _ (by omega);have h3':(j:Int)<3:=by omega
    have hv0:0<=v:=by rw[<-hv];rcases(by omega:j=0\/j=1\/j=2) with rfl|rfl|rfl<;>assumption
    rcases Bo (r:=fr) (j:=j) (v:=v) with⟨ho,hq⟩|⟨ho,hq⟩
    ·have HO:=ag (show ∀t,t<j+1->pV fr t (r3 a b c t)=true from fun t ht=>by
      rcases Nat.lt_succ_iff_lt_or_eq.1 ht with h|rfl
      ·exact G.out t h
      ·rw[hv];exact ho)
     clear ho hv;rcases hq with⟨hl,h8⟩|⟨hl,h8⟩
     ·have e1:(j:Int)<fr:=by omega
      have e2:¬(j:Int)>=fr:=by omega
      have e3:¬v>=8:=by omega
      clear hl h8;go_wp2_with fail;exact⟨⟨trivial,j+1,by omega,by go_num,HO⟩,by simp[intOf];omega⟩
     ·have e1:¬(j:Int)<fr:=by omega
      have e2:(j:Int)>=fr:=by omega
      subst h8;clear hl;go_wp2_with fail;exact⟨⟨trivial,j+1,by omega,by go_num,HO⟩,by simp[intOf];omega⟩
    ·have HN:=ag (K9 (bD:=bD) (n:=n) HF.out h3 (by rw[hv];exact ho));clear ho hv;rcases hq with⟨hl,h8⟩|⟨hl,h8⟩
     ·have e1:(j:Int)<fr:=by omega
      have e3:v>=8:=by omega
      clear hl h8;go_wp2_with fail;go_ret;exact⟨by rw[HN.out];rfl,HB2.out _ _⟩
     ·have e1:¬(j:Int)<fr:=by omega
      have e2:(j:Int)>=fr:=by omega
      have e3:(v !=0)=true:=by simp[h8]
      have e4:(v==0)=false:=by simp[h8]
      clear hl h8;go_wp2_with fail;go_ret;exact⟨by rw[HN.out];rfl,HB2.out _ _⟩
   ·obtain rfl:j=3:=by omega
    clear hj h3;have q3:(fc=true/\1<=bD/\bD<=14\/fc=false/\bD=0)\/(fc=true/\bD<1\/fc=true/\1<=bD/\bD>14\/fc=false/\bD≠0):=by cases fc<;>simp<;>omega
    rcases q3 with q3|q3
    ·have HY:=ag (FQ (n:=n) HF.out (bD:=bD) (by rcases q3 with⟨rfl,h1, -⟩|⟨rfl,rfl⟩<;>simp;omega) (by rcases q3 with⟨-, -,h⟩|⟨-,rfl⟩<;>omega) G.out);have HW:=ag (show fn=true->dR ⟨kind,bD,a,b,c,n⟩=Db kind n from fun hfn=>by rw[HY.out,Z0 HF.out hfn hn0 hn1]);have HW2:=ag (show fn=false->dR ⟨kind,bD,a,b,c,n⟩=decide (n=0) from fun hfn=>by rw[HY.out,hfn];simp[p_]);clear HY G;rcases q3 with⟨rfl,h1,h2⟩|⟨rfl,rfl⟩
     ·have e1:¬bD<1:=by omega
      have e2:¬bD>14:=by omega
      clear h1 h2;cases fn with
      |true=>
       go_wp2_with fail;refine(Er _ _ _).mono ?_;rintro e w2 ⟨rfl,hb2⟩;have HB3:=ag ((HB2.out _ _).trans (hb2.mono (HB2.out _ _).size));clear hb2;cases EY:Db kind n<;>(
        have EQ:=ag ((HW.out (by trivial)).trans EY);clear EY;go_wp2_with fail;go_ret;exact⟨by rw[EQ.out];rfl,HB3.out⟩)
      |false=>
       by_cases h1:n=0
       ·subst h1;go_wp2_with fail;go_ret;exact⟨by rw[HW2.out (by trivial)];rfl,HB2.out _ _⟩
       ·have h2:(n==0)=false:=by simp[h1]
        have h3:(n !=0)=true:=by simp[h1]
        have HZ:=ag (decide_eq_false h1);clear h1;go_wp2_with fail;go_ret;exact⟨by rw[HW2.out (by trivial),HZ.out];rfl,HB2.out _ _⟩
     ·cases fn with
      |true=>
       go_wp2_with fail;refine(Er _ _ _).mono ?_;rintro e w2 ⟨rfl,hb2⟩;have HB3:=ag ((HB2.out _ _).trans (hb2.mono (HB2.out _ _).size));clear hb2;cases EY:Db kind n<;>(
        have EQ:=ag ((HW.out (by trivial)).trans EY);clear EY;go_wp2_with fail;go_ret;exact⟨by rw[EQ.out];rfl,HB3.out⟩)
      |false=>
       by_cases h1:n=0
       ·subst h1;go_wp2_with fail;go_ret;exact⟨by rw[HW2.out (by trivial)];rfl,HB2.out _ _⟩
       ·have h2:(n==0)=false:=by simp[h1]
        have h3:(n !=0)=true:=by simp[h1]
        have HZ:=ag (decide_eq_false h1);clear h1;go_wp2_with fail;go_ret;exact⟨by rw[HW2.out (by trivial),HZ.out];rfl,HB2.out _ _⟩
    ·have HN:=ag (AO (n:=n) (a:=a) (b:=b) (c:=c) (bD:=bD) HF.out (fun q=>by
      have q1:fc=decide (bD≠0):=eq_of_beq q.1;rcases q3 with⟨h,h1⟩|⟨h,h1,h2⟩|⟨h,h1⟩
      ·rw[h] at q1;simp at q1;omega
      ·omega
      ·rw[h] at q1;simp at q1;omega))
     clear G;rcases q3 with⟨rfl,h1⟩|⟨rfl,h1,h2⟩|⟨rfl,h1⟩
     ·go_wp2_with fail;go_ret;exact⟨by rw[HN.out];rfl,HB2.out _ _⟩
     ·have e1:¬bD<1:=by omega
      clear h1;go_wp2_with fail;go_ret;exact⟨by rw[HN.out];rfl,HB2.out _ _⟩
     ·have e1:(bD==0)=false:=by simp[h1]
      have e2:(bD !=0)=true:=by simp[h1]
      clear h1;go_wp2_with fail;go_ret;exact⟨by rw[HN.out];rfl,HB2.out _ _⟩
section
variable {w w':World}
theorem Az {mem:Int}:∀{cs:List (Int×Int)} {last:Int},last<mem->jH mem last cs=true->(cs.length:Int)<=mem - 1 - last
 |[],last,hl,_=>by simp;omega
 |c::r,last,hl,h=>by
  simp only[jH,Bool.and_eq_true,decide_eq_true_eq] at h;have:=Az (cs:=r) h.1.2 h.2;simp only[List.length_cons];omega
theorem Bq {ca oL:Option Addr} {fo h_:Nat} {l:List (Value×List bR)} {cs:List (Int×Int)} (h:mX w (.slice ca l.length fo) l) (hc:dH dQ w 2 (.slice oL cs.length h_) cs) (mem:Int) (hl:l.length<=6000000000000) (hcl:cs.length<=9000000000000) (hol:∀p∈l,p.2.length<=9000000000000):
  Calls Tryz.prog 32 #[.agg #[.slice ca l.length fo,.int .i64 mem,.slice oL cs.length h_]] w fun e w'=>e= .returned (.int .i64 (cB mem l cs))/\Below w.heap.size w w':=by
 have H:=ag h;have HC:=ag hc;have HL:=ag hl;have Cb:=ag hcl;have EW:=ag hol;have hb0:Below w.heap.size w (w.alloc (Obj.cells #[.slice ca l.length fo,.int .i64 mem,.slice oL cs.length h_] 30)):=(au _ _).alloc (aB _) _;have gQ:=aj w (.cells #[.slice ca l.length fo,.int .i64 mem,.slice oL cs.length h_] 30);have H0:=ag (h.below hb0);have CY:=ag (Rd.below hc hb0);have HB:=ag hb0;have d0:(w.alloc (Obj.cells #[.slice ca l.length fo,.int .i64 mem,.slice oL cs.length h_] 30)).cell? ⟨w.heap.size,0,none⟩=some (.slice ca l.length fo):=af gQ rfl;have d1:(w.alloc (Obj.cells #[.slice ca l.length fo,.int .i64 mem,.slice oL cs.length h_] 30)).cell? ⟨w.heap.size,1,none⟩=some (.int .i64 mem):=af gQ rfl;have d2:(w.alloc (Obj.cells #[.slice ca l.length fo,.int .i64 mem,.slice oL cs.length h_] 30)).cell? ⟨w.heap.size,2,none⟩=some (.slice oL cs.length h_):=af gQ rfl;clear h hc hl hcl hb0 gQ hol;by_cases hA1:262144<mem\/4<l.length
 ·have HE:=ag (show cB mem l cs=3 from by unfold cB;rw[if_pos (by omega)]);by_cases a1:mem>262144
  ·clear hA1;go_in;go_wp2_with fail;go_ret;exact⟨by rw[HE.out];rfl,HB.out⟩
  ·have a2:(l.length:Int)>4:=by omega
   clear hA1;go_in;go_wp2_with fail;go_ret;exact⟨by rw[HE.out];rfl,HB.out⟩
 ·have a1:¬mem>262144:=by omega
  have a2:¬(l.length:Int)>4:=by omega
  have h4:l.length<=4:=by omega
  have HA1:=ag hA1;clear hA1;go_in;go_wp2_with fail;generalize(w.alloc (Obj.cells #[.slice ca l.length fo,.int .i64 mem,.slice oL cs.length h_] 30))=w0 at H0 CY HB d0 d1 d2⊢;go_loopw [3,4] (fun c i w'=>∃k:Nat,k<=l.length/\i= .int .i64 (k:Int)/\c= .int .i64 (262144 - (f_ (l.take k):Int))/\f_ (l.take k)<=262144/\w'=w0) (fun c i _=>((l.length:Int) - intOf i).toNat)
  case atStart=>exact⟨0,by omega,rfl,by simp[f_],by simp[f_],rfl⟩
  case round=>
   obtain⟨k,hk,rfl,rfl,hcnt,hw⟩:=hrel;obtain rfl:=hw.symm;by_cases hlt:k<l.length
   ·have hp:=eO hlt;generalize l[k]=p at hp;obtain⟨cb,co,rfl,hcb,hcc⟩:=dH.at uw H0.out.rows hp;have i0:=hcc 0 _ rfl;obtain⟨ao,cap,hcv⟩:=(H0.out.each p (bC hp)).shape;have hst:=D6 hp;rw[Nat.mul_one,Nat.add_zero,hcv] at i0;have hpl:=EW.out p (bC hp);have HST:=ag hst;have HP:=ag hp;clear hst hcc hcv hp;by_cases hbig:262144 - (f_ (l.take k):Int) - (p.2.length:Int)<0
    ·have HE:=ag (show cB mem l cs=3 from by
      have h1:f_ (l.take (k+1))<=f_ l:=by
       unfold f_
       conv=>rhs;rw[<-List.take_append_drop (k+1) l,List.map_append,List.sum_append]
       omega
      have h2:=HST.out;unfold cB;rw[if_pos (by omega)])
     go_wp2_with fail;go_ret;exact⟨by rw[HE.out];rfl,HB.out⟩
    ·have h2:f_ (l.take (k+1))=f_ (l.take k)+p.2.length:=by have:=HST.out;omega
     have HS2:=ag h2;clear h2;go_wp2_with fail;exact⟨⟨k+1,by omega,by go_num,by rw[HS2.out];first|rfl|(congr 1;omega),by have:=HS2.out;omega,by trivial⟩,by simp[intOf];omega⟩
   ·obtain rfl:k=l.length:=by omega
    rw[List.take_length] at hcnt;have ah_:=ag hcnt;have SY:=ag (show ¬(262144<mem\/4<l.length\/262144<f_ l) from by have:=HA1.out;omega);have Tm:=ag (uU (l:=l) hcnt);clear hcnt;by_cases hm:mem<1\/mem<(cs.length:Int)
    ·have HE:=ag (show cB mem l cs=1 from by
      unfold cB;rw[if_neg SY.out];by_cases h1:mem<1
      ·rw[if_pos h1]
      ·rw[if_neg h1];split
       ·rfl
       ·rw[if_pos];rw[<-Bool.not_eq_true];intro hc;have:=Az (by omega) hc;omega)
     by_cases h1:mem<1
     ·clear hm;go_wp2_with fail;go_ret;exact⟨by rw[HE.out];rfl,HB.out⟩
     ·have h2:(cs.length:Int)>mem:=by omega
      clear hm;go_wp2_with fail;go_ret;exact⟨by rw[HE.out];rfl,HB.out⟩
    ·have h1:¬mem<1:=by omega
     have h2:¬(cs.length:Int)>mem:=by omega
     have HM:=ag h1;clear hm;go_wp2_with fail;have hcl:=Cb.out;clear a1 a2 h1 h2;go_loopw [5] (fun i w'=>∃k:Nat,k<=l.length/\i= .int .i64 (k:Int)/\Hid (Below w0.heap.size w0 w'/\∀j (p:Value×List bR),j<k->l[j]? =some p->p.2.all dR=true)) (fun i _=>((l.length:Int) - intOf i).toNat)
     case atStart=>exact⟨0,by omega,rfl,⟨au _ _,fun j p hj=>absurd hj (by omega)⟩⟩
     case round=>
      obtain⟨k,hk,rfl,HR⟩:=hrel;have e0:wr.cell? ⟨w.heap.size,0,none⟩=some (.slice ca l.length fo):=cell_later HR.out.1 d0;by_cases hlt:k<l.length
      ·have hp:=eO hlt;generalize l[k]=p at hp;have hmp:=bC hp;obtain⟨ao,cap,hcv⟩:=(H0.out.each p hmp).shape;have hrow:=H0.out.each p hmp;rw[hcv] at hrow;obtain⟨cb,co,e1,hcb,hcc⟩:=dH.at uw H0.out.rows hp;have i0:=hcc 0 _ rfl;rw[Nat.mul_one,Nat.add_zero,hcv] at i0;subst e1;have HI0:=ag i0;have A7:=ag hrow;have af3:=Tm.out p hmp;have AQ:=ag (H0.out.wf p hmp);have HP:=ag hp;clear hcc hcv hcb hrow hmp hp i0;go_wp2_with fail;go_loopw [6] (fun i w'=>∃m:Nat,m<=p.2.length/\i= .int .i64 (m:Int)/\Hid (Below w0.heap.size w0 w'/\∀o∈p.2.take m,dR o=true)) (fun i _=>((p.2.length:Int) - intOf i).toNat)
       case atStart=>exact⟨0,by omega,rfl,⟨HR.out.1,fun o ho=>by simp at ho⟩⟩
       case round=>
        obtain⟨m,hm,rfl,HS⟩:=hrel;obtain⟨wi,rfl⟩:∃x,x=wr:=⟨_,rfl⟩;have f0:=cell_later HS.out.1 d0;have fi:=cell_later HS.out.1 HI0.out;by_cases hlm:m<p.2.length
        ·obtain⟨o,ho⟩:=bE hlm;obtain⟨ob,oo,e1,hob,hoc⟩:=dH.at dX (Rd.below A7.out HS.out.1) ho;subst e1;have g0:=hoc 0 _ rfl;have g1:=hoc 1 _ rfl;have g2:=hoc 2 _ rfl;have g3:=hoc 3 _ rfl;have g4:=hoc 4 _ rfl;have g5:=hoc 5 _ rfl;simp only[Nat.add_zero] at g0;have WZ:=ag ho;clear hoc hob ho;go_wp2_with fail;refine(Mf _ o (AQ.out o (bC WZ.out))).mono ?_;rintro e w2 ⟨rfl,hb2⟩;have HB2:=ag (fe HS.out.1 hb2);clear hb2;cases hck:dR o with
         |false=>
          have HCK:=ag hck;clear hck;simp only[sj];go_wp2_with fail;go_ret;refine⟨?_,fe HB.out HB2.out⟩;rw[show cB mem l cs=1 from by
           unfold cB;rw[if_neg SY.out,if_neg (show ¬mem<1 from by have:=HM.out;omega),if_pos];rw[List.all_eq_false];exact⟨p,bC HP.out,by
            rw[Bool.not_eq_true,List.all_eq_false];exact⟨o,bC WZ.out,by rw[HCK.out];decide⟩⟩]
          rfl
         |true=>
          have HCK:=ag hck;clear hck;simp only[sj];go_wp2_with fail;refine⟨⟨m+1,by omega,by go_num,⟨HB2.out,fun q hq=>?_⟩⟩,by simp[intOf];omega⟩;rw[bU WZ.out] at hq;rcases List.mem_append.1 hq with hq|hq
          ·exact HS.out.2 q hq
          ·rw[List.mem_singleton.1 hq];exact HCK.out
        ·obtain rfl:m=p.2.length:=by omega
         go_wp2_with fail;refine⟨⟨k+1,by omega,by go_num,⟨HS.out.1,fun j q hj hq=>?_⟩⟩,by simp[intOf];omega⟩;by_cases e:j=k
         ·subst e;rw[HP.out] at hq;cases hq;rw[List.all_eq_true];intro o ho;exact HS.out.2 o (by rw[List.take_length];exact ho)
         ·exact HR.out.2 j q (by omega) hq
      ·obtain rfl:k=l.length:=by omega
       have Eu:=ag (show(l.all fun p=>p.2.all dR)=true from by
        rw[List.all_eq_true];intro p hp;obtain⟨j,hj⟩:=List.getElem?_of_mem hp;exact HR.out.2 j p (bu.1 hj).1 hj)
       have HB1:=ag HR.out.1;have q1:=cell_later HB1.out d1;have q2:=cell_later HB1.out d2;have Ls:=ag (Rd.below CY.out HB1.out);obtain⟨w1,rfl⟩:∃x,x=wr:=⟨_,rfl⟩;clear d0 d1 d2 HR;go_wp2_with fail;go_loopw [7,8] (fun lv i w'=>∃(k:Nat) (la:Int),k<=cs.length/\i= .int .i64 (k:Int)/\lv= .int .i64 la/\Hid (Below w1.heap.size w1 w'/\jH mem (-1) cs=jH mem la (cs.drop k))) (fun lv i _=>((cs.length:Int) - intOf i).toNat)
       case atStart=>exact⟨0, -1,by omega,rfl,rfl,⟨au _ _,by simp⟩⟩
       case round=>
        obtain⟨k,la,hk,rfl,rfl,HR⟩:=hrel;have m1:=cell_later HR.out.1 q1;have m2:=cell_later HR.out.1 q2;by_cases hlt:k<cs.length
        ·have hp:=eO hlt;have hdr:=List.drop_eq_getElem_cons hlt;generalize cs[k]=c at hp hdr;obtain⟨cat,cv⟩:=c;obtain⟨cb,co,e1,hcb,hcc⟩:=dH.at iM (Rd.below Ls.out HR.out.1) hp;have i0:=hcc 0 _ rfl;rw[Nat.add_zero] at i0;have HD:=ag (show jH mem (-1) cs=(decide (la<cat/\cat<mem) && jH mem cat (cs.drop (k+1))) from by rw[HR.out.2,hdr];rfl);have HB2:=ag HR.out.1;subst e1;clear hcc hcb hp hdr HR;by_cases b1:cat<=la
         ·go_wp2_with fail;go_quiet (fail)
          go_wp2_with fail;go_ret;refine⟨?_,below_drewN (fe HB.out (fe HB1.out HB2.out)) _⟩;rw[show cB mem l cs=1 from by
           unfold cB;rw[if_neg SY.out,if_neg (show ¬mem<1 from by have:=HM.out;omega),if_neg (by rw[Eu.out];decide),if_pos];rw[HD.out,decide_eq_false (by omega)];rfl]
          rfl
         ·by_cases b2:cat>=mem
          ·go_wp2_with fail;go_quiet (fail)
           go_wp2_with fail;go_ret;refine⟨?_,below_drewN (fe HB.out (fe HB1.out HB2.out)) _⟩;rw[show cB mem l cs=1 from by
            unfold cB;rw[if_neg SY.out,if_neg (show ¬mem<1 from by have:=HM.out;omega),if_neg (by rw[Eu.out];decide),if_pos];rw[HD.out,decide_eq_false (by omega)];rfl]
           rfl
          ·have b1':la<cat:=by omega
           have b2':cat<mem:=by omega
           have HBB:=ag (And.intro b1' b2');clear b1' b2';go_wp2_with fail;go_quiet (fail)
           go_wp2_with fail;refine⟨⟨k+1,cat,by omega,by go_num,rfl,⟨below_drewN HB2.out _,by rw[HD.out,decide_eq_true HBB.out];rfl⟩⟩,by simp[intOf];omega⟩
        ·obtain rfl:k=cs.length:=by omega
         go_wp2_with fail;go_ret;refine⟨?_,fe HB.out (fe HB1.out HR.out.1)⟩;rw[show cB mem l cs=0 from by
          unfold cB;rw[if_neg SY.out,if_neg (show ¬mem<1 from by have:=HM.out;omega),if_neg (by rw[Eu.out];decide),if_neg];rw[HR.out.2];simp[jH]]
         rfl
end
section
variable {w w':World} {base b:Nat} {own own':Nat->Nat} {mm:MM} {xs:List RX} {mv tv ev:Value}
theorem iI.start {w3:World} {base B mb mn:Nat} (hB:w3.heap[B]? =some (.cells #[.slice (some ⟨mb,0,none⟩) mn mn,.slice none 0 0,.slice none 0 0] 55 (0,0)))
  (hm:w3.heap[mb]? =some (.cells (List.replicate mn (encI 0)).flatten.toArray 2 (0,0))) (hne:mb≠B) (h1:base<=B) (h2:base<=mb) (hmn:mn<=262144):
  iI w3 base B (dS B mb) ⟨List.replicate mn 0,[],[]⟩ [] (.slice (some ⟨mb,0,none⟩) mn mn) (.slice none 0 0) (.slice none 0 0):=by
 have e1:(List.replicate mn (encI 0)).flatten=(List.replicate mn (0:Int)).flatMap encI:=by simp[List.flatMap]
 have e2:((List.replicate mn (0:Int)).flatMap encI).length=mn:=by rw[jD ko];simp
 have hrow:w3.ownsRow base 2 1 (.slice (some ⟨mb,0,none⟩) mn mn) mn ((List.replicate mn (0:Int)).flatMap encI):=by
  refine⟨by rw[e2,Nat.mul_one],.inr ⟨mb,mn,_,rfl,h2,hm,aB _,by unfold maxLen;omega,?_,?_⟩⟩
  ·rw[e1];simp only[List.size_toArray];rw[e2,Nat.mul_one]
  ·rw[e1,List.toList_toArray,List.take_of_length_le (by rw[e2];simp)]
 have hown:dS B mb B=1:=by unfold dS;rw[if_pos rfl]
 have hlen:(List.replicate mn (0:Int)).length=mn:=by simp
 refine⟨hB,⟨h1,hown⟩,by rw[hlen];exact hrow,fun g hg=>?_,World.ownsRow_nil _ _ _ _,(fun g hg=>by cases hg),World.ownsRow_nil _ _ _ _,(fun g hg=>by cases hg),rfl,(fun i x hx=>by simp at hx),fun k hk=>?_,fun k hk=>?_⟩
 ·simp only[Value.ownBlock,bH] at hg;subst hg;unfold dS;rw[if_neg hne,if_pos rfl]
 ·have l1:=lt_of_block hB;have l2:=lt_of_block hm;unfold dS;rw[if_neg (by omega),if_neg (by omega)]
 ·unfold dS at hk;split at hk
  ·omega
  ·split at hk
   ·omega
   ·exact absurd rfl hk
def J4 (code:List bR) (cv:Value):RX:=⟨MT.new code,cv,.slice none 0 0,.slice none 0 0⟩
theorem iI.push (h:iI w base b own mm xs mv tv ev) (hc:bz (fun k=>tv.ownBlock=some k) w w') {code:List bR} {cv tv':Value} (hcode:dH b_ w' 6 cv code) (hcn:∀g,code≠[]->cv.ownBlock=some g->g<base)
  (Wu:w'.ownsRow base 61 13 tv' (xs.length+1) ((xs++[J4 code cv]).flatMap sH)) (htn:∀g,tv'.ownBlock=some g->tv.ownBlock=some g\/w.heap.size<=g):
  iI (w'.setCell ⟨b,1,none⟩ tv') base b (retag own tv' 3 w.heap.size) {mm with aT:=mm.aT++[MT.new code]} (xs++[J4 code cv]) mv tv' ev:=by
 have hbl:=h.lt;have hk:∀g,own g≠3->own g≠1->g<w.heap.size->(w'.setCell ⟨b,1,none⟩ tv').heap[g]? =w.heap[g]?:=fun g h3 h1 hl=>by
  rw[dm _ _ _ _ (fun e=>h1 (by rw[e];exact h.bT.2))];exact hc.block g hl fun e=>h3 (h.fK g e)
 have hb1:=dG hc h.blk (fun hk=>by have h1:=h.fK _ hk;rw[h.bT.2] at h1;exact absurd h1 (by decide));have hset:=ai (o:=1) tv' hb1;have hsz:=hc.size;have hbs:=h.fQ;have ho:∀k,k<w.heap.size->retag own tv' 3 w.heap.size k=own k:=fun k hk=>jk hk
 have hlen:(xs++[J4 code cv]).length=xs.length+1:=by simp
 have htb:∀g,tv'.ownBlock=some g->g≠b:=fun g hg e=>by
  rcases htn g hg with e'|e'
  ·have:=h.fK g e';rw[e,h.bT.2] at this;omega
  ·omega
 refine⟨hset,⟨h.bT.1,by rw[ho _ hbl];exact h.bT.2⟩,aP h.mem fun g hg hl=>hk g (by rw[h.memT g hg];omega) (by rw[h.memT g hg];omega) hl,fun g hg=>by rw[ho _ (bO h.mem hg).2];exact h.memT g hg,
  by rw[hlen];exact aP Wu fun g hg _=>dm _ _ _ _ (htb g hg),fun g hg=>qO htn h.fK hg,
  aP h.evs fun g hg hl=>hk g (by rw[h.j6 g hg];omega) (by rw[h.j6 g hg];omega) hl,fun g hg=>by rw[ho _ (bO h.evs hg).2];exact h.j6 g hg,
  by simp[h.same,J4],fun i x hx=>?_,fun k hk'=>by rw[bL] at hk';exact nV (fun g hg=>(bO Wu hg).2) (h.fresh k (by omega)) hk',fun k=>wW hbs h.low⟩
 rcases Nat.lt_or_ge i xs.length with hi|hi
 ·rw[List.getElem?_append_left hi] at hx;exact(h.th i x hx).keep ho fun g hg hl=>by
   rcases hg with e|e|e
   ·exact hk g (by rw[h.zero e];decide) (by rw[h.zero e];decide) hl
   ·exact hk g (by omega) (by omega) hl
   ·exact hk g (by omega) (by omega) hl
 ·have hi':i=xs.length:=by have:=(bu.1 hx).1;rw[hlen] at this;omega
  subst hi';simp at hx;subst hx;exact⟨hcode.zN fun g hn hg _=>dm _ _ _ _ (fun e=>by have h1:=hcn g hn hg;have h2:=h.bT.1;simp only at e;omega),hcn,fu.nil _ _ _ _,(fun g hg=>by cases hg),World.ownsRow_nil _ _ _ _,fun g hg=>by cases hg⟩
theorem Y0 {ca oL:Option Addr} {fo h_:Nat} {l:List (Value×List bR)} {cs:List (Int×Int)} (h:mX w (.slice ca l.length fo) l) (hc:dH dQ w 2 (.slice oL cs.length h_) cs) (mem:Int) (hl:l.length<=6000000000000) (hcl:cs.length<=9000000000000) (hol:∀p∈l,p.2.length<=9000000000000) (hk:cB mem l cs≠0):
  Calls Tryz.prog 14 #[.agg #[.slice ca l.length fo,.int .i64 mem,.slice oL cs.length h_]] w fun e w'=>e= .returned (.tuple #[.pointer none,.int .i64 (cB mem l cs)])/\Below w.heap.size w w':=by
 have hb0:Below w.heap.size w (w.alloc (.cells #[.slice ca l.length fo,.int .i64 mem,.slice oL cs.length h_] 30)):=(au _ _).alloc (aB _) _;have H0:=ag (h.below hb0);have CY:=ag (Rd.below hc hb0);have HB:=ag hb0;have HL:=ag hl;have Cb:=ag hcl;have EW:=ag hol;have hne:(cB mem l cs==0)=false:=by simpa using hk
 clear h hc hl hcl hb0 hk hol;go_in;go_wp2_with fail;refine(Bq H0.out CY.out mem HL.out Cb.out EW.out).mono ?_;rintro e w1 ⟨rfl,hb1⟩;have HB1:=ag (fe HB.out hb1);clear hb1;go_wp2_with fail
 go_ret2
 exact⟨rfl,HB1.out⟩
theorem X7:(Tryz.prog.info? 61).map (fun i=>(i.zero,i.size,i.bytes))=some (some (.agg #[.slice none 0 0,.int .i64 0,.int .i64 0,.int .i64 0,.int .i64 0,.int .i64 0,.int .i64 0,.int .i64 0,.int .i64 0,.int .i64 0,.slice none 0 0,.slice none 0 0,.int .u8 0]),13,152):=by kernel_rfl
theorem S_ (code:List bR) (ao:Option Addr) (n cp:Nat):∀u∈sH (J4 code (.slice ao n cp)),u.oneCell'=true:=by
 intro u hu;simp[sH,J4,MT.new] at hu;rcases hu with rfl|rfl|rfl|rfl<;>rfl
def UX (mem:Int) (l:List (Value×List bR)) (cs:List (Int×Int)) (w:World) (e:Ending) (w':World):Prop:=
 ∃b own xs mv tv ev,e= .returned (.tuple #[.pointer (some ⟨b,0,none⟩),.int .i64 0])/\iI w' w.heap.size b own (gF mem (l.map (·.2)) cs) xs mv tv ev/\Below w.heap.size w w'
def VX (l:List (Value×List bR)) (xs:List RX):Prop:=∀x∈xs,∃p∈l,x.cv=p.1/\x.th.code=p.2
def Qv (mem:Int) (l:List (Value×List bR)) (cs:List (Int×Int)) (w:World) (e:Ending) (w':World):Prop:=
 ∃b own xs mv tv ev,e= .returned (.tuple #[.pointer (some ⟨b,0,none⟩),.int .i64 0])/\iI w' w.heap.size b own (gF mem (l.map (·.2)) cs) xs mv tv ev/\VX l xs/\Below w.heap.size w w'
theorem Qx {ca oL:Option Addr} {fo h_:Nat} {l:List (Value×List bR)} {cs:List (Int×Int)} (h:mX w (.slice ca l.length fo) l) (hc:dH dQ w 2 (.slice oL cs.length h_) cs) (mem:Int) (hl:l.length<=6000000000000) (hcl:cs.length<=9000000000000) (hol:∀p∈l,p.2.length<=9000000000000) (hk:cB mem l cs=0):
  Calls Tryz.prog 14 #[.agg #[.slice ca l.length fo,.int .i64 mem,.slice oL cs.length h_]] w (Qv mem l cs w):=by
 have hb0:Below w.heap.size w (w.alloc (.cells #[.slice ca l.length fo,.int .i64 mem,.slice oL cs.length h_] 30)):=(au _ _).alloc (aB _) _;have gQ:=aj w (.cells #[.slice ca l.length fo,.int .i64 mem,.slice oL cs.length h_] 30);have H0:=ag (h.below hb0);have CY:=ag (Rd.below hc hb0);have HB:=ag hb0;have HC:=ag hc;have H:=ag h;have HL:=ag hl;have Cb:=ag hcl;have EW:=ag hol;have HE:=ag hk;have vP:=ag gQ;clear h hc hl hcl hb0 hk gQ hol;go_in;go_wp2_with fail;refine(Bq H0.out CY.out mem HL.out Cb.out EW.out).mono ?_;rintro e w1 ⟨rfl,hb1⟩;rw[HE.out];have Dg:=(hb1.block w.heap.size (by simp)).trans vP.out;have d0:w1.cell? ⟨w.heap.size,0,none⟩=some (.slice ca l.length fo):=af Dg rfl;have d1:w1.cell? ⟨w.heap.size,1,none⟩=some (.int .i64 mem):=af Dg rfl;have d2:w1.cell? ⟨w.heap.size,2,none⟩=some (.slice oL cs.length h_):=af Dg rfl;have HB1:=ag (HB.out.trans (hb1.mono HB.out.size));have hw1:w.heap.size+1<=w1.heap.size:=lt_of_block Dg;have ac3:=ag Dg;clear hb1 Dg HB H0 CY vP;have hmem:=u_ HE.out;have hlc:=qK HE.out;obtain⟨mn,rfl⟩:=Int.eq_ofNat_of_zero_le (show 0<=mem by omega);have zP:=ag hmem;have HLC:=ag hlc;have hcs:cs.length<=262144:=by
  have h1:=Az (by omega) (qF HE.out).2;omega
 obtain⟨i0,hi,hz0,hz1,hz2⟩:=info_parts Dm;clear hmem hlc;go_wp2_with (at_make;refine nA _ rfl _ _ 51 rfl 2 i0 _ 1 (encI 0) Tryz.underlying51 hi hz0 hz1 rfl rfl (by decide) _ _ _ _ mn mn rfl rfl rfl rfl ?b0 ?b1 ?b2 ?_)
 case b0=>exact aB _
 case b1=>have:=zP.out;rw[hz2];omega
 case b2=>have:=zP.out;unfold maxLen;omega
 intro w2 hblk hsz2 hb2;have hB3:=heap_alloc_new w2 (.cells #[.slice (some ⟨w1.heap.size,0,none⟩) mn mn,.slice none 0 0,.slice none 0 0] 55);have yB:=(heap_alloc_old w2 (.cells #[.slice (some ⟨w1.heap.size,0,none⟩) mn mn,.slice none 0 0,.slice none 0 0] 55) (show w1.heap.size<w2.heap.size by omega)).trans hblk;have hb3:Below w1.heap.size w1 (w2.alloc (.cells #[.slice (some ⟨w1.heap.size,0,none⟩) mn mn,.slice none 0 0,.slice none 0 0] 55)):=hb2.alloc hb2.size _;have ZX:=ag (iI.start (base:=w.heap.size) hB3 yB (by omega) (by have:=HB1.out.size;omega) HB1.out.size (by have:=zP.out;omega));have HB3:=ag (HB1.out.trans (hb3.mono HB1.out.size));have Xb:=ag (blk hb3 ac3.out);have UT:=ag hsz2;clear hblk hsz2 hb2 hB3 yB hb3 hi hz0 hz1 hz2 d0 d1 d2 HB1 ac3;have q2':=af (o:=2) Xb.out rfl;go_wp2_with fail;generalize(w2.alloc (.cells #[.slice (some ⟨w1.heap.size,0,none⟩) mn mn,.slice none 0 0,.slice none 0 0] 55))=w3 at ZX HB3 Xb q2'⊢;clear q2';have Ub:=ag (show ¬w.heap.size=w1.heap.size from by omega);have Lt:=ag (show iI w3 w.heap.size w2.heap.size (dS w2.heap.size w1.heap.size) ⟨iW (cs.take 0) (List.replicate mn 0),[],[]⟩ [] (.slice (some ⟨w1.heap.size,0,none⟩) (iW (cs.take 0) (List.replicate mn 0)).length mn) (.slice none 0 0) (.slice none 0 0) from by
  have e:(iW (cs.take 0) (List.replicate mn 0)).length=mn:=by rw[rR];simp
  rw[e];exact ZX.out)
 clear ZX;go_loopw [6] (fun i w'=>∃k:Nat,k<=cs.length/\i= .int .i64 (k:Int)/\Hid (iI w' w.heap.size w2.heap.size (dS w2.heap.size w1.heap.size) ⟨iW (cs.take k) (List.replicate mn 0),[],[]⟩ [] (.slice (some ⟨w1.heap.size,0,none⟩) (iW (cs.take k) (List.replicate mn 0)).length mn) (.slice none 0 0) (.slice none 0 0)/\bz (fun k=>k=w1.heap.size) w3 w')) (fun i _=>((cs.length:Int) - intOf i).toNat)
 case atStart=>exact⟨0,by omega,rfl,⟨Lt.out,bz.refl _ _⟩⟩
 case round=>
  obtain⟨k,hk,rfl,HR⟩:=hrel;have hlen:(iW (cs.take k) (List.replicate mn 0)).length=mn:=by rw[rR];simp
  have Zb:=dG HR.out.2 Xb.out (fun e=>Ub.out e);have r2:wr.cell? ⟨w.heap.size,2,none⟩=some (.slice oL cs.length h_):=af Zb rfl;have r0:wr.cell? ⟨w.heap.size,0,none⟩=some (.slice ca l.length fo):=af Zb rfl;have hwr:Below w.heap.size w wr:=bz.below HB3.out HB3.out.size HR.out.2 (fun k e=>by rw[e];omega);have uK:=ag hwr;have HXR:=ag Zb;clear Zb hwr;by_cases hlt:k<cs.length
  ·have hp:=eO hlt;generalize cs[k]=c at hp;have hst:=F3 hp (List.replicate mn 0);have hcb:=Dh (by omega) (qF HE.out).2 c (bC hp);obtain⟨can,cv⟩:=c;obtain⟨an,rfl⟩:=Int.eq_ofNat_of_zero_le hcb.1;obtain⟨gb,co,e1,hgb,hcc⟩:=dH.at iM (Rd.below HC.out uK.out) hp;have Hw:=hcc 0 _ rfl;have LF:=hcc 1 _ rfl;rw[Nat.add_zero] at Hw;subst e1;have V4:an<(iW (cs.take k) (List.replicate mn 0)).length:=by rw[hlen];omega
   have c0:=HR.out.1.iN 0 _ rfl;rw[hlen] at c0;obtain⟨M0,hM0⟩:∃M0,(iW (cs.take k) (List.replicate mn 0)).getD an 0=M0:=⟨_,rfl⟩;have cM:=HR.out.1.Be V4;have fM:=HR.out.1.C_ (by show 0<(iW (cs.take k) (List.replicate mn 0)).length;omega) an;simp only at cM;rw[hM0] at cM;have tH:an<mn:=by rw[hlen] at V4;exact V4
   have HST:=ag hst;have TR:=ag V4;have HLEN:=ag hlen;clear hcc hgb hp hst hcb hM0 hlen V4;go_wp2_with fail;go_region;go_wp2_with fail;refine⟨⟨k+1,by omega,by go_num,ag ⟨?_,(HR.out.2.setCell (p:=⟨w1.heap.size,an,none⟩) (.inl rfl) _).drew⟩⟩,by simp[intOf];omega⟩;have hw:=(HR.out.1.word TR.out cv).drew;have e:(iW (cs.take (k+1)) (List.replicate mn 0)).length=(iW (cs.take k) (List.replicate mn 0)).length:=by rw[rR,rR]
   rw[e,HST.out];exact hw
  ·obtain rfl:k=cs.length:=by omega
   rw[List.take_length] at HR;have HR1:=ag HR.out.1;clear HR hlen;obtain⟨w5,rfl⟩:∃x,x=wr:=⟨_,rfl⟩;go_wp2_with fail;go_loopw [7] (fun i w'=>∃k:Nat,k<=l.length/\i= .int .i64 (k:Int)/\Hid (∃own xs tv,iI w' w.heap.size w2.heap.size own ⟨iW cs (List.replicate mn 0),(l.take k).map fun p=>MT.new p.2,[]⟩ xs (.slice (some ⟨w1.heap.size,0,none⟩) (iW cs (List.replicate mn 0)).length mn) tv (.slice none 0 0)/\xs.length=k/\VX l xs/\∀j,w5.heap.size<=j\/own j=dS w2.heap.size w1.heap.size j)/\Hid (Below w.heap.size w w'/\w'.heap[w.heap.size]? =w5.heap[w.heap.size]?/\w5.heap.size<=w'.heap.size)) (fun i _=>((l.length:Int) - intOf i).toNat)
   case atStart=>exact⟨0,by omega,rfl,ag ⟨_,[],_,by simpa using HR1.out,rfl,(fun x hx=>absurd hx (by simp)),fun j=>.inr rfl⟩,ag ⟨uK.out,rfl,aB _⟩⟩
   case round=>
    obtain⟨k,hk,rfl,HQ,HW⟩:=hrel;obtain⟨own,xs,tv,hq,hxl,hco,MI⟩:=HQ.out;have Zb:wr.heap[w.heap.size]? =some (.cells #[.slice ca l.length fo,.int .i64 (mn:Int),.slice oL cs.length h_] 30 (0,0)):=HW.out.2.1.trans HXR.out;have t0:wr.cell? ⟨w.heap.size,0,none⟩=some (.slice ca l.length fo):=af Zb rfl;have HX:=ag Zb;clear Zb;by_cases hlt:k<l.length
    ·have hp:=eO hlt;generalize l[k]=p at hp;have hmp:=bC hp;obtain⟨ao,cap,hcv⟩:=(H.out.each p hmp).shape;obtain⟨cb,co,e1,hcb,hcc⟩:=dH.at uw (H.out.below HW.out.1).rows hp;have Hw:=hcc 0 _ rfl;rw[Nat.mul_one,Nat.add_zero,hcv] at Hw;subst e1;subst hxl;obtain⟨DU,tc,rfl⟩:=aS hq.aT;obtain⟨i0,hi,hz0,hz1,hz2⟩:=info_parts X7;have c1:=hq.iN 1 _ rfl;have f1:=hq.Zf 1;have h4:=HLC.out.1;have HQT:=ag hq.aT;have EP:=ag hq;have WZ:=ag MI;have HP:=ag hp;have hrow:=H.out.each p hmp;rw[hcv] at hrow;have A7:=ag hrow;have Lv:=ag hcv;have ZT:=ag hmp;have ZA:=ag hco;have afn:w.heap.size<wr.heap.size:=lt_of_block HX.out;have hbl:w2.heap.size<wr.heap.size:=hq.lt;clear hcc hp hmp hq MI hcv hrow hco;go_wp2_with fail
     go_region_law (first|(refine ji (by rfl) (.tmp 53) (.tmp 60) 52 (by rfl) w.heap.size 61 i0 _ 13 152 Tryz.underlying52 hi hz0 hz1 hz2 rfl (by decide) (.slice DU xs.length tc) xs.length (xs.flatMap sH) (by simp[Act.eval]) (by exact aX HQT.out (((bz.refl (fun _=>False) wr).alloc _).drew) (fun _ _=>id)) ⟨wr.heap.size,0,none⟩ 1 1 (by decide) (sH (J4 p.2 (.slice ao p.2.length cap))) (by simp[Act.eval]) rfl (by exact iP (aj wr _)) (S_ _ _ _ _) (by unfold maxLen;omega) (by omega) (by show w.heap.size<=(wr.alloc _).heap.size;rw[World.size_alloc];omega) ?_;intro Jm Nf w9 h1 h2 h3;have hg0:bz (fun k=>(Value.slice DU xs.length tc).ownBlock=some k) wr w9:=bz.grown (S:=fun k=>(Value.slice DU xs.length tc).ownBlock=some k) (((bz.refl _ wr).alloc _).drew) h3 (fun k hk=>.inl hk);have hbt:w9.heap[w2.heap.size]? =wr.heap[w2.heap.size]?:=hg0.block w2.heap.size EP.out.lt (fun e=>by have h7:=EP.out.fK _ e;rw[EP.out.bT.2] at h7;omega);have s1:w9.cell? ⟨w2.heap.size,1,none⟩=some (.slice DU xs.length tc):=(World.cell?_of_block hbt).trans c1;have s2:w9.frozen? ⟨w2.heap.size,1,none⟩=false:=(by have f12:=f1;unfold World.frozen? at f12⊢;rw[hbt];exact f12);have I7:=ag hg0;have OZ:=ag h1;have Jd:=ag h2;clear h1 h2 h3 hg0 hbt))
     all_goals (
      have tH:Below w.heap.size w w9:=bz.below HW.out.1 HW.out.1.size I7.out (fun k hk=>(bO HQT.out hk).1);have hne:∀g,(Value.slice Jm (xs.length+1) Nf).ownBlock=some g->(Value.slice DU xs.length tc).ownBlock=some g\/wr.heap.size<=g:=fun g hg=>by
       rcases Jd.out g hg with e|e
       ·exact .inl e
       ·exact .inr (by have e':(wr.alloc _).heap.size<=g:=e;rw[World.size_alloc] at e';omega)
      have hpush:=EP.out.push I7.out (Rd.below A7.out tH) (fun g hn hg=>EI A7.out hn hg) (by rw[mJ];exact OZ.out) hne;have hown0:dS w2.heap.size w1.heap.size w.heap.size=0:=by
       unfold dS;rw[if_neg (by have:=UT.out;omega),if_neg Ub.out]
      have ad8:own w.heap.size=0:=by
       rcases WZ.out w.heap.size with e|e
       ·have:=lt_of_block HXR.out;omega
       ·rw[e];exact hown0
      have VS:(w9.setCell ⟨w2.heap.size,1,none⟩ (.slice Jm (xs.length+1) Nf)).heap[w.heap.size]? =w5.heap[w.heap.size]?:=by
       rw[dm _ _ _ _ (fun e=>by have:=UT.out;(try simp only at e);omega)];exact(I7.out.block _ afn (fun e=>by have h7:=EP.out.fK _ e;rw[ad8] at h7;omega)).trans HW.out.2.1
      have pX:=ag hpush;have Lc:=ag VS;have yh:=ag tH;clear hpush VS tH hne ad8 hown0 c1 f1 hi hz0 hz1 hz2 t0;go_wp2_with fail;refine⟨⟨xs.length+1,by omega,by go_num,ag ⟨retag own (.slice Jm (xs.length+1) Nf) 3 wr.heap.size,xs++[J4 p.2 (.slice ao p.2.length cap)],.slice Jm (xs.length+1) Nf,?_,by simp,fun x hx=>?_,fun j=>?_⟩,ag ⟨(bz.below yh.out yh.out.size ((bz.refl (fun k=>k=w2.heap.size) w9).setCell (p:=⟨w2.heap.size,1,none⟩) (.inl rfl) _) (fun k e=>by rw[e];exact EP.out.bT.1)),Lc.out,by
       have h8:=I7.out.size;have h9:=HW.out.2.2;simp[World.setCell];omega⟩⟩,by simp[intOf];omega⟩
      ·have e:(l.take (xs.length+1)).map (fun p=>MT.new p.2)=(l.take xs.length).map (fun p=>MT.new p.2)++[MT.new p.2]:=by
        rw[bU HP.out,List.map_append];rfl
       rw[e];exact pX.out
      ·rcases List.mem_append.1 hx with hx|hx
       ·exact ZA.out x hx
       ·rw[List.mem_singleton.1 hx];exact⟨p,ZT.out,Lv.out.symm,rfl⟩
      ·rcases Nat.lt_or_ge j w5.heap.size with hj|hj
       ·right
        rw[jk (Nat.lt_of_lt_of_le hj HW.out.2.2)];rcases WZ.out j with e|e
        ·omega
        ·exact e
       ·exact .inl hj)
    ·obtain rfl:k=l.length:=by omega
     go_wp2_with fail
     go_ret2
     have e:gF (mn:Int) (l.map (·.2)) cs=⟨iW cs (List.replicate mn 0),(l.take l.length).map fun p=>MT.new p.2,[]⟩:=by
      rw[List.take_length];unfold gF;simp
     rw[<-e] at hq;exact⟨_,_,_,_,_,_,rfl,hq,hco,HW.out.1⟩
theorem KU {ca oL:Option Addr} {fo h_:Nat} {l:List (Value×List bR)} {cs:List (Int×Int)} (h:mX w (.slice ca l.length fo) l) (hc:dH dQ w 2 (.slice oL cs.length h_) cs) (mem:Int) (hl:l.length<=6000000000000) (hcl:cs.length<=9000000000000) (hol:∀p∈l,p.2.length<=9000000000000) (hk:cB mem l cs=0):
  Calls Tryz.prog 14 #[.agg #[.slice ca l.length fo,.int .i64 mem,.slice oL cs.length h_]] w (UX mem l cs w):=
 (Qx h hc mem hl hcl hol hk).mono fun _ _ ⟨b,own,xs,mv,tv,ev,h1,h2,_,h3⟩=>⟨b,own,xs,mv,tv,ev,h1,h2,h3⟩
end
end Go.Proofs.YtopdcjimpdalpaaGreat

import Derived.Test.YtopdcjimpdalpaaGreatR30
import Derived.Test.YtopdcjimpdalpaaGreatR31
import Derived.Test.YtopdcjimpdalpaaGreatR32
import Derived.StillTailTactics
import Derived.Deep.RegionHeld3
import Derived.Laws.Rows
namespace Go.Proofs.YtopdcjimpdalpaaGreat
open Go.RowKit
set_option linter.all false
set_option maxHeartbeats 2000000
set_option maxRecDepth 100000
section
variable {w w':World} {base b:Nat} {own own':Nat->Nat} {mm:MM} {xs:List TX} {mv tv ev:Value}
theorem G6 {mm:MM} (h:mm.aT=xs.map TX.th):mm.aT.length=xs.length:=by rw[h];simp
theorem Jy (h:fJ w base b own mm xs mv tv ev) {z:Int} (hz:mm.Cn z=none):z<0\/(xs.length:Int)<=z:=by
 unfold MM.Cn at hz;split at hz
 ·exact .inl ‹_›
 ·have:=List.getElem?_eq_none_iff.1 hz;rw[G6 h.same] at this;omega
theorem KV (h:fJ w base b own mm xs mv tv ev) {z:Int} {t:MT} (hz:mm.Cn z=some t):∃(n:Nat) (x:TX),z=(n:Int)/\xs[n]? =some x/\x.th=t:=by
 obtain⟨h0,h1⟩:=Hr hz;obtain⟨n,rfl⟩:=Int.eq_ofNat_of_zero_le h0;rw[Int.toNat_natCast,h.same,List.getElem?_map] at h1;cases hx:xs[n]? with
 |none=>rw[hx] at h1;cases h1
 |some x=>rw[hx] at h1;simp at h1;exact⟨n,x,rfl,hx,h1⟩
theorem M5 (h:fJ w base b own mm xs mv tv ev) {z:Int} (hz:z<0\/(xs.length:Int)<=z):
  Calls Tryz.prog 66 #[.pointer (some ⟨b,0,none⟩),.int .i64 z] w fun r w'=>r= .returned (.bool false)/\w'=w:=by
 have H:=ag h;clear h;go_in;go_wp2_with fail;refine(ZJ H.out hz).mono ?_;rintro e w1 ⟨rfl,rfl⟩;go_wp2_with fail;go_ret;exact⟨rfl,rfl⟩
theorem J3 {tb cap n:Nat} {x:TX} (h:fJ w base b own mm xs mv (.slice (some ⟨tb,0,none⟩) xs.length cap) ev) (hx:xs[n]? =some x) (hw:x.th.wait=[]):
  Calls Tryz.prog 66 #[.pointer (some ⟨b,0,none⟩),.int .i64 (n:Int)] w fun r w'=>r= .returned (.bool false)/\Below w.heap.size w w':=by
 have e10:=h.cell hx 10 _ rfl;obtain⟨c,f,hr⟩:=(h.th n x hx).ring;rw[hw] at hr;have HR:=ag hr;have H:=ag h;have HX:=ag hx;clear h hx hr hw;go_in;go_wp2_with fail;refine(wm H.out HX.out).mono ?_;rintro e w1 ⟨rfl,rfl⟩;go_wp2_with fail;refine(L9 HR.out).mono ?_;rintro e w1 ⟨rfl,hb⟩;have HB:=ag hb;clear e10 hb HR;go_wp2_with fail;go_ret;exact⟨rfl,HB.out.alloc HB.out.size _⟩
theorem Mk {tb cap n mb mc:Nat} {x:TX} (h:fJ w base b own mm xs (.slice (some ⟨mb,0,none⟩) mm.mem.length mc) (.slice (some ⟨tb,0,none⟩) xs.length cap) ev) (hx:xs[n]? =some x) {a v:Int} {q:List (Int×Int)} (hw:x.th.wait=(a,v)::q) (ha:0<=a/\a<mm.mem.length):
  Calls Tryz.prog 66 #[.pointer (some ⟨b,0,none⟩),.int .i64 (n:Int)] w fun r w'=>r= .returned (.bool true)/\ow w base b own ({mm with mem:=mm.mem.set a.toNat v}.put n {x.th with wait:=q}) w':=by
 have e10:=h.cell hx 10 _ rfl;obtain⟨c,f,hr⟩:=(h.th n x hx).ring;rw[hw] at hr;have HR:=ag hr;have H:=ag h;have HX:=ag hx;obtain⟨an,rfl⟩:=Int.eq_ofNat_of_zero_le ha.1;have V4:an<mm.mem.length:=by omega
 clear h hx hr hw;go_in;go_wp2_with fail;refine(wm H.out HX.out).mono ?_;rintro e w1x ⟨rfl,rfl⟩;go_wp2_with fail;refine(R_ HR.out).mono ?_;rintro e w1 ⟨rfl,⟨c',f',hr⟩,hc⟩;obtain⟨w5,L8⟩:∃w5,w5=w1.alloc (.cells #[.int .i64 (an:Int),.int .i64 v] 99):=⟨_,rfl⟩;have hb5:Below w1.heap.size w1 w5:=L8 ▸ ((au _ _).alloc (aB _) _);have h2:=(H.out.Ur HX.out hc hr).below hb5;have c1:=h2.iN 1 _ rfl;have cM:=h2.Be V4;have fM:=h2.C_ (by show 0<mm.mem.length;omega) an;have k0:w5.cell? ⟨w1.heap.size,0,none⟩=some (.int .i64 (an:Int)):=by rw[L8];exact af (heap_alloc_new _ _) rfl
 have k1:w5.cell? ⟨w1.heap.size,1,none⟩=some (.int .i64 v):=by rw[L8];exact af (heap_alloc_new _ _) rfl
 have hb6:w1.heap.size<=w5.heap.size:=hb5.size;have H2:=ag h2;have HC:=ag ((hc.trans (bz.of_below hb5)).imp (T:=fun k=>own k≠0/\¬(5<=own k/\own k%3=2)) (fun k _ e=>by rw[e,(H.out.th n x HX.out).qD.2];omega));have NH:=ag L8;clear hr hc h2 e10 HR hb5;simp only[MM.put] at c1 cM;go_wp2_with fail;rw[<-NH.out];clear NH L8;go_still_tail 8,(by kernel_rfl)
 go_wp2_with fail;go_ret;have h6:=H2.out.drew.word V4 v;refine⟨rfl,⟨own,_,_,_,_,h6,fun _ _=>rfl⟩,(HC.out.drew).setCell (p:=⟨mb,an,none⟩) (.inl ?_) _⟩;show own mb≠0/\¬(5<=own mb/\own mb%3=2);rw[H.out.memT mb rfl];decide
theorem Rq {N:Nat} (h:fJ w base b own mm xs mv tv ev) (hk:qz N mm) (z:Int):
  Calls Tryz.prog 66 #[.pointer (some ⟨b,0,none⟩),.int .i64 z] w fun r w'=>r= .returned (.bool (mm.flush z).1)/\ow w base b own (mm.flush z).2 w':=by
 cases ht:mm.Cn z with
 |none=>
  refine(M5 h (Jy h ht)).mono ?_;rintro r w' ⟨rfl,rfl⟩;have e:mm.flush z=(false,mm):=by unfold MM.flush;rw[ht]
  rw[e];exact⟨rfl,ow.same h (au _ _)⟩
 |some t=>
  obtain⟨n,x,rfl,hx,rfl⟩:=KV h ht;obtain⟨tb,cap,rfl, -⟩:=h.yw hx;have hth:=hk.th _ (bC (h.Bg hx));obtain⟨mb,mc,rfl, -⟩:=h.qA (by have:=hk.mem;omega);cases hw:x.th.wait with
  |nil=>
   have e:mm.flush (n:Int)=(false,mm):=by unfold MM.flush;rw[ht];simp[hw]
   rw[e];refine(J3 h hx hw).mono ?_;rintro r w' ⟨rfl,hb⟩;exact⟨rfl,ow.same h hb⟩
  |cons c q=>
   have e:mm.flush (n:Int)=(true,{mm with mem:=mm.mem.set c.1.toNat c.2}.put n {x.th with wait:=q}):=by unfold MM.flush;rw[ht];simp[hw]
   rw[e];exact Mk h hx hw (hth.wait c (by rw[hw];exact List.mem_cons_self))
end
section
variable {w w':World} {base b:Nat} {own own':Nat->Nat} {mm:MM} {xs:List TX} {mv tv ev:Value}
theorem Wx {N:Nat} (h:fJ w base b own mm xs mv tv ev) (hk:qz N mm) (hN:N<1000000000) (z:Int):
  Calls Tryz.prog 63 #[.pointer (some ⟨b,0,none⟩),.int .i64 z] w fun r w'=>r= .returned (.bool (mm.step z).1)/\ow w base b own (mm.step z).2 w':=by
 cases ht:mm.Cn z with
 |none=>
  refine(QE h (Jy h ht)).mono ?_;rintro r w' ⟨rfl,hb⟩;have e:mm.step z=(false,mm):=by unfold MM.step;rw[ht]
  rw[e];exact⟨rfl,ow.same h hb⟩
 |some t=>
  obtain⟨n,x,rfl,hx,rfl⟩:=KV h ht;obtain⟨tb,cap,rfl, -⟩:=h.yw hx;have hm:=bC (h.Bg hx);have hth:=hk.th _ hm;by_cases hf:x.th.fin=0
  ·have e:mm.step (n:Int)=mm.go n x.th:=by unfold MM.step;rw[ht];simp[hf]
   rw[e];have hev:mm.evs.length<1000000000:=Nat.lt_of_le_of_lt hk.evs hN;have h4:xs.length<=4:=by rw[<-G6 h.same];exact hk.four
   by_cases hat:x.th.at_<0\/x.th.code.length<=x.th.at_
   ·exact VE h hx hf hat hev h4
   ·have agA:=hth.at_;have hlt:x.th.at_.toNat<x.th.code.length:=by omega
    have ho:=eO hlt;have hok:=hth.ops _ (List.getElem_mem hlt);have hol:=Nat.lt_of_le_of_lt hth.out hN;generalize x.th.code[x.th.at_.toNat]=o at ho hok;by_cases hmo:∃a,x.th.word o=some a/\mm.has a=false
    ·exact TY h hx hk.mem.2 hf hth.at_ ho hok hol hmo hev h4
    ·cases hwt:x.th.waits o with
     |true=>exact NV h hx hk.mem.2 hf hth.at_ ho hok hol hmo hwt hev h4
     |false=>
      cases hst:x.th.stops o with
      |none=>exact QV h hx hk.mem.2 hf hth.at_ ho hok hol hmo hwt hst hev h4
      |some k=>exact R5 h hx hk.mem.2 hf hth.at_ ho hok hol hmo hwt ⟨k,hst⟩ hev h4
  ·have e:mm.step (n:Int)=(false,mm):=by unfold MM.step;rw[ht];simp[hf]
   rw[e];refine(WI h hx hf).mono ?_;rintro r w' ⟨rfl,hb⟩;exact⟨rfl,ow.same h hb⟩
end
section
variable {w w':World}
theorem VJ (w:World) (b:Bool):Sem.run Tryz.prog (binOp .neq 31 (sj b) (.int .i64 0)) w= .ok (.bool (!b)) w:=by
 cases b<;>kernel_rfl
theorem Xg (w:World) (o:bR) (hw:Fj o):Calls Tryz.prog 139 #[.agg (b_ o).toArray] w fun e w'=>e= .returned (.bool (!dR o))/\Below w.heap.size w w':=by
 obtain⟨kind,bD,a,b,c,n⟩:=o;have HW:=ag hw;clear hw;unfold b_;have hq:=VJ;have GJ:=ag ((au w.heap.size w).alloc (aB _) (.cells #[.int .u8 kind,.int .u8 bD,.int .u8 a,.int .u8 b,.int .u8 c,.int .i64 n] 107));go_in;go_wp2_with fail;refine(Sb _ _ HW.out).mono ?_;rintro e w1 ⟨rfl,hb⟩;have HB:=ag hb;clear hb hq;cases hc:dR ⟨kind,bD,a,b,c,n⟩ with
 |true=>
  rw[show sj true= .int .i64 0 from rfl];have HC:=ag hc;clear hc;go_wp2_with fail;go_ret;exact⟨by rw[HC.out];rfl,GJ.out.trans (HB.out.mono GJ.out.size)⟩
 |false=>
  rw[show sj false= .int .i64 1 from rfl];have HC:=ag hc;clear hc;go_wp2_with fail;go_ret;exact⟨by rw[HC.out];rfl,GJ.out.trans (HB.out.mono GJ.out.size)⟩
theorem QK {ao:Option Addr} {cap:Nat} {l:List bR} (h:dH b_ w 6 (.slice ao l.length cap) l) (hl:l.length<=262144) (hw:∀o∈l,Fj o):
  Calls Tryz.prog 166 #[.slice ao l.length cap,.func (.func 139) #[] #[]] w fun e w'=>(∃z:Int,e= .returned (.int .i64 z)/\(0<=z↔∃o∈l,dR o=false))/\Below w.heap.size w w':=by
 have H:=ag h;have HL:=ag hl;have AQ:=ag hw;clear h hl hw;go_in;go_wp2_with fail;go_loopw [8] (fun i w'=>∃k:Nat,k<=l.length/\i= .int .i64 (k:Int)/\Hid (Below w.heap.size w w'/\∀j (o:bR),j<k->l[j]? =some o->dR o=true)) (fun i _=>((l.length:Int) - intOf i).toNat)
 case atStart=>exact⟨0,by omega,rfl,⟨au _ _,fun j o hj=>absurd hj (by omega)⟩⟩
 case round=>
  obtain⟨k,hk,rfl,HR⟩:=hrel;by_cases hlt:k<l.length
  ·have ho:=eO hlt;obtain⟨cb,co,rfl,hcb,hcc⟩:=dH.at dX (H.out.below HR.out.1) ho;generalize ho':l[k]=o at ho hcc;have hwo:=AQ.out o (bC ho);obtain⟨ki,bD,ra,rb,rc,num⟩:=o;have i0:=hcc 0 _ rfl;have i1:=hcc 1 _ rfl;have i2:=hcc 2 _ rfl;have i3:=hcc 3 _ rfl;have i4:=hcc 4 _ rfl;have i5:=hcc 5 _ rfl;rw[Nat.add_zero] at i0;have HO:=ag ho;have HWO:=ag hwo;clear ho ho' hwo hcc hcb;go_wp2_with fail;refine(Xg wr ⟨ki,bD,ra,rb,rc,num⟩ HWO.out).mono ?_;rintro e w2 ⟨rfl,hb2⟩;have HB2:=ag (HR.out.1.trans (hb2.mono HR.out.1.size));clear hb2 i0 i1 i2 i3 i4 i5;cases hc:dR ⟨ki,bD,ra,rb,rc,num⟩ with
   |false=>
    have HC:=ag hc;clear hc;go_wp2_with fail;go_ret;exact⟨⟨_,rfl,⟨fun _=>⟨_,bC HO.out,HC.out⟩,fun _=>by omega⟩⟩,HB2.out⟩
   |true=>
    have HC:=ag hc;have hkl:k<262144:=Nat.lt_of_lt_of_le hlt HL.out;clear hc;go_wp2_with fail;refine⟨⟨k+1,by omega,by go_num,⟨HB2.out,fun j o hj ho=>?_⟩⟩,by simp[intOf];omega⟩;by_cases e:j=k
    ·subst e;rw[HO.out] at ho;cases ho;exact HC.out
    ·exact HR.out.2 j o (by omega) ho
  ·obtain rfl:k=l.length:=by omega
   go_wp2_with fail;go_ret;refine⟨⟨-1,rfl,⟨fun h=>absurd h (by decide),fun⟨o,ho,hc⟩=>?_⟩⟩,HR.out.1⟩;obtain⟨j,hj⟩:=List.getElem?_of_mem ho;rw[HR.out.2 j o (bu.1 hj).1 hj] at hc;cases hc
theorem GV {ao:Option Addr} {cap:Nat} {l:List bR} (h:dH b_ w 6 (.slice ao l.length cap) l) (hl:l.length<=262144) (hw:∀o∈l,Fj o):
  Calls Tryz.prog 138 #[.slice ao l.length cap,.func (.func 139) #[] #[]] w fun e w'=>e= .returned (.bool (!(l.all dR)))/\Below w.heap.size w w':=by
 have H:=ag h;have HL:=ag hl;have AQ:=ag hw;clear h hl hw;go_in;go_wp2_with fail;refine(QK H.out HL.out AQ.out).mono ?_;rintro e w1 ⟨⟨z,rfl,hz⟩,hb⟩;have HZ:=ag hz;have HB:=ag hb;clear hz hb;by_cases h0:0<=z
 ·have hd:decide (0<=z)=true:=decide_eq_true h0;go_wp2_with fail;go_ret;refine⟨?_,HB.out⟩;obtain⟨o,ho,hc⟩:=HZ.out.1 h0;rw[show l.all dR=false from by rw[List.all_eq_false];exact⟨o,ho,by simp[hc]⟩];rfl
 ·have hd:decide (0<=z)=false:=decide_eq_false h0;go_wp2_with fail;go_ret;refine⟨?_,HB.out⟩;rw[show l.all dR=true from by
   rw[List.all_eq_true];intro o ho;cases hc:dR o with
   |true=>rfl
   |false=>exact absurd (HZ.out.2 ⟨o,ho,hc⟩) (by omega)]
  rfl
end
section
variable {w w':World}
def aaZ (p:Value×List bR):List Value:=[p.1]
theorem uw:∀p,(aaZ p).length=1:=fun _=>rfl
structure mX (w:World) (v:Value) (l:List (Value×List bR)):Prop where
 rows:dH aaZ w 1 v l
 each:∀p∈l,dH b_ w 6 p.1 p.2
 wf:∀p∈l,∀o∈p.2,Fj o
theorem mX.below {v:Value} {l:List (Value×List bR)} (h:mX w v l) (hb:Below w.heap.size w w'):mX w' v l:=⟨Rd.below h.rows hb,fun p hp=>Rd.below (h.each p hp) hb,h.wf⟩
def f_ (l:List (Value×List bR)):Nat:=(l.map fun p=>min p.2.length 262145).sum
def jH (mem:Int):Int->List (Int×Int)->Bool
 |_,[]=>true
 |last,c::r=>decide (last<c.1/\c.1<mem) && jH mem c.1 r
def cB (mem:Int) (l:List (Value×List bR)) (cs:List (Int×Int)):Int:=
 if 262144<mem\/4<l.length\/262144<f_ l then 3
 else if mem<1 then 1
 else if(l.all fun p=>p.2.all dR)=false then 1
 else if jH mem (-1) cs=false then 1
 else 0
theorem D6 {l:List (Value×List bR)} {k:Nat} {p:Value×List bR} (h:l[k]? =some p):f_ (l.take (k+1))=f_ (l.take k)+min p.2.length 262145:=by
 unfold f_;rw[List.take_add_one,h];simp
theorem WK (l:List (Value×List bR)):f_ l<=l.length*262145:=by
 unfold f_;induction l with
 |nil=>simp
 |cons p r ih=>simp only[List.map_cons,List.sum_cons,List.length_cons];have:min p.2.length 262145<=262145:=Nat.min_le_right _ _;omega
theorem Fu (l:List (Value×List bR)) (k:Nat):f_ (l.take k)<=l.length*262145:=Nat.le_trans (WK _) (Nat.mul_le_mul_right _ (by rw[List.length_take];exact Nat.min_le_right _ _))
theorem uU {l:List (Value×List bR)} (h:f_ l<=262144):∀p∈l,p.2.length<=262144:=by
 induction l with
 |nil=>exact fun p hp=>absurd hp (by simp)
 |cons q r ih=>
  unfold f_ at h ih;simp only[List.map_cons,List.sum_cons] at h;intro p hp;rcases List.mem_cons.1 hp with rfl|e
  ·omega
  ·exact ih (by omega) p e
theorem nS {w:World} {a:Addr} {u:Value} (h:w.cell? a=some u) (o:Obj):(w.alloc o).cell? a=some u:=by
 rw[World.cell?_of_block (w:=w) (heap_alloc_old w o (dW w a h))];exact h
theorem NB {ca oL:Option Addr} {fo h_:Nat} {l:List (Value×List bR)} {cs:List (Int×Int)} (h:mX w (.slice ca l.length fo) l) (hc:dH dQ w 2 (.slice oL cs.length h_) cs) (mem:Int) (hl:l.length<=6000000000000) (hcl:cs.length<=9000000000000):
  Calls Tryz.prog 96 #[.agg #[.slice ca l.length fo,.int .i64 mem,.slice oL cs.length h_]] w fun e w'=>e= .returned (.int .i64 (cB mem l cs))/\Below w.heap.size w w':=by
 have H:=ag h;have HC:=ag hc;have HL:=ag hl;have Cb:=ag hcl;have hb0:Below w.heap.size w (w.alloc (Obj.cells #[.slice ca l.length fo,.int .i64 mem,.slice oL cs.length h_] 30)):=(au _ _).alloc (aB _) _;have gQ:=aj w (.cells #[.slice ca l.length fo,.int .i64 mem,.slice oL cs.length h_] 30);have H0:=ag (h.below hb0);have CY:=ag (Rd.below hc hb0);have HB:=ag hb0;have hw0:w.heap.size<(w.alloc (Obj.cells #[.slice ca l.length fo,.int .i64 mem,.slice oL cs.length h_] 30)).heap.size:=by simp
 have d0:=af (o:=0) gQ rfl;have d1:=af (o:=1) gQ rfl;have d2:=af (o:=2) gQ rfl;have LC:=ag gQ;clear h hc hl hcl hb0 gQ;go_in;go_wp2_with fail;generalize(w.alloc (Obj.cells #[.slice ca l.length fo,.int .i64 mem,.slice oL cs.length h_] 30))=w0 at H0 CY HB hw0 d0 d1 d2 LC⊢;go_loopw [3,14] (fun c i w'=>∃k:Nat,k<=l.length/\i= .int .i64 (k:Int)/\c= .int .i64 (f_ (l.take k):Int)/\w'=w0) (fun c i _=>((l.length:Int) - intOf i).toNat)
 case atStart=>exact⟨0,by omega,rfl,by simp[f_],rfl⟩
 case round=>
  obtain⟨k,hk,rfl,rfl,rfl⟩:=hrel;by_cases hlt:k<l.length
  ·have hp:=eO hlt;generalize l[k]=p at hp;obtain⟨cb,co,rfl,hcb,hcc⟩:=dH.at uw H0.out.rows hp;have i0:=hcc 0 _ rfl;obtain⟨ao,cap,hcv⟩:=(H0.out.each p (bC hp)).shape;have hst:=D6 hp;rw[Nat.mul_one,Nat.add_zero,hcv] at i0;have hct:=Fu l k;have HST:=ag hst;clear hst;go_wp2_with fail;have hL:=HL.out;have hk1:wrap64 ((k:Int)+1)=((k+1:Nat):Int):=by unfold wrap64;omega
   have hc1:wrap64 ((f_ (l.take k):Int)+if 262145<(p.2.length:Int) then 262145 else(p.2.length:Int))=((f_ (l.take (k+1)):Nat):Int):=by
    rw[HST.out];unfold wrap64;split<;>omega
   refine⟨⟨k+1,by omega,by rw[hk1],by rw[hc1],trivial⟩,?_⟩;rw[hk1];simp only[intOf];omega
  ·obtain rfl:k=l.length:=by omega
   rw[List.take_length];by_cases hA:262144<mem\/4<l.length\/262144<f_ l
   ·have HE:=ag (show cB mem l cs=3 from by unfold cB;rw[if_pos hA]);by_cases a1:262144<mem
    ·clear hA;go_wp2_with fail;go_ret;exact⟨by rw[HE.out];rfl,HB.out⟩
    ·by_cases a2:4<l.length
     ·have a2':(4:Int)<(l.length:Int):=by omega
      clear hA a2;go_wp2_with fail;go_ret;exact⟨by rw[HE.out];rfl,HB.out⟩
     ·have a2':¬(4:Int)<(l.length:Int):=by omega
      have a3':(262144:Int)<(f_ l:Int):=by omega
      clear hA a2;go_wp2_with fail;go_ret;exact⟨by rw[HE.out];rfl,HB.out⟩
   ·have a1:¬262144<mem:=by omega
    have a2':¬(4:Int)<(l.length:Int):=by omega
    have a3':¬(262144:Int)<(f_ l:Int):=by omega
    have HA:=ag hA;have h4:l.length<=4:=by omega
    have Tm:=ag (uU (l:=l) (by omega));clear hA;by_cases hm:mem<1
    ·go_wp2_with fail;go_ret;refine⟨?_,HB.out⟩;rw[show cB mem l cs=1 from by unfold cB;rw[if_neg HA.out,if_pos hm]];rfl
    ·go_wp2_with fail;have HM:=ag hm;clear a1 a2' a3' hm;go_loopw [45] (fun i w'=>∃k:Nat,k<=l.length/\i= .int .i64 (k:Int)/\Hid (Below wr.heap.size wr w'/\∀j (p:Value×List bR),j<k->l[j]? =some p->p.2.all dR=true)) (fun i _=>((l.length:Int) - intOf i).toNat)
     case atStart=>exact⟨0,by omega,rfl,⟨au _ _,fun j p hj=>absurd hj (by omega)⟩⟩
     case round=>
      obtain⟨k,hk,rfl,HR⟩:=hrel;by_cases hlt:k<l.length
      ·have hp:=eO hlt;generalize l[k]=p at hp;have hmp:=bC hp;obtain⟨cb,co,e1,hcb,hcc⟩:=dH.at uw (H0.out.below HR.out.1).rows hp;have i0:=hcc 0 _ rfl;obtain⟨ao,cap,hcv⟩:=(H0.out.each p hmp).shape;rw[Nat.mul_one,Nat.add_zero,hcv] at i0;have hrow:=(H0.out.below HR.out.1).each p hmp;rw[hcv] at hrow;have A7:=ag hrow;have WS:=ag (Tm.out p hmp);have AQ:=ag (H0.out.wf p hmp);have HP:=ag hp;subst e1;clear hcc hcv hcb hrow hmp hp;go_wp2_with fail;refine(GV A7.out WS.out AQ.out).mono ?_;rintro e w2 ⟨rfl,hb2⟩;have HB2:=ag (HR.out.1.trans (hb2.mono HR.out.1.size));clear hb2 i0;cases hal:p.2.all dR with
       |false=>
        have SA:=ag hal;clear hal;go_wp2_with fail;go_ret;refine⟨?_,HB.out.trans (HB2.out.mono HB.out.size)⟩;rw[show cB mem l cs=1 from by
         unfold cB;rw[if_neg HA.out,if_neg (show ¬mem<1 from by have:=HM.out;omega),if_pos];rw[List.all_eq_false];exact⟨p,bC HP.out,by rw[SA.out];decide⟩]
        rfl
       |true=>
        have SA:=ag hal;clear hal;go_wp2_with fail;refine⟨⟨k+1,by omega,by go_num,⟨HB2.out,fun j q hj hq=>?_⟩⟩,by simp[intOf];omega⟩;by_cases e:j=k
        ·subst e;rw[HP.out] at hq;cases hq;exact SA.out
        ·exact HR.out.2 j q (by omega) hq
      ·obtain rfl:k=l.length:=by omega
       have Eu:=ag (show(l.all fun p=>p.2.all dR)=true from by
        rw[List.all_eq_true];intro p hp;obtain⟨j,hj⟩:=List.getElem?_of_mem hp;exact HR.out.2 j p (bu.1 hj).1 hj)
       have hbr:=HR.out.1;have q0:=(World.cell?_of_block (hbr.block _ (dW _ _ d1))).trans d1;have q2:=(World.cell?_of_block (hbr.block _ (dW _ _ d2))).trans d2;have rV:=ag (HB.out.trans (hbr.mono HB.out.size));have Ls:=ag (Rd.below CY.out hbr);clear d0 d1 d2 hbr HR H0 CY HB LC;go_wp2_with fail;go_loopw [8,55] (fun lv i w'=>∃(k:Nat) (la:Int),k<=cs.length/\i= .int .i64 (k:Int)/\lv= .int .i64 la/\Hid (Below wr.heap.size wr w'/\jH mem (-1) cs=jH mem la (cs.drop k))) (fun lv i _=>((cs.length:Int) - intOf i).toNat)
       case atStart=>exact⟨0, -1,by omega,rfl,rfl,⟨au _ _,by simp⟩⟩
       case round=>
        obtain⟨k,la,hk,rfl,rfl,HR⟩:=hrel;by_cases hlt:k<cs.length
        ·have hp:=eO hlt;have hdr:=List.drop_eq_getElem_cons hlt;generalize cs[k]=c at hp hdr;obtain⟨ca,cv⟩:=c;obtain⟨cb,co,e1,hcb,hcc⟩:=dH.at iM (Rd.below Ls.out HR.out.1) hp;have i0:=hcc 0 _ rfl;have i1:=hcc 1 _ rfl;rw[Nat.add_zero] at i0;have hbr:=HR.out.1;have m1:=(World.cell?_of_block (hbr.block _ (dW _ _ q0))).trans q0;have m2:=fun o=>nS m1 o
         have HD:=ag (show jH mem (-1) cs=(decide (la<ca/\ca<mem) && jH mem ca (cs.drop (k+1))) from by rw[HR.out.2,hdr];rfl);have HB2:=ag hbr;have hkl:=Cb.out;subst e1;clear hcc hcb hp hdr hbr HR;by_cases b1:ca<=la
         ·go_wp2_with fail;go_ret;refine⟨?_,rV.out.trans ((HB2.out.alloc HB2.out.size _).mono rV.out.size)⟩;rw[show cB mem l cs=1 from by
           unfold cB;rw[if_neg HA.out,if_neg (show ¬mem<1 from by have:=HM.out;omega),if_neg (by rw[Eu.out];decide),if_pos];rw[HD.out,decide_eq_false (by omega)];rfl]
          rfl
         ·by_cases b2:mem<=ca
          ·go_wp2_with fail;go_ret;refine⟨?_,rV.out.trans ((HB2.out.alloc HB2.out.size _).mono rV.out.size)⟩;rw[show cB mem l cs=1 from by
            unfold cB;rw[if_neg HA.out,if_neg (show ¬mem<1 from by have:=HM.out;omega),if_neg (by rw[Eu.out];decide),if_pos];rw[HD.out,decide_eq_false (by omega)];rfl]
           rfl
          ·have b1':la<ca:=by omega
           have b2':ca<mem:=by omega
           have ajs:(k:Int)<9000000000000:=by omega
           clear hkl;go_wp2_with fail;refine⟨⟨k+1,ca,by omega,by go_num,rfl,⟨HB2.out.alloc HB2.out.size _,by rw[HD.out,decide_eq_true ⟨b1',b2'⟩];rfl⟩⟩,by simp[intOf];omega⟩
        ·obtain rfl:k=cs.length:=by omega
         go_wp2_with fail;go_ret;refine⟨?_,rV.out.trans (HR.out.1.mono rV.out.size)⟩;rw[show cB mem l cs=0 from by
          unfold cB;rw[if_neg HA.out,if_neg (show ¬mem<1 from by have:=HM.out;omega),if_neg (by rw[Eu.out];decide),if_neg];rw[HR.out.2];simp[jH]]
         rfl
end
section
variable {w w':World} {base b:Nat} {own own':Nat->Nat} {mm:MM} {xs:List TX} {mv tv ev:Value}
def Dl (code:List bR) (cv:Value) (rb:Nat):TX:=⟨MT.new code,cv,rb,.slice none 0 0⟩
def yg (own:Nat->Nat) (tv' cv:Value) (code:List bR) (rb n m:Nat) (k:Nat):Nat:=
 if k<m then own k else if tv'.ownBlock=some k then 3 else if code≠[]/\cv.ownBlock=some k then 5+3*n else if k=rb then 6+3*n else 0
theorem Gj {tv' cv:Value} {code:List bR} {rb n m k:Nat} (h:k<m):yg own tv' cv code rb n m k=own k:=if_pos h
theorem EI {sz:Nat} {v:Value} {l:List bR} {g:Nat} (h:dH b_ w sz v l) (hn:l≠[]) (hg:v.ownBlock=some g):g<w.heap.size:=by
 obtain⟨h1,ao,cap,h2,h3,h4⟩:=h;obtain⟨b,off,rfl,hb,_⟩:=h4 (List.length_pos_iff.2 hn);rw[h2] at hg;simp only[Value.ownBlock,bH] at hg;exact hg ▸ hb
theorem fJ.push (h:fJ w base b own mm xs mv tv ev) (hc:bz (fun k=>tv.ownBlock=some k) w w') {code:List bR} {cv tv':Value} {rb f:Nat} {c:Array Value}
  (hcode:dH b_ w' 6 cv code) (hcn:∀g,code≠[]->cv.ownBlock=some g->w.heap.size<=g) (hring:Ring w' rb [] c f) (hrn:w.heap.size<=rb)
  (Wu:w'.ownsRow base 184 13 tv' (xs.length+1) ((xs++[Dl code cv rb]).flatMap uE)) (htn:∀g,tv'.ownBlock=some g->tv.ownBlock=some g\/w.heap.size<=g)
  (hd1:∀g,code≠[]->cv.ownBlock=some g->g≠rb/\tv'.ownBlock≠some g) (hd2:tv'.ownBlock≠some rb):
  fJ (w'.setCell ⟨b,2,none⟩ tv') base b (yg own tv' cv code rb xs.length w.heap.size) {mm with aT:=mm.aT++[MT.new code]} (xs++[Dl code cv rb]) mv tv' ev:=by
 have hbl:=h.lt;have hk:∀g,own g≠3->own g≠1->g<w.heap.size->(w'.setCell ⟨b,2,none⟩ tv').heap[g]? =w.heap[g]?:=fun g h3 h1 hl=>by
  rw[dm _ _ _ _ (fun e=>h1 (by rw[e];exact h.bT.2))];exact hc.block g hl fun e=>h3 (h.fK g e)
 have hk2:∀g,w.heap.size<=g->(w'.setCell ⟨b,2,none⟩ tv').heap[g]? =w'.heap[g]?:=fun g hl=>dm _ _ _ _ (fun e=>by simp only at e;omega)
 have hb1:=dG hc h.blk (fun hk=>by have h1:=h.fK _ hk;rw[h.bT.2] at h1;exact absurd h1 (by decide));have hset:=ai (o:=2) tv' hb1;have hsz:=hc.size;have hbs:=h.fQ;have ho:∀k,k<w.heap.size->yg own tv' cv code rb xs.length w.heap.size k=own k:=fun k hk=>Gj hk
 have hlen:(xs++[Dl code cv rb]).length=xs.length+1:=by simp
 have htb:∀g,tv'.ownBlock=some g->g≠b:=fun g hg e=>by
  rcases htn g hg with e'|e'
  ·have:=h.fK g e';rw[e,h.bT.2] at this;omega
  ·omega
 refine⟨hset,⟨h.bT.1,by rw[ho _ hbl];exact h.bT.2⟩,aP h.mem fun g hg hl=>hk g (by rw[h.memT g hg];omega) (by rw[h.memT g hg];omega) hl,fun g hg=>by rw[ho _ (bO h.mem hg).2];exact h.memT g hg,
  by rw[hlen];exact aP Wu fun g hg _=>dm _ _ _ _ (htb g hg),fun g hg=>?_,
  aP h.evs fun g hg hl=>hk g (by rw[h.j6 g hg];omega) (by rw[h.j6 g hg];omega) hl,fun g hg=>by rw[ho _ (bO h.evs hg).2];exact h.j6 g hg,
  by simp[h.same,Dl],fun i x hx=>?_,fun k hk'=>?_⟩
 ·by_cases e:g<w.heap.size
  ·rw[ho _ e];rcases htn g hg with e'|e'
   ·exact h.fK g e'
   ·omega
  ·unfold yg;rw[if_neg e,if_pos hg]
 ·rcases Nat.lt_or_ge i xs.length with hi|hi
  ·rw[List.getElem?_append_left hi] at hx;exact(h.th i x hx).keep ho fun g hg hl=>hk g (by omega) (by omega) hl
  ·have hi':i=xs.length:=by have:=(bu.1 hx).1;rw[hlen] at this;omega
   subst hi';simp at hx;subst hx;refine⟨hcode.zN fun g hn hg _=>hk2 g (hcn g hn hg),fun g hn hg=>⟨by have:=hcn g hn hg;omega,?_⟩,⟨c,f,hring.keep (hk2 _ hrn)⟩,⟨by show base<=rb;omega,?_⟩,World.ownsRow_nil _ _ _ _,fun g hg=>by cases hg⟩
   ·have h1:=hcn g hn hg;have h2:=hd1 g hn hg;unfold yg;rw[if_neg (by omega),if_neg h2.2,if_pos ⟨hn,hg⟩]
   ·have h2:¬(code≠[]/\cv.ownBlock=some rb):=fun e=>(hd1 rb e.1 e.2).1 rfl
    show yg own tv' cv code rb xs.length w.heap.size rb=_;unfold yg;rw[if_neg (by omega),if_neg hd2,if_neg h2,if_pos rfl]
 ·rw[bL] at hk';unfold yg;rw[if_neg (by omega),if_neg (fun e=>by have:=(bO Wu e).2;omega),if_neg (fun e=>by have:=EI hcode e.1 e.2;omega),if_neg (fun e=>by have:=hring.lt;omega)]
end
section
variable {w w':World}
theorem GL {t e:TypeId} (h:Tryz.prog.underlying t=some (.slice e)) (w:World) (a:Option Addr) (l c:Nat):Sem.run Tryz.prog (binOp .eql t (.slice a l c) (.slice none 0 0)) w= .ok (.bool a.isNone) w:=by
 simp only[binOp];simp[run_equal_slice_nil w t e a l c h]
theorem Yq:(Tryz.prog.info? 107).map (fun i=>(i.zero,i.size,i.bytes))=some (some (.agg #[.int .u8 0,.int .u8 0,.int .u8 0,.int .u8 0,.int .u8 0,.int .i64 0]),6,16):=by kernel_rfl
theorem Dm:(Tryz.prog.info? 2).map (fun i=>(i.zero,i.size,i.bytes))=some (some (.int .i64 0),1,8):=by kernel_rfl
theorem XN:(Tryz.prog.info? 127).map (fun i=>(i.zero,i.size,i.bytes))=some (some (.agg #[.int .i64 0,.int .u8 0,.int .i64 0,.int .i64 0]),4,32):=by kernel_rfl
theorem XZ (x:bR):∀u∈b_ x,u.oneCell'=true:=by
 intro u hu;simp[b_] at hu;rcases hu with rfl|rfl|rfl|rfl|rfl|rfl<;>rfl
theorem XJ (x:Ev):∀u∈mV x,u.oneCell'=true:=by
 intro u hu;simp[mV] at hu;rcases hu with rfl|rfl|rfl|rfl<;>rfl
theorem aan (x:Int):∀u∈encI x,u.oneCell'=true:=by
 intro u hu;simp[encI] at hu;rcases hu with rfl;rfl
theorem Dc {α:Type} {enc:α->List Value} (h:∀a,∀u∈enc a,u.oneCell'=true) (l:List α):∀u∈l.flatMap enc,u.oneCell'=true:=by
 intro u hu;obtain⟨a,_,ha⟩:=List.mem_flatMap.1 hu;exact h a u ha
theorem Rc (b off i:Nat):(⟨b,off,none⟩:Addr).add i=⟨b,off+i,none⟩:=by unfold Addr.add;split<;>simp_all
theorem IY {α:Type} {enc:α->List Value} {sz:Nat} {ad:Addr} {n cap:Nat} {l:List α} (h:dH enc w sz (.slice (some ad) n cap) l) (ob:Obj):∀j u,(l.flatMap enc)[j]? =some u->(w.alloc ob).cell? (ad.add j)=some u:=by
 obtain⟨h1,ao,cap',h2,h3,h4⟩:=h;simp only[Value.slice.injEq] at h2;obtain⟨e1,e2,e3⟩:=h2;intro j u hj;have hn:0<l.length:=by
  rcases Nat.eq_zero_or_pos l.length with e|e
  ·rw[List.length_eq_zero_iff.1 e] at hj;simp at hj
  ·exact e
 obtain⟨b,off,rfl,hb,hc⟩:=h4 hn;cases e1;rw[Rc];have:=hc j u hj;rw[World.cell?_of_block (w:=w) (heap_alloc_old w ob hb)];exact this
def wR {α:Type} (E:TypeId) (sz:Nat) (enc:α->List Value) (l:List α) (w:World) (r:Ending) (w':World):Prop:=
 ∃cv,r= .returned cv/\w'.ownsRow w.heap.size E sz cv l.length (l.flatMap enc)/\Below w.heap.size w w'
theorem Ir {ao:Option Addr} {cap:Nat} {l:List bR} (h:dH b_ w 6 (.slice ao l.length cap) l) (hl:l.length<=1000000000):
  Calls Tryz.prog 97 #[.slice ao l.length cap] w (wR 107 6 b_ l w):=by
 have H:=ag h;have HL:=ag hl;have hq:=fun w a l c=>GL Tryz.underlying57 w a l c
 clear h hl;cases ao with
 |none=>
  go_in;go_wp2_with fail;go_ret;obtain⟨h1,ao,cap',h2,h3,h4⟩:=H.out;have hn:l.length=0:=by
   rcases Nat.eq_zero_or_pos l.length with e|e
   ·exact e
   ·obtain⟨b,off,e1, -⟩:=h4 e;simp[e1] at h2
  rw[List.length_eq_zero_iff.1 hn];exact⟨_,rfl,World.ownsRow_nil _ _ _ _,au _ _⟩
 |some ad=>
  obtain⟨i0,hi,hz0,hz1,hz2⟩:=info_parts Yq;go_in;go_wp2_with (at_builtin;refine dD _ rfl _ _ 57 rfl w.heap.size 107 i0 _ 6 16 Tryz.underlying57 hi hz0 hz1 hz2 rfl (by decide) (.slice (some ⟨w.heap.size,0,none⟩) 0 0) 0 [] rfl ⟨by simp,.inr ⟨w.heap.size,0,#[],rfl,aB _,heap_alloc_new _ _,aB _,Nat.zero_le _,by simp,by simp⟩⟩ ad l.length cap (l.flatMap b_) rfl (jD dX l) (IY H.out _) (Dc XZ l) (by have:=HL.out;unfold maxLen;omega) (by have:=HL.out;omega) (by simp) ?_);intro MX cp w1 hown jh eU;have HO:=ag hown;have HB:=ag (((au w.heap.size w).alloc (aB _) _).grown eU (by simp) (fun k hk=>by simp only[Value.ownBlock,bH] at hk;omega));clear hown jh eU hi hz0 hz1 hz2 hq;go_wp2_with fail;go_ret;exact⟨_,rfl,HO.out,HB.out⟩
theorem Fq {ao:Option Addr} {cap:Nat} {l:List Int} (h:dH encI w 1 (.slice ao l.length cap) l) (hl:l.length<=1000000000):
  Calls Tryz.prog 107 #[.slice ao l.length cap] w (wR 2 1 encI l w):=by
 have H:=ag h;have HL:=ag hl;have hq:=fun w a l c=>GL Tryz.underlying51 w a l c
 clear h hl;cases ao with
 |none=>
  go_in;go_wp2_with fail;go_ret;obtain⟨h1,ao,cap',h2,h3,h4⟩:=H.out;have hn:l.length=0:=by
   rcases Nat.eq_zero_or_pos l.length with e|e
   ·exact e
   ·obtain⟨b,off,e1, -⟩:=h4 e;simp[e1] at h2
  rw[List.length_eq_zero_iff.1 hn];exact⟨_,rfl,World.ownsRow_nil _ _ _ _,au _ _⟩
 |some ad=>
  obtain⟨i0,hi,hz0,hz1,hz2⟩:=info_parts Dm;go_in;go_wp2_with (at_builtin;refine dD _ rfl _ _ 51 rfl w.heap.size 2 i0 _ 1 8 Tryz.underlying51 hi hz0 hz1 hz2 rfl (by decide) (.slice (some ⟨w.heap.size,0,none⟩) 0 0) 0 [] rfl ⟨by simp,.inr ⟨w.heap.size,0,#[],rfl,aB _,heap_alloc_new _ _,aB _,Nat.zero_le _,by simp,by simp⟩⟩ ad l.length cap (l.flatMap encI) rfl (jD ko l) (IY H.out _) (Dc aan l) (by have:=HL.out;unfold maxLen;omega) (by have:=HL.out;omega) (by simp) ?_);intro MX cp w1 hown jh eU;have HO:=ag hown;have HB:=ag (((au w.heap.size w).alloc (aB _) _).grown eU (by simp) (fun k hk=>by simp only[Value.ownBlock,bH] at hk;omega));clear hown jh eU hi hz0 hz1 hz2 hq;go_wp2_with fail;go_ret;exact⟨_,rfl,HO.out,HB.out⟩
theorem GY {ao:Option Addr} {cap:Nat} {l:List Ev} (h:dH mV w 4 (.slice ao l.length cap) l) (hl:l.length<=1000000000):
  Calls Tryz.prog 108 #[.slice ao l.length cap] w (wR 127 4 mV l w):=by
 have H:=ag h;have HL:=ag hl;have hq:=fun w a l c=>GL Tryz.underlying53 w a l c
 clear h hl;cases ao with
 |none=>
  go_in;go_wp2_with fail;go_ret;obtain⟨h1,ao,cap',h2,h3,h4⟩:=H.out;have hn:l.length=0:=by
   rcases Nat.eq_zero_or_pos l.length with e|e
   ·exact e
   ·obtain⟨b,off,e1, -⟩:=h4 e;simp[e1] at h2
  rw[List.length_eq_zero_iff.1 hn];exact⟨_,rfl,World.ownsRow_nil _ _ _ _,au _ _⟩
 |some ad=>
  obtain⟨i0,hi,hz0,hz1,hz2⟩:=info_parts XN;go_in;go_wp2_with (at_builtin;refine dD _ rfl _ _ 53 rfl w.heap.size 127 i0 _ 4 32 Tryz.underlying53 hi hz0 hz1 hz2 rfl (by decide) (.slice (some ⟨w.heap.size,0,none⟩) 0 0) 0 [] rfl ⟨by simp,.inr ⟨w.heap.size,0,#[],rfl,aB _,heap_alloc_new _ _,aB _,Nat.zero_le _,by simp,by simp⟩⟩ ad l.length cap (l.flatMap mV) rfl (jD Re l) (IY H.out _) (Dc XJ l) (by have:=HL.out;unfold maxLen;omega) (by have:=HL.out;omega) (by simp) ?_);intro MX cp w1 hown jh eU;have HO:=ag hown;have HB:=ag (((au w.heap.size w).alloc (aB _) _).grown eU (by simp) (fun k hk=>by simp only[Value.ownBlock,bH] at hk;omega));clear hown jh eU hi hz0 hz1 hz2 hq;go_wp2_with fail;go_ret;exact⟨_,rfl,HO.out,HB.out⟩
end
section
variable {w w':World} {base b:Nat} {own own':Nat->Nat} {mm:MM} {xs:List TX} {mv tv ev:Value}
theorem Yy:(Tryz.prog.info? 184).map (fun i=>(i.zero,i.size,i.bytes))=some (some (.agg #[.slice none 0 0,.int .i64 0,.int .i64 0,.int .i64 0,.int .i64 0,.int .i64 0,.int .i64 0,.int .i64 0,.int .i64 0,.int .i64 0,.pointer none,.slice none 0 0,.int .u8 0]),13,136):=by kernel_rfl
theorem aer (w:World):Calls Tryz.prog 98 #[] w fun e w'=>∃rb c f,e= .returned (.pointer (some ⟨rb,0,none⟩))/\Ring w' rb [] c f/\Below w.heap.size w w'/\w.heap.size<=rb:=by
 refine(XC w).mono ?_;rintro e w' ⟨rfl,rfl⟩;exact⟨_,_,_,rfl,U3 _,(au _ _).alloc (aB _) _,aB _⟩
theorem Pf {ao:Option Addr} {cap:Nat} {l:List bR} (h:dH b_ w 6 (.slice ao l.length cap) l) (hl:l.length<=1000000000):
  Calls Tryz.prog 97 #[.slice ao l.length cap] w fun e w'=>∃MX cp,e= .returned (.slice MX l.length cp)/\dH b_ w' 6 (.slice MX l.length cp) l/\(∀g,(Value.slice MX l.length cp).ownBlock=some g->w.heap.size<=g)/\Below w.heap.size w w':=by
 refine(Ir h hl).mono ?_;rintro e w' ⟨cv,rfl,ho,hb⟩;obtain⟨MX,cp,rfl⟩:=aS ho;exact⟨_,_,rfl,Rd.gu ho,fun g hg=>(bO ho hg).1,hb⟩
theorem GD {e:TypeId} {sz n:Nat} {v:Value} {l:List Value} (h:w.ownsRow base e sz v n l) (hb:Below w.heap.size w w'):w'.ownsRow base e sz v n l:=aP h fun g hg hl=>hb.block g hl
theorem J6 (code:List bR) (ao:Option Addr) (n cp rb:Nat):∀u∈uE (Dl code (.slice ao n cp) rb),u.oneCell'=true:=by
 intro u hu;simp[uE,Dl] at hu;rcases hu with rfl|rfl|rfl|rfl|rfl|rfl|rfl|rfl|rfl|rfl|rfl|rfl|rfl<;>rfl
structure Ready (w:World) (x:World) (code:List bR) (cv:Value) (rb:Nat):Prop where
 rd:dH b_ x 6 cv code
 ring:∃c f,Ring x rb [] c f
 below:Below w.heap.size w x
 fresh:∀g,code≠[]->cv.ownBlock=some g->w.heap.size<=g/\g≠rb/\g<x.heap.size
 LY:w.heap.size<=rb
theorem Ready.tX {w a x:World} {code:List bR} {cv:Value} {rb f:Nat} {c:Array Value} (hs:w.heap.size<=a.heap.size) (hcv:dH b_ a 6 cv code) (hfr:∀g,cv.ownBlock=some g->w.heap.size<=g) (hb:Below a.heap.size a x) (hr:Ring x rb [] c f) (hge:a.heap.size<=rb) (hbx:Below w.heap.size w x):Ready w x code cv rb:=
 ⟨Rd.below hcv hb,⟨c,f,hr⟩,hbx,fun g hn hg=>⟨hfr g hg,by have:=EI hcv hn hg;omega,by have:=EI hcv hn hg;have:=hb.size;omega⟩,by omega⟩
theorem Ready.uF {w a x:World} {code:List bR} {cv:Value} {rb f:Nat} {c:Array Value} (hr:Ring a rb [] c f) (hge:w.heap.size<=rb) (hs:w.heap.size<=a.heap.size) (hcv:dH b_ x 6 cv code) (hfr:∀g,cv.ownBlock=some g->a.heap.size<=g) (hb:Below a.heap.size a x) (hbx:Below w.heap.size w x):Ready w x code cv rb:=
 ⟨hcv,⟨c,f,hr.keep (hb.block _ hr.lt)⟩,hbx,fun g hn hg=>⟨by have:=hfr g hg;omega,by have:=hfr g hg;have:=hr.lt;omega,EI hcv hn hg⟩,hge⟩
theorem fJ.pushed (h:fJ w base b own mm xs mv tv ev) {x w9:World} {code:List bR} {ao Jm:Option Addr} {n cp Nf rb:Nat} {o:Obj} (hr:Ready w x code (.slice ao n cp) rb)
  (h1:w9.ownsRow base 184 13 (.slice Jm (xs.length+1) Nf) (xs.length+1) (xs.flatMap uE++uE (Dl code (.slice ao n cp) rb)))
  (h2:∀g,(Value.slice Jm (xs.length+1) Nf).ownBlock=some g->tv.ownBlock=some g\/(x.alloc o).heap.size<=g) (h3:(x.alloc o).grownBy w9 tv.ownBlock):
  fJ (w9.setCell ⟨b,2,none⟩ (.slice Jm (xs.length+1) Nf)) base b (yg own (.slice Jm (xs.length+1) Nf) (.slice ao n cp) code rb xs.length w.heap.size) {mm with aT:=mm.aT++[MT.new code]} (xs++[Dl code (.slice ao n cp) rb]) mv (.slice Jm (xs.length+1) Nf) ev/\
   bz (fun k=>k=b\/tv.ownBlock=some k) w (w9.setCell ⟨b,2,none⟩ (.slice Jm (xs.length+1) Nf)):=by
 have hsx:=hr.below.size;have hxs:(x.alloc o).heap.size=x.heap.size+1:=World.size_alloc _ _;have hg0:bz (fun k=>tv.ownBlock=some k) w w9:=bz.grown (S:=fun k=>tv.ownBlock=some k) ((bz.of_below hr.below).alloc o) h3 (fun k hk=>.inl hk);have hgx:bz (fun k=>tv.ownBlock=some k) x w9:=bz.grown (S:=fun k=>tv.ownBlock=some k) ((bz.refl _ x).alloc o) h3 (fun k hk=>.inl hk);obtain⟨c,f,hring⟩:=hr.ring;have htl:∀g,tv.ownBlock=some g->g<w.heap.size:=fun g hg=>(bO h.aT hg).2
 refine⟨h.push hg0 (hr.rd.zN fun g hn hg hl=>hgx.block g hl (fun e=>?_)) (fun g hn hg=>(hr.fresh g hn hg).1) (hring.keep (hgx.block _ hring.lt (fun e=>?_))) hr.LY ?_ (fun g hg=>?_) (fun g hn hg=>⟨(hr.fresh g hn hg).2.1,fun e=>?_⟩) (fun e=>?_),?_⟩
 ·have:=htl g e;have:=(hr.fresh g hn hg).1;omega
 ·have:=htl _ e;have:=hr.LY;omega
 ·rw[List.flatMap_append];simpa using h1
 ·rcases h2 g hg with e|e
  ·exact .inl e
  ·exact .inr (by omega)
 ·have h5:=hr.fresh g hn hg;rcases h2 g e with e'|e'
  ·have:=htl g e';omega
  ·omega
 ·have h5:=hring.lt;have h6:=hr.LY;rcases h2 _ e with e'|e'
  ·have:=htl _ e';omega
  ·omega
 ·exact(hg0.imp (T:=fun k=>k=b\/tv.ownBlock=some k) (fun k _ e=>.inr e)).setCell (p:=⟨b,2,none⟩) (.inl (.inl rfl)) _
end
section
variable {w w':World}
def iW (cs:List (Int×Int)) (m:List Int):List Int:=cs.foldl (fun m c=>m.set c.1.toNat c.2) m
def gF (mem:Int) (codes:List (List bR)) (cs:List (Int×Int)):MM:=⟨iW cs (List.replicate mem.toNat 0),codes.map MT.new,[]⟩
def dS (B mb:Nat) (k:Nat):Nat:=if k=B then 1 else if k=mb then 2 else 0
theorem fJ.start {w3:World} {base B mb mn:Nat} (hB:w3.heap[B]? =some (.cells #[.bool true,.slice (some ⟨mb,0,none⟩) mn mn,.slice none 0 0,.slice none 0 0] 179 (0,0)))
  (hm:w3.heap[mb]? =some (.cells (List.replicate mn (encI 0)).flatten.toArray 2 (0,0))) (hne:mb≠B) (h1:base<=B) (h2:base<=mb) (hmn:mn<=262144):
  fJ w3 base B (dS B mb) ⟨List.replicate mn 0,[],[]⟩ [] (.slice (some ⟨mb,0,none⟩) mn mn) (.slice none 0 0) (.slice none 0 0):=by
 have e1:(List.replicate mn (encI 0)).flatten=(List.replicate mn (0:Int)).flatMap encI:=by simp[List.flatMap]
 have e2:((List.replicate mn (0:Int)).flatMap encI).length=mn:=by rw[jD ko];simp
 have hrow:w3.ownsRow base 2 1 (.slice (some ⟨mb,0,none⟩) mn mn) mn ((List.replicate mn (0:Int)).flatMap encI):=by
  refine⟨by rw[e2,Nat.mul_one],.inr ⟨mb,mn,_,rfl,h2,hm,aB _,by unfold maxLen;omega,?_,?_⟩⟩
  ·rw[e1];simp only[List.size_toArray];rw[e2,Nat.mul_one]
  ·rw[e1,List.toList_toArray,List.take_of_length_le (by rw[e2];simp)]
 have hown:dS B mb B=1:=by unfold dS;rw[if_pos rfl]
 have hlen:(List.replicate mn (0:Int)).length=mn:=by simp
 refine⟨hB,⟨h1,hown⟩,by rw[hlen];exact hrow,fun g hg=>?_,World.ownsRow_nil _ _ _ _,(fun g hg=>by cases hg),World.ownsRow_nil _ _ _ _,(fun g hg=>by cases hg),rfl,(fun i x hx=>by simp at hx),fun k hk=>?_⟩
 ·simp only[Value.ownBlock,bH] at hg;subst hg;unfold dS;rw[if_neg hne,if_pos rfl]
 ·have l1:=lt_of_block hB;have l2:=lt_of_block hm;unfold dS;rw[if_neg (by omega),if_neg (by omega)]
theorem rR (cs:List (Int×Int)):∀m,(iW cs m).length=m.length:=by
 induction cs with
 |nil=>exact fun m=>rfl
 |cons c r ih=>intro m;show(iW r (m.set c.1.toNat c.2)).length=_;rw[ih];simp
theorem F3 {cs:List (Int×Int)} {k:Nat} {c:Int×Int} (h:cs[k]? =some c) (m:List Int):iW (cs.take (k+1)) m=(iW (cs.take k) m).set c.1.toNat c.2:=by
 unfold iW;rw[List.take_add_one,h,List.foldl_append];rfl
theorem Dh {mem:Int}:∀{cs:List (Int×Int)} {last:Int}, -1<=last->jH mem last cs=true->∀c∈cs,0<=c.1/\c.1<mem:=by
 intro cs;induction cs with
 |nil=>exact fun _ _ c hc=>absurd hc (by simp)
 |cons d r ih=>
  intro last hl h c hc;simp only[jH,Bool.and_eq_true,decide_eq_true_eq] at h;rcases List.mem_cons.1 hc with rfl|e
  ·omega
  ·exact ih (last:=d.1) (by omega) h.2 c e
theorem Ed {own:Nat->Nat} {p:Nat} (h3:own p=3) (h1:own p=1):False:=by rw[h3] at h1;cases h1
def YR (mem:Int) (l:List (Value×List bR)) (cs:List (Int×Int)) (w:World) (r:Ending) (w':World):Prop:=
 ∃b own xs mv tv,r= .returned (.tuple #[.pointer (some ⟨b,0,none⟩),.int .i64 0])/\fJ w' w.heap.size b own (gF mem (l.map (·.2)) cs) xs mv tv (.slice none 0 0)/\Below w.heap.size w w'
theorem u_ {mem:Int} {l:List (Value×List bR)} {cs:List (Int×Int)} (h:cB mem l cs=0):1<=mem/\mem<=262144:=by
 unfold cB at h;split at h
 ·cases h
 split at h
 ·cases h
 rename_i h1 h2;omega
theorem qK {mem:Int} {l:List (Value×List bR)} {cs:List (Int×Int)} (h:cB mem l cs=0):l.length<=4/\f_ l<=262144:=by
 unfold cB at h;split at h
 ·cases h
 rename_i h1;omega
theorem qF {mem:Int} {l:List (Value×List bR)} {cs:List (Int×Int)} (h:cB mem l cs=0):(∀p∈l,p.2.all dR=true)/\jH mem (-1) cs=true:=by
 unfold cB at h;split at h
 ·cases h
 split at h
 ·cases h
 split at h
 ·cases h
 split at h
 ·cases h
 rename_i h3 h4;exact⟨List.all_eq_true.1 (by simpa using h3),by simpa using h4⟩
theorem YY {ca oL:Option Addr} {fo h_:Nat} {l:List (Value×List bR)} {cs:List (Int×Int)} (h:mX w (.slice ca l.length fo) l) (hc:dH dQ w 2 (.slice oL cs.length h_) cs) (mem:Int) (hl:l.length<=6000000000000) (hcl:cs.length<=9000000000000) (hk:cB mem l cs=0):
  Calls Tryz.prog 60 #[.agg #[.slice ca l.length fo,.int .i64 mem,.slice oL cs.length h_]] w (YR mem l cs w):=by
 have hb0:Below w.heap.size w (w.alloc (.cells #[.slice ca l.length fo,.int .i64 mem,.slice oL cs.length h_] 30)):=(au _ _).alloc (aB _) _;have gQ:=aj w (.cells #[.slice ca l.length fo,.int .i64 mem,.slice oL cs.length h_] 30);have H0:=ag (h.below hb0);have CY:=ag (Rd.below hc hb0);have HB:=ag hb0;have HC:=ag hc;have H:=ag h;have HL:=ag hl;have Cb:=ag hcl;have HE:=ag hk;have vP:=ag gQ;clear h hc hl hcl hb0 hk gQ;go_in;go_wp2_with fail;refine(NB H0.out CY.out mem HL.out Cb.out).mono ?_;rintro e w1 ⟨rfl,hb1⟩;rw[HE.out];have Dg:=(hb1.block w.heap.size (by simp)).trans vP.out;have d0:=af (o:=0) Dg rfl;have d1:=af (o:=1) Dg rfl;have d2:=af (o:=2) Dg rfl;have H1:=ag (H0.out.below hb1);have Ls:=ag (Rd.below CY.out hb1);have HB1:=ag (HB.out.trans (hb1.mono HB.out.size));clear hb1 Dg HB H0 CY vP;have hmem:=u_ HE.out;obtain⟨mn,rfl⟩:=Int.eq_ofNat_of_zero_le (show 0<=mem by omega);have zP:=ag hmem;obtain⟨i0,hi,hz0,hz1,hz2⟩:=info_parts Dm;clear hmem;go_wp2_with (at_make;refine nA _ rfl _ _ 51 rfl 2 i0 _ 1 (encI 0) Tryz.underlying51 hi hz0 hz1 rfl rfl (by decide) _ _ _ _ mn mn rfl rfl rfl rfl ?b0 ?b1 ?b2 ?_)
 case b0=>exact aB _
 case b1=>have:=zP.out;rw[hz2];omega
 case b2=>have:=zP.out;unfold maxLen;omega
 intro w2 hblk hsz2 hb2;have hB3:=heap_alloc_new w2 (.cells #[.bool true,.slice (some ⟨w1.heap.size,0,none⟩) mn mn,.slice none 0 0,.slice none 0 0] 179);have yB:=(heap_alloc_old w2 (.cells #[.bool true,.slice (some ⟨w1.heap.size,0,none⟩) mn mn,.slice none 0 0,.slice none 0 0] 179) (show w1.heap.size<w2.heap.size by omega)).trans hblk;have hb3:Below w1.heap.size w1 (w2.alloc (.cells #[.bool true,.slice (some ⟨w1.heap.size,0,none⟩) mn mn,.slice none 0 0,.slice none 0 0] 179)):=hb2.alloc hb2.size _;have q0:=(World.cell?_of_block (hb3.block _ (dW _ _ d0))).trans d0;have q2:=(World.cell?_of_block (hb3.block _ (dW _ _ d2))).trans d2;have ZX:=ag (fJ.start (base:=w.heap.size) hB3 yB (by omega) (by have:=HB1.out.size;omega) HB1.out.size (by have:=zP.out;omega));have H3:=ag (H1.out.below hb3);have LD:=ag (Rd.below Ls.out hb3);have HB3:=ag (HB1.out.trans (hb3.mono HB1.out.size));have hw1:w.heap.size+1<=w1.heap.size:=dW _ _ d0;have YA:=dW _ _ q0;have UT:=ag hsz2;clear hblk hsz2 hb2 hB3 yB hb3 hi hz0 hz1 hz2 d0 d1 d2 H1 Ls HB1;go_wp2_with fail;generalize(w2.alloc (Obj.cells #[.bool true,.slice (some ⟨w1.heap.size,0,none⟩) mn mn,.slice none 0 0,.slice none 0 0] 179))=w3 at ZX q0 q2 H3 LD HB3 YA⊢;have hnb:w.heap.size≠w1.heap.size:=by omega
 have Ub:=ag hnb;have HW1:=ag hw1;have Lt:=ag (show fJ w3 w.heap.size w2.heap.size (dS w2.heap.size w1.heap.size) ⟨iW (cs.take 0) (List.replicate mn 0),[],[]⟩ [] (.slice (some ⟨w1.heap.size,0,none⟩) (iW (cs.take 0) (List.replicate mn 0)).length mn) (.slice none 0 0) (.slice none 0 0) from by
  have e:(iW (cs.take 0) (List.replicate mn 0)).length=mn:=by rw[rR];simp
  rw[e];exact ZX.out)
 clear ZX hnb hw1;go_loopw [23] (fun i w'=>∃k:Nat,k<=cs.length/\i= .int .i64 (k:Int)/\Hid (fJ w' w.heap.size w2.heap.size (dS w2.heap.size w1.heap.size) ⟨iW (cs.take k) (List.replicate mn 0),[],[]⟩ [] (.slice (some ⟨w1.heap.size,0,none⟩) (iW (cs.take k) (List.replicate mn 0)).length mn) (.slice none 0 0) (.slice none 0 0)/\bz (fun k=>k=w1.heap.size) w3 w')) (fun i _=>((cs.length:Int) - intOf i).toNat)
 case atStart=>exact⟨0,by omega,rfl,⟨Lt.out,bz.refl _ _⟩⟩
 case round=>
  obtain⟨k,hk,rfl,HR⟩:=hrel;have hlen:(iW (cs.take k) (List.replicate mn 0)).length=mn:=by rw[rR];simp
  by_cases hlt:k<cs.length
  ·have hp:=eO hlt;generalize cs[k]=c at hp;have hst:=F3 hp (List.replicate mn 0);have hcb:=Dh (by omega) (qF HE.out).2 c (bC hp);obtain⟨can,cv⟩:=c;obtain⟨an,rfl⟩:=Int.eq_ofNat_of_zero_le hcb.1;have hwr:Below w.heap.size w wr:=bz.below HB3.out (Nat.le_of_lt YA) HR.out.2 (fun k e=>by rw[e];have:=HW1.out;omega);obtain⟨gb,co,e1,hgb,hcc⟩:=dH.at iM (Rd.below HC.out hwr) hp;have i0:=hcc 0 _ rfl;have i1:=hcc 1 _ rfl;rw[Nat.add_zero] at i0;subst e1;clear hcc hgb hp;obtain⟨w5,L8⟩:∃w5,w5=wr.alloc (.cells #[.int .i64 (an:Int),.int .i64 cv] 99):=⟨_,rfl⟩;have hb5:Below wr.heap.size wr w5:=L8 ▸ ((au _ _).alloc (aB _) _);have h5:=HR.out.1.below hb5;have V4:an<(iW (cs.take k) (List.replicate mn 0)).length:=by rw[hlen];omega
   have c1:=h5.iN 1 _ rfl;have cM:=h5.Be V4;have fM:=h5.C_ (by show 0<(iW (cs.take k) (List.replicate mn 0)).length;omega) an;have k0:w5.cell? ⟨wr.heap.size,0,none⟩=some (.int .i64 (an:Int)):=by rw[L8];exact af (heap_alloc_new _ _) rfl
   have k1:w5.cell? ⟨wr.heap.size,1,none⟩=some (.int .i64 cv):=by rw[L8];exact af (heap_alloc_new _ _) rfl
   have hb6:wr.heap.size<w5.heap.size:=by rw[L8];simp
   have ajF:(an:Int)<(mn:Int):=by omega
   rw[hlen] at c1;have H5:=ag h5;have Xv:=ag (HR.out.2.trans (bz.of_below hb5));have NH:=ag L8;have HST:=ag hst;have hkc:(k:Int)<9000000000000:=by have:=Cb.out;omega
   clear h5 hb5 HR hwr hst hcb;go_wp2_with fail;rw[<-NH.out];clear NH L8;go_still_tail 8,(by kernel_rfl)
   go_wp2_with fail;have h6:=H5.out.drew.word V4 cv;refine⟨⟨k+1,by omega,by go_num,⟨?_,(Xv.out.drew).setCell (p:=⟨w1.heap.size,an,none⟩) (.inl rfl) _⟩⟩,by simp[intOf];omega⟩;rw[HST.out];simp only[Int.toNat_natCast,List.length_set];exact h6
  ·obtain rfl:k=cs.length:=by omega
   rw[List.take_length] at HR;have q0r:=(World.cell?_of_block (HR.out.2.block _ (dW _ _ q0) Ub.out)).trans q0;have hwr:Below w.heap.size w wr:=bz.below HB3.out (Nat.le_of_lt YA) HR.out.2 (fun k e=>by rw[e];have:=HW1.out;omega);have uK:=ag hwr;have aiR:w.heap.size<wr.heap.size:=dW _ _ q0r;have h4:l.length<=4:=(qK HE.out).1;clear q0 q2 hwr H3 LD HB3 Lt YA;go_wp2_with fail;clear hlen;go_loopw [40] (fun i w'=>∃k:Nat,k<=l.length/\i= .int .i64 (k:Int)/\Hid (∃own xs tv,fJ w' w.heap.size w2.heap.size own ⟨iW cs (List.replicate mn 0),((l.take k).map (·.2)).map MT.new,[]⟩ xs (.slice (some ⟨w1.heap.size,0,none⟩) (iW cs (List.replicate mn 0)).length mn) tv (.slice none 0 0)/\Below w.heap.size w w'/\w'.cell? ⟨w.heap.size,0,none⟩=some (.slice ca l.length fo)/\own w.heap.size=0)) (fun i _=>((l.length:Int) - intOf i).toNat)
   case atStart=>exact⟨0,by omega,rfl,⟨_,_,_,HR.out.1,uK.out,q0r,by unfold dS;rw[if_neg (by have:=UT.out;have:=HW1.out;omega),if_neg Ub.out]⟩⟩
   case round=>
    obtain⟨k,hk,rfl,HR2⟩:=hrel;obtain⟨own,xs,tv,hm,hbw,hq,ho0⟩:=HR2.out;clear HR2;by_cases hlt:k<l.length
    ·have hp:=eO hlt;generalize l[k]=p at hp;have hmp:=bC hp;obtain⟨gb,co,e1,hgb,hcc⟩:=dH.at uw (H.out.below hbw).rows hp;have i0:=hcc 0 _ rfl;obtain⟨ao,cap,hcv⟩:=(H.out.each p hmp).shape;have hrow:=(H.out.below hbw).each p hmp;rw[hcv] at hrow;rw[Nat.mul_one,Nat.add_zero,hcv] at i0;have hle:p.2.length<=1000000000:=by have:=uU (qK HE.out).2 p hmp;omega
     have c2:=hm.iN 2 _ rfl;have Lr:=ag hm;have A7:=ag hrow;have WS:=ag hle;have HP:=ag hp;have Pn:=ag hbw;have HQ:=ag hq;have LM:=ag ho0;subst e1;clear hcc hcv hgb hrow hmp hp hm hbw hq hle ho0;go_wp2_with fail;have c2d:wr.drew.cell? ⟨w2.heap.size,2,none⟩=some tv:=c2;obtain⟨i0,hi,hz0,hz1,hz2⟩:=info_parts Yy;have hxl:xs.length<=4:=by have:=Lr.out.same;have h2:=congrArg List.length this;simp at h2;omega
     have ajY:w.heap.size<=wr.heap.size:=Pn.out.size
     go_region_law (first|(go_simp;go_at_call 97;(first|refine(Pf (Rd.below A7.out (pQ.out)) WS.out).mono ?_|refine(Pf (w:=wr.drew) A7.out WS.out).mono ?_);rintro e6 w6 ⟨X_,UW,rfl,hcv,hfr,hb6⟩;(first|have x8:=ag (pQ.out.trans (hb6.mono pQ.out.size))|have x8:=ag (show Below wr.heap.size wr w6 from(au wr.heap.size wr).drew.trans hb6));have c6:=(World.cell?_of_block (x8.out.block _ (dW _ _ c2))).trans c2;have c6a:=fun o=>nS c6 o;have Lv:=ag hcv;have Jd:=ag hfr;have Un:=ag hb6;clear hcv hfr hb6;dsimp only)|(go_simp;go_at_call 98;refine(aer _).mono ?_;rintro e7 w7 ⟨rb,c7,f7,rfl,hr7,CU,hge⟩;(first|have pQ:=ag (x8.out.trans (CU.mono x8.out.size))|have pQ:=ag (show Below wr.heap.size wr w7 from(au wr.heap.size wr).drew.trans CU));have c7:=(World.cell?_of_block (pQ.out.block _ (dW _ _ c2))).trans c2;have c7a:=fun o=>nS c7 o;have SB:=ag hr7;have SE:=ag hge;have Wq:=ag CU;clear hr7 CU hge;dsimp only)|(refine ji (by rfl) (.tmp 48) (.tmp 53) 177 (by rfl) w.heap.size 184 i0 _ 13 136 Tryz.underlying177 hi hz0 hz1 hz2 rfl (by decide) tv xs.length (xs.flatMap uE) (by simp[Act.eval]) (by exact GD Lr.out.aT ((Ready.tX (w:=wr) x8.out.size Lv.out (fun g hg=>Jd.out g hg) Wq.out SB.out SE.out pQ.out).below.alloc (Ready.tX (w:=wr) x8.out.size Lv.out (fun g hg=>Jd.out g hg) Wq.out SB.out SE.out pQ.out).below.size _)) ⟨w7.heap.size,0,none⟩ 1 1 (by decide) (uE (Dl p.2 (.slice X_ p.2.length UW) rb)) (by simp[Act.eval]) rfl (by exact iP (aj w7 _)) (J6 _ _ _ _ _) (by unfold maxLen;omega) (by omega) (by have:=(Ready.tX (w:=wr) x8.out.size Lv.out (fun g hg=>Jd.out g hg) Wq.out SB.out SE.out pQ.out).below.size;show w.heap.size<=(w7.alloc _).heap.size;rw[World.size_alloc];omega) ?_;intro Jm Nf w9 h1 h2 h3;have pX:=ag (Lr.out.pushed (Ready.tX (w:=wr) x8.out.size Lv.out (fun g hg=>Jd.out g hg) Wq.out SB.out SE.out pQ.out) h1 h2 h3);have tH:=dG (bz.grown (S:=fun k=>tv.ownBlock=some k) ((bz.of_below (Ready.tX (w:=wr) x8.out.size Lv.out (fun g hg=>Jd.out g hg) Wq.out SB.out SE.out pQ.out).below).alloc _) h3 (fun k hk=>.inl hk)) Lr.out.blk (fun hk=>Ed (Lr.out.fK _ hk) Lr.out.bT.2);have s1:=af (o:=2) tH rfl;have s2:=ah (o:=2) tH;have yh:=ag tH;clear h1 h2 h3 tH)|(refine ji (by rfl) (.tmp 48) (.tmp 53) 177 (by rfl) w.heap.size 184 i0 _ 13 136 Tryz.underlying177 hi hz0 hz1 hz2 rfl (by decide) tv xs.length (xs.flatMap uE) (by simp[Act.eval]) (by exact GD Lr.out.aT ((Ready.uF (w:=wr) SB.out SE.out pQ.out.size Lv.out Jd.out Un.out x8.out).below.alloc (Ready.uF (w:=wr) SB.out SE.out pQ.out.size Lv.out Jd.out Un.out x8.out).below.size _)) ⟨w6.heap.size,0,none⟩ 1 1 (by decide) (uE (Dl p.2 (.slice X_ p.2.length UW) rb)) (by simp[Act.eval]) rfl (by exact iP (aj w6 _)) (J6 _ _ _ _ _) (by unfold maxLen;omega) (by omega) (by have:=(Ready.uF (w:=wr) SB.out SE.out pQ.out.size Lv.out Jd.out Un.out x8.out).below.size;show w.heap.size<=(w6.alloc _).heap.size;rw[World.size_alloc];omega) ?_;intro Jm Nf w9 h1 h2 h3;have pX:=ag (Lr.out.pushed (Ready.uF (w:=wr) SB.out SE.out pQ.out.size Lv.out Jd.out Un.out x8.out) h1 h2 h3);have tH:=dG (bz.grown (S:=fun k=>tv.ownBlock=some k) ((bz.of_below (Ready.uF (w:=wr) SB.out SE.out pQ.out.size Lv.out Jd.out Un.out x8.out).below).alloc _) h3 (fun k hk=>.inl hk)) Lr.out.blk (fun hk=>Ed (Lr.out.fK _ hk) Lr.out.bT.2);have s1:=af (o:=2) tH rfl;have s2:=ah (o:=2) tH;have yh:=ag tH;clear h1 h2 h3 tH))
     all_goals go_wp2_with fail
     all_goals (
      have hB:w.heap.size<w2.heap.size:=by have:=UT.out;have:=HW1.out;omega
      have Wu:∀g,tv.ownBlock=some g->w.heap.size<=g/\g≠w.heap.size:=fun g hg=>⟨(bO Lr.out.aT hg).1,fun e=>by have h1:=Lr.out.fK g hg;rw[e,LM.out] at h1;cases h1⟩
      refine⟨⟨k+1,by omega,by go_num,⟨yg own (.slice Jm (xs.length+1) Nf) (.slice X_ p.2.length UW) p.2 rb xs.length wr.heap.size,xs++[Dl p.2 (.slice X_ p.2.length UW) rb],.slice Jm (xs.length+1) Nf,?_,bz.below Pn.out Pn.out.size pX.out.2 (fun g hg=>?_),?_,?_⟩⟩,by simp[intOf];omega⟩
      ·have h9:=pX.out.1;rw[List.take_add_one,HP.out];simpa using h9
      ·rcases hg with rfl|hg
       ·omega
       ·exact(Wu g hg).1
      ·refine(World.cell?_of_block (pX.out.2.block _ (dW _ _ HQ.out) (fun e=>?_))).trans HQ.out;rcases e with e|e
       ·simp only at e;omega
       ·exact(Wu _ e).2 rfl
      ·rw[Gj (dW _ _ HQ.out)];exact LM.out)
    ·obtain rfl:k=l.length:=by omega
     go_wp2_with fail
     go_ret2
     rw[List.take_length] at hm;exact⟨_,_,_,_,_,rfl,hm,hbw⟩
end
section
variable {w w':World} {base b:Nat} {own own':Nat->Nat} {mm:MM} {xs:List TX} {mv tv ev:Value}
def Gone (w:World) (p:Value):Prop:=p= .pointer none\/∃b,p= .pointer (some ⟨b,0,none⟩)/\w.heap[b]? =some (.cells #[.bool false,.slice none 0 0,.slice none 0 0,.slice none 0 0] 179 (0,0))
theorem Gone.below {p:Value} (h:Gone w p) (hb:Below w.heap.size w w'):Gone w' p:=by
 rcases h with rfl|⟨b,rfl,h⟩
 ·exact .inl rfl
 ·exact .inr ⟨b,rfl,(hb.block b (lt_of_block h)).trans h⟩
end
section
variable {w w':World} {base b:Nat} {own own':Nat->Nat} {mm:MM} {xs:List TX} {mv tv ev:Value}
structure SX where
 v:Value
 out:List Int
 fin:Int
def encS (s:SX):List Value:=[s.v,.int .u8 s.fin]
theorem zm:∀s,(encS s).length=2:=fun _=>rfl
structure Bb (w:World) (v:Value) (ls:List SX):Prop where
 rows:dH encS w 2 v ls
 each:∀s∈ls,dH encI w 1 s.v s.out
theorem abL:(Tryz.prog.info? 81).map (fun i=>(i.zero,i.size,i.bytes))=some (some (.agg #[.slice none 0 0,.int .u8 0]),2,32):=by kernel_rfl
theorem UF (A R:List Value) (a0 a1 x0 x1:Value) (i:Nat) (hi:A.length=i):(((A++a0::a1::R).toArray.setIfInBounds i x0).setIfInBounds (i+1) x1)=(A++x0::x1::R).toArray:=by
 subst hi;simp[List.setIfInBounds_toArray,List.set_append]
theorem DF {a g k j:Nat} {u:Value} (hne:a≠g) (h:w.cell? ⟨a,j,none⟩=some u) (x y:Value):((w.setCell ⟨g,k*2,none⟩ x).setCell ⟨g,k*2+1,none⟩ y).cell? ⟨a,j,none⟩=some u:=by
 rw[World.cell?_of_block (w:=w) ((dm _ _ _ _ hne).trans (dm _ _ _ _ hne))];exact h
end
section
variable {w w':World} {base b:Nat} {own own':Nat->Nat} {mm:MM} {xs:List TX} {mv tv ev:Value}
def Oi (own:Nat->Nat) (base:Nat) (k:Nat):Nat:=if k<base then 0 else own k
theorem uT {k:Nat} (h:base<=k):Oi own base k=own k:=if_neg (by omega)
theorem fJ.low (h:fJ w base b own mm xs mv tv ev):fJ w base b (Oi own base) mm xs mv tv ev:=
 ⟨h.blk,⟨h.bT.1,by rw[uT h.bT.1];exact h.bT.2⟩,h.mem,fun g hg=>by rw[uT (bO h.mem hg).1];exact h.memT g hg,h.aT,fun g hg=>by rw[uT (bO h.aT hg).1];exact h.fK g hg,
  h.evs,fun g hg=>by rw[uT (bO h.evs hg).1];exact h.j6 g hg,h.same,fun i x hx=>by
   have ht:=h.th i x hx;exact⟨ht.code,fun g hn hg=>⟨(ht.mg g hn hg).1,by rw[uT (ht.mg g hn hg).1];exact(ht.mg g hn hg).2⟩,ht.ring,⟨ht.qD.1,by rw[uT ht.qD.1];exact ht.qD.2⟩,ht.out,fun g hg=>by rw[uT (bO ht.out hg).1];exact ht.outT g hg⟩,
  fun k hk=>by unfold Oi;split<;>first|rfl|exact h.fresh k hk⟩
def tQ (w:World) (base b:Nat) (mm:MM) (N:Nat):Prop:=
 ∃own xs mv tv ev,fJ w base b own mm xs mv tv ev/\(∀k,own k≠0->base<=k)/\qz N mm
theorem tQ.of {N:Nat} (h:fJ w base b own mm xs mv tv ev) (hk:qz N mm):tQ w base b mm N:=
 ⟨_,_,_,_,_,h.low,fun k hn=>by
  rcases Nat.lt_or_ge k base with e|e
  ·exact absurd (if_pos e) hn
  ·exact e,hk⟩
theorem tQ.below {N:Nat} (h:tQ w base b mm N) (hb:Below w.heap.size w w'):tQ w' base b mm N:=by
 obtain⟨own,xs,mv,tv,ev,hm,hl,hk⟩:=h;exact⟨own,xs,mv,tv,ev,hm.below hb,hl,hk⟩
theorem tQ.goes {N':Nat} {j5:MM} (hm:fJ w base b own mm xs mv tv ev) (hl:∀k,own k≠0->base<=k) (hg:ow w base b own j5 w') (hk:qz N' j5):tQ w' base b j5 N'/\Below base w w':=by
 obtain⟨⟨own',xs',mv',tv',ev',h',ho⟩,hc⟩:=hg;refine⟨⟨own',xs',mv',tv',ev',h',fun k hn=>?_,hk⟩,hc.iL hm.fQ (fun k e=>hl k e.1)⟩;by_cases e:k<w.heap.size
 ·exact hl k (by rw[<-ho k e];exact hn)
 ·have:=hm.fQ;omega
theorem Hz {v:Value} {mem:Int} {l:List (Value×List bR)} {cs:List (Int×Int)} (h:mX w v l) (hk:cB mem l cs=0):qz 0 (gF mem (l.map (·.2)) cs):=by
 have h1:=u_ hk;have h2:=qK hk;have h3:=qF hk;have hlen:(gF mem (l.map (·.2)) cs).mem.length=mem.toNat:=by
  show(iW cs (List.replicate mem.toNat 0)).length=_;rw[rR];simp
 refine⟨by rw[hlen];omega,by simp only[gF,List.length_map];omega,aB _,fun t ht=>?_⟩;simp only[gF,List.map_map,List.mem_map,Function.comp] at ht;obtain⟨p,hp,rfl⟩:=ht;refine⟨by have:=uU h2.2 p hp;simpa [MT.new] using this,fun o ho=>?_,fun c hc=>by simp[MT.new] at hc,by simp[MT.new],by simp[MT.new],by simp[MT.new]⟩;exact xU.of (List.all_eq_true.1 (h3.1 p hp) o ho) (h.wf p hp o ho)
end
section
variable {w w':World} {base b:Nat}
instance (o:bR):Decidable (Fj o):=by unfold Fj;exact inferInstance
end
section
variable {w w':World} {base b:Nat} {own own':Nat->Nat} {mm:MM} {xs:List TX} {mv tv ev:Value}
structure Fx where
 b:Nat
 own:Nat->Nat
 mm:MM
 N:Nat
def Hot (own:Nat->Nat) (k:Nat):Prop:=own k≠0/\¬(5<=own k/\own k%3=2)
def Fx.lies (w:World) (base:Nat) (m:Fx):Prop:=(∃xs mv tv ev,fJ w base m.b m.own m.mm xs mv tv ev)/\qz m.N m.mm
structure wS (w:World) (base:Nat) (l:List Fx):Prop where
 each:∀m∈l,m.lies w base
 apart:∀(i j:Nat) m n,i≠j->l[i]? =some m->l[j]? =some n->∀k,n.own k≠0->¬Hot m.own k
 low:∀m∈l,∀k,m.own k≠0->base<=k
 here:base<=w.heap.size
theorem fJ.xx {base0:Nat} (h:fJ w base b own mm xs mv tv ev) (hb:base0<=base):fJ w base0 b own mm xs mv tv ev:=
 ⟨h.blk,⟨Nat.le_trans hb h.bT.1,h.bT.2⟩,bY h.mem hb,h.memT,bY h.aT hb,h.fK,bY h.evs hb,h.j6,h.same,fun i x hx=>by
  have ht:=h.th i x hx;exact⟨ht.code,fun g hn hg=>⟨Nat.le_trans hb (ht.mg g hn hg).1,(ht.mg g hn hg).2⟩,ht.ring,⟨Nat.le_trans hb ht.qD.1,ht.qD.2⟩,bY ht.out hb,ht.outT⟩,h.fresh⟩
theorem wS.none (w:World) {base:Nat} (hb:base<=w.heap.size):wS w base []:=⟨fun m hm=>absurd hm (by simp),fun i j m n _ hi=>by simp at hi,fun m hm=>absurd hm (by simp),hb⟩
theorem wS.below {l:List Fx} (h:wS w base l) (hb:Below w.heap.size w w'):wS w' base l:=
 ⟨fun m hm=>by
  obtain⟨⟨xs,mv,tv,ev,h1⟩,h2⟩:=h.each m hm;exact⟨⟨xs,mv,tv,ev,h1.below hb⟩,h2⟩,h.apart,h.low,Nat.le_trans h.here hb.size⟩
def Sn (w w':World) (base:Nat) (n:Fx):Prop:=n.lies w' base/\∀k,w.heap.size<=k->n.own k=0
theorem wS.goes {l:List Fx} (h:wS w base l) {i:Nat} {m:Fx} (hi:l[i]? =some m) {j5:MM} {N':Nat} (hg:ow w base m.b m.own j5 w') (hk:qz N' j5):(∃own',wS w' base (l.set i ⟨m.b,own',j5,N'⟩))/\Below base w w':=by
 obtain⟨⟨own',xs',mv',tv',ev',h',ho⟩,hc⟩:=hg;have hm:=bC hi;obtain⟨⟨xs,mv,tv,ev,h1⟩, -⟩:=h.each m hm;have hlt:=(bu.1 hi).1;have hlow':∀k,own' k≠0->base<=k:=fun k hn=>by
  by_cases e:k<w.heap.size
  ·exact h.low m hm k (by rw[<-ho k e];exact hn)
  ·have:=h.here;omega
 have hold:∀(j:Nat) n,l[j]? =some n->j≠i->Sn w w' base n:=fun j n hj hne=>by
  obtain⟨⟨xs2,mv2,tv2,Jv,h2⟩,hk2⟩:=h.each n (bC hj);exact⟨⟨⟨xs2,mv2,tv2,Jv,h2.Ja hc (fun k hn=>h.apart i j m n (Ne.symm hne) hi hj k hn)⟩,hk2⟩,fun k hk=>h2.fresh k hk⟩
 have hget:∀(j:Nat) n,(l.set i ⟨m.b,own',j5,N'⟩)[j]? =some n->(j=i/\n=⟨m.b,own',j5,N'⟩)\/(j≠i/\l[j]? =some n):=fun j n hj=>by
  by_cases e:i=j
  ·subst e;rw[List.getElem?_set_self hlt] at hj;exact .inl ⟨rfl,(Option.some.inj hj).symm⟩
  ·rw[List.getElem?_set_ne e] at hj;exact .inr ⟨fun q=>e q.symm,hj⟩
 refine⟨⟨own',fun n hn=>?_,fun j1 j2 n1 n2 hne h1' h2' k hk'=>?_,fun n hn k hk'=>?_,Nat.le_trans h.here hc.size⟩,hc.iL h.here (fun k e=>h.low m hm k e.1)⟩
 ·obtain⟨j,hj⟩:=List.getElem?_of_mem hn;rcases hget j n hj with⟨rfl,rfl⟩|⟨hne,hj'⟩
  ·exact⟨⟨xs',mv',tv',ev',h'⟩,hk⟩
  ·exact(hold j n hj' hne).1
 ·rcases hget j1 n1 h1' with⟨rfl,rfl⟩|⟨hne1,hj1⟩
  ·rcases hget j2 n2 h2' with⟨rfl, -⟩|⟨hne2,hj2⟩
   ·exact absurd rfl hne
   ·by_cases e:k<w.heap.size
    ·have:=h.apart j1 j2 m n2 hne hi hj2 k hk';unfold Hot at this⊢;rw[show(Fx.own ⟨m.b,own',j5,N'⟩) k=m.own k from ho k e];exact this
    ·exact absurd ((hold j2 n2 hj2 hne2).2 k (by omega)) hk'
  ·rcases hget j2 n2 h2' with⟨rfl,rfl⟩|⟨hne2,hj2⟩
   ·by_cases e:k<w.heap.size
    ·exact h.apart j1 j2 n1 m hne hj1 hi k (by rw[<-ho k e];exact hk')
    ·intro hh;exact hh.1 ((hold j1 n1 hj1 hne1).2 k (by omega))
   ·exact h.apart j1 j2 n1 n2 hne hj1 hj2 k hk'
 ·obtain⟨j,hj⟩:=List.getElem?_of_mem hn;rcases hget j n hj with⟨rfl,rfl⟩|⟨hne,hj'⟩
  ·exact hlow' k hk'
  ·exact h.low n (bC hj') k hk'
theorem wS.more {l:List Fx} (h:wS w base l) (hb:Below w.heap.size w w') {mm:MM} {N:Nat} (hm:fJ w' w.heap.size b own mm xs mv tv ev) (hk:qz N mm):∃own',wS w' base (l++[⟨b,own',mm,N⟩]):=by
 have h1:=h.below hb;have h2:=hm.low.xx h.here;have hn:∀k,Oi own w.heap.size k≠0->w.heap.size<=k:=fun k hn=>by
  rcases Nat.lt_or_ge k w.heap.size with e|e
  ·exact absurd (if_pos e) hn
  ·exact e
 have hf:∀n∈l,∀k,w.heap.size<=k->n.own k=0:=fun n hn k hk=>by
  obtain⟨⟨xs2,mv2,tv2,Jv,h3⟩, -⟩:=h.each n hn;exact h3.fresh k hk
 have hget:∀(j:Nat) n,(l++[(⟨b,Oi own w.heap.size,mm,N⟩:Fx)])[j]? =some n->(j<l.length/\l[j]? =some n)\/(j=l.length/\n=⟨b,Oi own w.heap.size,mm,N⟩):=fun j n hj=>by
  rcases Nat.lt_or_ge j l.length with e|e
  ·rw[List.getElem?_append_left e] at hj;exact .inl ⟨e,hj⟩
  ·rw[List.getElem?_append_right e] at hj;have hl:=(bu.1 hj).1;simp only[List.length_singleton] at hl;have:j - l.length=0:=by omega
   rw[this] at hj;simp at hj;exact .inr ⟨by omega,hj.symm⟩
 refine⟨Oi own w.heap.size,fun n hn'=>?_,fun j1 j2 n1 n2 hne hj1 hj2 k hk'=>?_,fun n hn' k hk'=>?_,Nat.le_trans h.here hb.size⟩
 ·rcases List.mem_append.1 hn' with e|e
  ·exact h1.each n e
  ·rw[List.mem_singleton.1 e];exact⟨⟨xs,mv,tv,ev,h2⟩,hk⟩
 ·rcases hget j1 n1 hj1 with⟨l1,e1⟩|⟨l1,rfl⟩
  ·rcases hget j2 n2 hj2 with⟨l2,e2⟩|⟨l2,rfl⟩
   ·exact h.apart j1 j2 n1 n2 hne e1 e2 k hk'
   ·exact fun hh=>hh.1 (hf n1 (bC e1) k (hn k hk'))
  ·rcases hget j2 n2 hj2 with⟨l2,e2⟩|⟨l2,rfl⟩
   ·refine fun hh=>?_
    have:=hn k hh.1;exact hk' (hf n2 (bC e2) k this)
   ·omega
 ·rcases List.mem_append.1 hn' with e|e
  ·exact h.low n e k hk'
  ·rw[List.mem_singleton.1 e] at hk';have:=hn k hk';have:=h.here;omega
end
section
variable {w w':World} {base b:Nat} {own own':Nat->Nat} {mm:MM} {xs:List TX} {mv tv ev:Value}
theorem Ot (h:fJ w base b own mm xs mv tv ev) (hl:mm.evs.length<=1000000000):
  Calls Tryz.prog 69 #[.pointer (some ⟨b,0,none⟩)] w (wR 127 4 mV mm.evs w):=by
 obtain⟨ao,cp,rfl⟩:=aS h.evs;have c3:=h.iN 3 _ rfl;have HR:=ag (Rd.gu h.evs);have HL:=ag hl;clear h hl;go_in;go_wp2_with fail;refine(GY HR.out HL.out).mono ?_;rintro e w1 ⟨cv,rfl,ho,hb⟩;have HO:=ag ho;have HB:=ag hb;clear ho hb;go_wp2_with fail;go_ret;exact⟨_,rfl,HO.out,HB.out⟩
end
theorem wB {w:World} {ao bo:Option Addr} {ca cb:Nat} {l:List Int} (ha:dH encI w 1 (.slice ao l.length ca) l) (hb:dH encI w 1 (.slice bo l.length cb) l) (hm:l.length<=9223372036854775807):
  Calls Tryz.prog 25 #[.slice ao l.length ca,.slice bo l.length cb] w fun e w'=>e= .returned (.bool true)/\Below w.heap.size w w':=by
 have HA:=ag ha;have HB:=ag hb;clear ha hb;go_in;go_wp2;go_loopw [13] (fun i wr=>∃k n:Nat,k<=l.length/\i= .int .i64 k/\wr=w.drewN n) (fun i _=>l.length - (intOf i).toNat)
 case atStart=>exact⟨0,0,Nat.zero_le _,rfl,rfl⟩
 case round=>
  obtain⟨k,n,hk,rfl,rfl⟩:=hrel;by_cases hlt:k<l.length
  ·obtain⟨x,hx⟩:=bE hlt;obtain⟨b1,o1,rfl,hs1,hc1⟩:=HA.out.at ko hx;obtain⟨b2,o2,rfl,hs2,hc2⟩:=HB.out.at ko hx;have x0:=hc1 0 _ rfl;have y0:=hc2 0 _ rfl;simp only[Nat.add_zero,Nat.mul_one] at x0 y0;clear hc1 hc2 hx hs1 hs2;go_wp2_with fail;go_quiet (fail)
   go_wp2;exact⟨⟨k+1,_,by omega,by go_num,rfl⟩,by simp[intOf];omega⟩
  ·obtain rfl:k=l.length:=by omega
   go_wp2;go_ret;exact⟨rfl,below_drewN (au _ _) n⟩
end Go.Proofs.YtopdcjimpdalpaaGreat

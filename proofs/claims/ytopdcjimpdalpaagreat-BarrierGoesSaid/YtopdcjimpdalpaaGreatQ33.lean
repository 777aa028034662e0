import Derived.Test.YtopdcjimpdalpaaGreatQ30
import Derived.Test.YtopdcjimpdalpaaGreatQ31
import Derived.Test.YtopdcjimpdalpaaGreatQ32
import Derived.StillTailTactics
import Derived.Deep.RegionHeld3
import Derived.Laws.Rows
namespace Go.Proofs.YtopdcjimpdalpaaGreat
open Go.RowKit
set_option linter.all false
set_option maxHeartbeats 2000000
set_option maxRecDepth 100000
section
variable {w w':World} {base b:Nat} {own own':Nat->Nat} {mm:MM} {xs:List TX} {mv tv ev:Value}
theorem Gi {mm:MM} (h:mm.aM=xs.map TX.th):mm.aM.length=xs.length:=by rw[h];simp
theorem JU (h:eZ w base b own mm xs mv tv ev) {z:Int} (hz:mm.xq z=none):z<0\/(xs.length:Int)<=z:=by
 unfold MM.xq at hz;split at hz
 ·exact .inl ‹_›
 ·have:=List.getElem?_eq_none_iff.1 hz;rw[Gi h.same] at this;omega
theorem Hy (h:eZ w base b own mm xs mv tv ev) {z:Int} {t:MT} (hz:mm.xq z=some t):∃(n:Nat) (x:TX),z=(n:Int)/\xs[n]? =some x/\x.th=t:=by
 obtain⟨h0,h1⟩:=Gf hz;obtain⟨n,rfl⟩:=Int.eq_ofNat_of_zero_le h0;rw[Int.toNat_natCast,h.same,List.getElem?_map] at h1;cases hx:xs[n]? with
 |none=>rw[hx] at h1;cases h1
 |some x=>rw[hx] at h1;simp at h1;exact⟨n,x,rfl,hx,h1⟩
theorem K_ (h:eZ w base b own mm xs mv tv ev) {z:Int} (hz:z<0\/(xs.length:Int)<=z):
  Calls Tryz.prog 66 #[.pointer (some ⟨b,0,none⟩),.int .i64 z] w fun r w'=>r= .returned (.bool false)/\w'=w:=by
 have H:=ag h;clear h;go_in;go_wp2_with fail;refine(WQ H.out hz).mono ?_;rintro e w1 ⟨rfl,rfl⟩;go_wp2_with fail;go_ret;exact⟨rfl,rfl⟩
theorem Hl {tb cap n:Nat} {x:TX} (h:eZ w base b own mm xs mv (.slice (some ⟨tb,0,none⟩) xs.length cap) ev) (hx:xs[n]? =some x) (hw:x.th.wait=[]):
  Calls Tryz.prog 66 #[.pointer (some ⟨b,0,none⟩),.int .i64 (n:Int)] w fun r w'=>r= .returned (.bool false)/\Below w.heap.size w w':=by
 have e10:=h.cell hx 10 _ rfl;obtain⟨c,f,hr⟩:=(h.th n x hx).ring;rw[hw] at hr;have HR:=ag hr;have H:=ag h;have HX:=ag hx;clear h hx hr hw;go_in;go_wp2_with fail;refine(vK H.out HX.out).mono ?_;rintro e w1 ⟨rfl,rfl⟩;go_wp2_with fail;refine(Lv HR.out).mono ?_;rintro e w1 ⟨rfl,hb⟩;have HB:=ag hb;clear e10 hb HR;go_wp2_with fail;go_ret;exact⟨rfl,HB.out.alloc HB.out.size _⟩
theorem K6 {tb cap n mb mc:Nat} {x:TX} (h:eZ w base b own mm xs (.slice (some ⟨mb,0,none⟩) mm.mem.length mc) (.slice (some ⟨tb,0,none⟩) xs.length cap) ev) (hx:xs[n]? =some x) {a v:Int} {q:List (Int×Int)} (hw:x.th.wait=(a,v)::q) (ha:0<=a/\a<mm.mem.length):
  Calls Tryz.prog 66 #[.pointer (some ⟨b,0,none⟩),.int .i64 (n:Int)] w fun r w'=>r= .returned (.bool true)/\nA w base b own ({mm with mem:=mm.mem.set a.toNat v}.put n {x.th with wait:=q}) w':=by
 have e10:=h.cell hx 10 _ rfl;obtain⟨c,f,hr⟩:=(h.th n x hx).ring;rw[hw] at hr;have HR:=ag hr;have H:=ag h;have HX:=ag hx;obtain⟨an,rfl⟩:=Int.eq_ofNat_of_zero_le ha.1;have TN:an<mm.mem.length:=by omega
 clear h hx hr hw;go_in;go_wp2_with fail;refine(vK H.out HX.out).mono ?_;rintro e w1x ⟨rfl,rfl⟩;go_wp2_with fail;refine(NP HR.out).mono ?_;rintro e w1 ⟨rfl,⟨c',f',hr⟩,hc⟩;obtain⟨w5,L9⟩:∃w5,w5=w1.alloc (.cells #[.int .i64 (an:Int),.int .i64 v] 99):=⟨_,rfl⟩;have hb5:Below w1.heap.size w1 w5:=L9 ▸ ((aQ _ _).alloc (aR _) _);have h2:=(H.out.Rc HX.out hc hr).below hb5;have c1:=h2.iA 1 _ rfl;have cM:=h2.yZ TN;have fM:=h2.Cv (by show 0<mm.mem.length;omega) an;have k0:w5.cell? ⟨w1.heap.size,0,none⟩=some (.int .i64 (an:Int)):=by rw[L9];exact af (heap_alloc_new _ _) rfl
 have k1:w5.cell? ⟨w1.heap.size,1,none⟩=some (.int .i64 v):=by rw[L9];exact af (heap_alloc_new _ _) rfl
 have hb6:w1.heap.size<=w5.heap.size:=hb5.size;have H2:=ag h2;have HC:=ag ((hc.trans (bH.of_below hb5)).imp (T:=fun k=>own k≠0/\¬(5<=own k/\own k%3=2)) (fun k _ e=>by rw[e,(H.out.th n x HX.out).pQ.2];omega));have Vo:=ag L9;clear hr hc h2 e10 HR hb5;simp only[MM.put] at c1 cM;go_wp2_with fail;rw[<-Vo.out];clear Vo L9;go_still_tail 8,(by kernel_rfl)
 go_wp2_with fail;go_ret;have h6:=H2.out.drew.word TN v;refine⟨rfl,⟨own,_,_,_,_,h6,fun _ _=>rfl⟩,(HC.out.drew).setCell (p:=⟨mb,an,none⟩) (.inl ?_) _⟩;show own mb≠0/\¬(5<=own mb/\own mb%3=2);rw[H.out.memT mb rfl];decide
theorem O9 {N:Nat} (h:eZ w base b own mm xs mv tv ev) (hk:pV N mm) (z:Int):
  Calls Tryz.prog 66 #[.pointer (some ⟨b,0,none⟩),.int .i64 z] w fun r w'=>r= .returned (.bool (mm.flush z).1)/\nA w base b own (mm.flush z).2 w':=by
 cases ht:mm.xq z with
 |none=>
  refine(K_ h (JU h ht)).mono ?_;rintro r w' ⟨rfl,rfl⟩;have e:mm.flush z=(false,mm):=by unfold MM.flush;rw[ht]
  rw[e];exact⟨rfl,nA.same h (aQ _ _)⟩
 |some t=>
  obtain⟨n,x,rfl,hx,rfl⟩:=Hy h ht;obtain⟨tb,cap,rfl, -⟩:=h.xE hx;have hth:=hk.th _ (bA (h.AU hx));obtain⟨mb,mc,rfl, -⟩:=h.nZ (by have:=hk.mem;omega);cases hw:x.th.wait with
  |nil=>
   have e:mm.flush (n:Int)=(false,mm):=by unfold MM.flush;rw[ht];simp[hw]
   rw[e];refine(Hl h hx hw).mono ?_;rintro r w' ⟨rfl,hb⟩;exact⟨rfl,nA.same h hb⟩
  |cons c q=>
   have e:mm.flush (n:Int)=(true,{mm with mem:=mm.mem.set c.1.toNat c.2}.put n {x.th with wait:=q}):=by unfold MM.flush;rw[ht];simp[hw]
   rw[e];exact K6 h hx hw (hth.wait c (by rw[hw];exact List.mem_cons_self))
end
section
variable {w w':World} {base b:Nat} {own own':Nat->Nat} {mm:MM} {xs:List TX} {mv tv ev:Value}
theorem Rk {N:Nat} (h:eZ w base b own mm xs mv tv ev) (hk:pV N mm) (hN:N<1000000000) (z:Int):
  Calls Tryz.prog 63 #[.pointer (some ⟨b,0,none⟩),.int .i64 z] w fun r w'=>r= .returned (.bool (mm.step z).1)/\nA w base b own (mm.step z).2 w':=by
 cases ht:mm.xq z with
 |none=>
  refine(OG h (JU h ht)).mono ?_;rintro r w' ⟨rfl,hb⟩;have e:mm.step z=(false,mm):=by unfold MM.step;rw[ht]
  rw[e];exact⟨rfl,nA.same h hb⟩
 |some t=>
  obtain⟨n,x,rfl,hx,rfl⟩:=Hy h ht;obtain⟨tb,cap,rfl, -⟩:=h.xE hx;have hm:=bA (h.AU hx);have hth:=hk.th _ hm;by_cases hf:x.th.fin=0
  ·have e:mm.step (n:Int)=mm.go n x.th:=by unfold MM.step;rw[ht];simp[hf]
   rw[e];have hev:mm.evs.length<1000000000:=Nat.lt_of_le_of_lt hk.evs hN;have h4:xs.length<=4:=by rw[<-Gi h.same];exact hk.four
   by_cases hat:x.th.at_<0\/x.th.code.length<=x.th.at_
   ·exact TU h hx hf hat hev h4
   ·have ac_:=hth.at_;have hlt:x.th.at_.toNat<x.th.code.length:=by omega
    have ho:=dZ hlt;have hok:=hth.ops _ (List.getElem_mem hlt);have hol:=Nat.lt_of_le_of_lt hth.out hN;generalize x.th.code[x.th.at_.toNat]=o at ho hok;by_cases hmo:∃a,x.th.word o=some a/\mm.has a=false
    ·exact QG h hx hk.mem.2 hf hth.at_ ho hok hol hmo hev h4
    ·cases hwt:x.th.waits o with
     |true=>exact KN h hx hk.mem.2 hf hth.at_ ho hok hol hmo hwt hev h4
     |false=>
      cases hst:x.th.stops o with
      |none=>exact NT h hx hk.mem.2 hf hth.at_ ho hok hol hmo hwt hst hev h4
      |some k=>exact P9 h hx hk.mem.2 hf hth.at_ ho hok hol hmo hwt ⟨k,hst⟩ hev h4
  ·have e:mm.step (n:Int)=(false,mm):=by unfold MM.step;rw[ht];simp[hf]
   rw[e];refine(Ux h hx hf).mono ?_;rintro r w' ⟨rfl,hb⟩;exact⟨rfl,nA.same h hb⟩
end
section
variable {w w':World}
theorem Rn (w:World) (b:Bool):Sem.run Tryz.prog (binOp .neq 31 (rz b) (.int .i64 0)) w= .ok (.bool (!b)) w:=by
 cases b<;>kernel_rfl
theorem Vy (w:World) (o:bM) (hw:DT o):Calls Tryz.prog 139 #[.agg (bR o).toArray] w fun e w'=>e= .returned (.bool (!dJ o))/\Below w.heap.size w w':=by
 obtain⟨kind,bn,a,b,c,n⟩:=o;have HW:=ag hw;clear hw;unfold bR;have hq:=Rn;have GJ:=ag ((aQ w.heap.size w).alloc (aR _) (.cells #[.int .u8 kind,.int .u8 bn,.int .u8 a,.int .u8 b,.int .u8 c,.int .i64 n] 107));go_in;go_wp2_with fail;refine(P7 _ _ HW.out).mono ?_;rintro e w1 ⟨rfl,hb⟩;have HB:=ag hb;clear hb hq;cases hc:dJ ⟨kind,bn,a,b,c,n⟩ with
 |true=>
  rw[show rz true= .int .i64 0 from rfl];have HC:=ag hc;clear hc;go_wp2_with fail;go_ret;exact⟨by rw[HC.out];rfl,GJ.out.trans (HB.out.mono GJ.out.size)⟩
 |false=>
  rw[show rz false= .int .i64 1 from rfl];have HC:=ag hc;clear hc;go_wp2_with fail;go_ret;exact⟨by rw[HC.out];rfl,GJ.out.trans (HB.out.mono GJ.out.size)⟩
theorem OE {ao:Option Addr} {cap:Nat} {l:List bM} (h:fI bR w 6 (.slice ao l.length cap) l) (hl:l.length<=262144) (hw:∀o∈l,DT o):
  Calls Tryz.prog 166 #[.slice ao l.length cap,.func (.func 139) #[] #[]] w fun e w'=>(∃z:Int,e= .returned (.int .i64 z)/\(0<=z↔∃o∈l,dJ o=false))/\Below w.heap.size w w':=by
 have H:=ag h;have HL:=ag hl;have X0:=ag hw;clear h hl hw;go_in;go_wp2_with fail;go_loopw [8] (fun i w'=>∃k:Nat,k<=l.length/\i= .int .i64 (k:Int)/\Hid (Below w.heap.size w w'/\∀j (o:bM),j<k->l[j]? =some o->dJ o=true)) (fun i _=>((l.length:Int) - intOf i).toNat)
 case atStart=>exact⟨0,by omega,rfl,⟨aQ _ _,fun j o hj=>absurd hj (by omega)⟩⟩
 case round=>
  obtain⟨k,hk,rfl,HR⟩:=hrel;by_cases hlt:k<l.length
  ·have ho:=dZ hlt;obtain⟨cb,co,rfl,hcb,hcc⟩:=fI.at dL (H.out.below HR.out.1) ho;generalize ho':l[k]=o at ho hcc;have hwo:=X0.out o (bA ho);obtain⟨ki,bn,ra,rb,rc,num⟩:=o;have i0:=hcc 0 _ rfl;have i1:=hcc 1 _ rfl;have i2:=hcc 2 _ rfl;have i3:=hcc 3 _ rfl;have i4:=hcc 4 _ rfl;have i5:=hcc 5 _ rfl;rw[Nat.add_zero] at i0;have HO:=ag ho;have HWO:=ag hwo;clear ho ho' hwo hcc hcb;go_wp2_with fail;refine(Vy wr ⟨ki,bn,ra,rb,rc,num⟩ HWO.out).mono ?_;rintro e w2 ⟨rfl,hb2⟩;have HB2:=ag (HR.out.1.trans (hb2.mono HR.out.1.size));clear hb2 i0 i1 i2 i3 i4 i5;cases hc:dJ ⟨ki,bn,ra,rb,rc,num⟩ with
   |false=>
    have HC:=ag hc;clear hc;go_wp2_with fail;go_ret;exact⟨⟨_,rfl,⟨fun _=>⟨_,bA HO.out,HC.out⟩,fun _=>by omega⟩⟩,HB2.out⟩
   |true=>
    have HC:=ag hc;have hkl:k<262144:=Nat.lt_of_lt_of_le hlt HL.out;clear hc;go_wp2_with fail;refine⟨⟨k+1,by omega,by go_num,⟨HB2.out,fun j o hj ho=>?_⟩⟩,by simp[intOf];omega⟩;by_cases e:j=k
    ·subst e;rw[HO.out] at ho;cases ho;exact HC.out
    ·exact HR.out.2 j o (by omega) ho
  ·obtain rfl:k=l.length:=by omega
   go_wp2_with fail;go_ret;refine⟨⟨-1,rfl,⟨fun h=>absurd h (by decide),fun⟨o,ho,hc⟩=>?_⟩⟩,HR.out.1⟩;obtain⟨j,hj⟩:=List.getElem?_of_mem ho;rw[HR.out.2 j o (bE.1 hj).1 hj] at hc;cases hc
theorem FY {ao:Option Addr} {cap:Nat} {l:List bM} (h:fI bR w 6 (.slice ao l.length cap) l) (hl:l.length<=262144) (hw:∀o∈l,DT o):
  Calls Tryz.prog 138 #[.slice ao l.length cap,.func (.func 139) #[] #[]] w fun e w'=>e= .returned (.bool (!(l.all dJ)))/\Below w.heap.size w w':=by
 have H:=ag h;have HL:=ag hl;have X0:=ag hw;clear h hl hw;go_in;go_wp2_with fail;refine(OE H.out HL.out X0.out).mono ?_;rintro e w1 ⟨⟨z,rfl,hz⟩,hb⟩;have HZ:=ag hz;have HB:=ag hb;clear hz hb;by_cases h0:0<=z
 ·have hd:decide (0<=z)=true:=decide_eq_true h0;go_wp2_with fail;go_ret;refine⟨?_,HB.out⟩;obtain⟨o,ho,hc⟩:=HZ.out.1 h0;rw[show l.all dJ=false from by rw[List.all_eq_false];exact⟨o,ho,by simp[hc]⟩];rfl
 ·have hd:decide (0<=z)=false:=decide_eq_false h0;go_wp2_with fail;go_ret;refine⟨?_,HB.out⟩;rw[show l.all dJ=true from by
   rw[List.all_eq_true];intro o ho;cases hc:dJ o with
   |true=>rfl
   |false=>exact absurd (HZ.out.2 ⟨o,ho,hc⟩) (by omega)]
  rfl
end
section
variable {w w':World}
def Yq (p:Value×List bM):List Value:=[p.1]
theorem sW:∀p,(Yq p).length=1:=fun _=>rfl
structure pI (w:World) (v:Value) (l:List (Value×List bM)):Prop where
 rows:fI Yq w 1 v l
 each:∀p∈l,fI bR w 6 p.1 p.2
 wf:∀p∈l,∀o∈p.2,DT o
theorem pI.below {v:Value} {l:List (Value×List bM)} (h:pI w v l) (hb:Below w.heap.size w w'):pI w' v l:=⟨Rd.below h.rows hb,fun p hp=>Rd.below (h.each p hp) hb,h.wf⟩
def fC (l:List (Value×List bM)):Nat:=(l.map fun p=>min p.2.length 262145).sum
def jo (mem:Int):Int->List (Int×Int)->Bool
 |_,[]=>true
 |last,c::r=>decide (last<c.1/\c.1<mem) && jo mem c.1 r
def dB (mem:Int) (l:List (Value×List bM)) (cs:List (Int×Int)):Int:=
 if 262144<mem\/4<l.length\/262144<fC l then 3
 else if mem<1 then 1
 else if(l.all fun p=>p.2.all dJ)=false then 1
 else if jo mem (-1) cs=false then 1
 else 0
theorem Dx {l:List (Value×List bM)} {k:Nat} {p:Value×List bM} (h:l[k]? =some p):fC (l.take (k+1))=fC (l.take k)+min p.2.length 262145:=by
 unfold fC;rw[List.take_add_one,h];simp
theorem Uu (l:List (Value×List bM)):fC l<=l.length*262145:=by
 unfold fC;induction l with
 |nil=>simp
 |cons p r ih=>simp only[List.map_cons,List.sum_cons,List.length_cons];have:min p.2.length 262145<=262145:=Nat.min_le_right _ _;omega
theorem DW (l:List (Value×List bM)) (k:Nat):fC (l.take k)<=l.length*262145:=Nat.le_trans (Uu _) (Nat.mul_le_mul_right _ (by rw[List.length_take];exact Nat.min_le_right _ _))
theorem tZ {l:List (Value×List bM)} (h:fC l<=262144):∀p∈l,p.2.length<=262144:=by
 induction l with
 |nil=>exact fun p hp=>absurd hp (by simp)
 |cons q r ih=>
  unfold fC at h ih;simp only[List.map_cons,List.sum_cons] at h;intro p hp;rcases List.mem_cons.1 hp with rfl|e
  ·omega
  ·exact ih (by omega) p e
theorem nk {w:World} {a:Addr} {u:Value} (h:w.cell? a=some u) (o:Obj):(w.alloc o).cell? a=some u:=by
 rw[World.cell?_of_block (w:=w) (heap_alloc_old w o (dH w a h))];exact h
theorem Lj {ca ug:Option Addr} {iF jZ:Nat} {l:List (Value×List bM)} {cs:List (Int×Int)} (h:pI w (.slice ca l.length iF) l) (hc:fI iI w 2 (.slice ug cs.length jZ) cs) (mem:Int) (hl:l.length<=6000000000000) (hcl:cs.length<=9000000000000):
  Calls Tryz.prog 96 #[.agg #[.slice ca l.length iF,.int .i64 mem,.slice ug cs.length jZ]] w fun e w'=>e= .returned (.int .i64 (dB mem l cs))/\Below w.heap.size w w':=by
 have H:=ag h;have HC:=ag hc;have HL:=ag hl;have NA:=ag hcl;have hb0:Below w.heap.size w (w.alloc (Obj.cells #[.slice ca l.length iF,.int .i64 mem,.slice ug cs.length jZ] 30)):=(aQ _ _).alloc (aR _) _;have gy:=aX w (.cells #[.slice ca l.length iF,.int .i64 mem,.slice ug cs.length jZ] 30);have H0:=ag (h.below hb0);have GL:=ag (Rd.below hc hb0);have HB:=ag hb0;have hw0:w.heap.size<(w.alloc (Obj.cells #[.slice ca l.length iF,.int .i64 mem,.slice ug cs.length jZ] 30)).heap.size:=by simp
 have d0:=af (o:=0) gy rfl;have d1:=af (o:=1) gy rfl;have d2:=af (o:=2) gy rfl;have Zh:=ag gy;clear h hc hl hcl hb0 gy;go_in;go_wp2_with fail;generalize(w.alloc (Obj.cells #[.slice ca l.length iF,.int .i64 mem,.slice ug cs.length jZ] 30))=w0 at H0 GL HB hw0 d0 d1 d2 Zh⊢;go_loopw [3,14] (fun c i w'=>∃k:Nat,k<=l.length/\i= .int .i64 (k:Int)/\c= .int .i64 (fC (l.take k):Int)/\w'=w0) (fun c i _=>((l.length:Int) - intOf i).toNat)
 case atStart=>exact⟨0,by omega,rfl,by simp[fC],rfl⟩
 case round=>
  obtain⟨k,hk,rfl,rfl,rfl⟩:=hrel;by_cases hlt:k<l.length
  ·have hp:=dZ hlt;generalize l[k]=p at hp;obtain⟨cb,co,rfl,hcb,hcc⟩:=fI.at sW H0.out.rows hp;have i0:=hcc 0 _ rfl;obtain⟨ao,cap,hcv⟩:=(H0.out.each p (bA hp)).shape;have hst:=Dx hp;rw[Nat.mul_one,Nat.add_zero,hcv] at i0;have hct:=DW l k;have HST:=ag hst;clear hst;go_wp2_with fail;have hL:=HL.out;have hk1:wrap64 ((k:Int)+1)=((k+1:Nat):Int):=by unfold wrap64;omega
   have hc1:wrap64 ((fC (l.take k):Int)+if 262145<(p.2.length:Int) then 262145 else(p.2.length:Int))=((fC (l.take (k+1)):Nat):Int):=by
    rw[HST.out];unfold wrap64;split<;>omega
   refine⟨⟨k+1,by omega,by rw[hk1],by rw[hc1],trivial⟩,?_⟩;rw[hk1];simp only[intOf];omega
  ·obtain rfl:k=l.length:=by omega
   rw[List.take_length];by_cases hA:262144<mem\/4<l.length\/262144<fC l
   ·have HE:=ag (show dB mem l cs=3 from by unfold dB;rw[if_pos hA]);by_cases a1:262144<mem
    ·clear hA;go_wp2_with fail;go_ret;exact⟨by rw[HE.out];rfl,HB.out⟩
    ·by_cases a2:4<l.length
     ·have a2':(4:Int)<(l.length:Int):=by omega
      clear hA a2;go_wp2_with fail;go_ret;exact⟨by rw[HE.out];rfl,HB.out⟩
     ·have a2':¬(4:Int)<(l.length:Int):=by omega
      have a3':(262144:Int)<(fC l:Int):=by omega
      clear hA a2;go_wp2_with fail;go_ret;exact⟨by rw[HE.out];rfl,HB.out⟩
   ·have a1:¬262144<mem:=by omega
    have a2':¬(4:Int)<(l.length:Int):=by omega
    have a3':¬(262144:Int)<(fC l:Int):=by omega
    have HA:=ag hA;have h4:l.length<=4:=by omega
    have Ra:=ag (tZ (l:=l) (by omega));clear hA;by_cases hm:mem<1
    ·go_wp2_with fail;go_ret;refine⟨?_,HB.out⟩;rw[show dB mem l cs=1 from by unfold dB;rw[if_neg HA.out,if_pos hm]];rfl
    ·go_wp2_with fail;have HM:=ag hm;clear a1 a2' a3' hm;go_loopw [45] (fun i w'=>∃k:Nat,k<=l.length/\i= .int .i64 (k:Int)/\Hid (Below wr.heap.size wr w'/\∀j (p:Value×List bM),j<k->l[j]? =some p->p.2.all dJ=true)) (fun i _=>((l.length:Int) - intOf i).toNat)
     case atStart=>exact⟨0,by omega,rfl,⟨aQ _ _,fun j p hj=>absurd hj (by omega)⟩⟩
     case round=>
      obtain⟨k,hk,rfl,HR⟩:=hrel;by_cases hlt:k<l.length
      ·have hp:=dZ hlt;generalize l[k]=p at hp;have hmp:=bA hp;obtain⟨cb,co,e1,hcb,hcc⟩:=fI.at sW (H0.out.below HR.out.1).rows hp;have i0:=hcc 0 _ rfl;obtain⟨ao,cap,hcv⟩:=(H0.out.each p hmp).shape;rw[Nat.mul_one,Nat.add_zero,hcv] at i0;have hrow:=(H0.out.below HR.out.1).each p hmp;rw[hcv] at hrow;have Gx:=ag hrow;have Xe:=ag (Ra.out p hmp);have X0:=ag (H0.out.wf p hmp);have HP:=ag hp;subst e1;clear hcc hcv hcb hrow hmp hp;go_wp2_with fail;refine(FY Gx.out Xe.out X0.out).mono ?_;rintro e w2 ⟨rfl,hb2⟩;have HB2:=ag (HR.out.1.trans (hb2.mono HR.out.1.size));clear hb2 i0;cases hal:p.2.all dJ with
       |false=>
        have WZ:=ag hal;clear hal;go_wp2_with fail;go_ret;refine⟨?_,HB.out.trans (HB2.out.mono HB.out.size)⟩;rw[show dB mem l cs=1 from by
         unfold dB;rw[if_neg HA.out,if_neg (show ¬mem<1 from by have:=HM.out;omega),if_pos];rw[List.all_eq_false];exact⟨p,bA HP.out,by rw[WZ.out];decide⟩]
        rfl
       |true=>
        have WZ:=ag hal;clear hal;go_wp2_with fail;refine⟨⟨k+1,by omega,by go_num,⟨HB2.out,fun j q hj hq=>?_⟩⟩,by simp[intOf];omega⟩;by_cases e:j=k
        ·subst e;rw[HP.out] at hq;cases hq;exact WZ.out
        ·exact HR.out.2 j q (by omega) hq
      ·obtain rfl:k=l.length:=by omega
       have Df:=ag (show(l.all fun p=>p.2.all dJ)=true from by
        rw[List.all_eq_true];intro p hp;obtain⟨j,hj⟩:=List.getElem?_of_mem hp;exact HR.out.2 j p (bE.1 hj).1 hj)
       have hbr:=HR.out.1;have q0:=(World.cell?_of_block (hbr.block _ (dH _ _ d1))).trans d1;have q2:=(World.cell?_of_block (hbr.block _ (dH _ _ d2))).trans d2;have tK:=ag (HB.out.trans (hbr.mono HB.out.size));have J8:=ag (Rd.below GL.out hbr);clear d0 d1 d2 hbr HR H0 GL HB Zh;go_wp2_with fail;go_loopw [8,55] (fun lv i w'=>∃(k:Nat) (la:Int),k<=cs.length/\i= .int .i64 (k:Int)/\lv= .int .i64 la/\Hid (Below wr.heap.size wr w'/\jo mem (-1) cs=jo mem la (cs.drop k))) (fun lv i _=>((cs.length:Int) - intOf i).toNat)
       case atStart=>exact⟨0, -1,by omega,rfl,rfl,⟨aQ _ _,by simp⟩⟩
       case round=>
        obtain⟨k,la,hk,rfl,rfl,HR⟩:=hrel;by_cases hlt:k<cs.length
        ·have hp:=dZ hlt;have hdr:=List.drop_eq_getElem_cons hlt;generalize cs[k]=c at hp hdr;obtain⟨ca,cv⟩:=c;obtain⟨cb,co,e1,hcb,hcc⟩:=fI.at oD (Rd.below J8.out HR.out.1) hp;have i0:=hcc 0 _ rfl;have i1:=hcc 1 _ rfl;rw[Nat.add_zero] at i0;have hbr:=HR.out.1;have m1:=(World.cell?_of_block (hbr.block _ (dH _ _ q0))).trans q0;have m2:=fun o=>nk m1 o
         have HD:=ag (show jo mem (-1) cs=(decide (la<ca/\ca<mem) && jo mem ca (cs.drop (k+1))) from by rw[HR.out.2,hdr];rfl);have HB2:=ag hbr;have hkl:=NA.out;subst e1;clear hcc hcb hp hdr hbr HR;by_cases b1:ca<=la
         ·go_wp2_with fail;go_ret;refine⟨?_,tK.out.trans ((HB2.out.alloc HB2.out.size _).mono tK.out.size)⟩;rw[show dB mem l cs=1 from by
           unfold dB;rw[if_neg HA.out,if_neg (show ¬mem<1 from by have:=HM.out;omega),if_neg (by rw[Df.out];decide),if_pos];rw[HD.out,decide_eq_false (by omega)];rfl]
          rfl
         ·by_cases b2:mem<=ca
          ·go_wp2_with fail;go_ret;refine⟨?_,tK.out.trans ((HB2.out.alloc HB2.out.size _).mono tK.out.size)⟩;rw[show dB mem l cs=1 from by
            unfold dB;rw[if_neg HA.out,if_neg (show ¬mem<1 from by have:=HM.out;omega),if_neg (by rw[Df.out];decide),if_pos];rw[HD.out,decide_eq_false (by omega)];rfl]
           rfl
          ·have b1':la<ca:=by omega
           have b2':ca<mem:=by omega
           have agm:(k:Int)<9000000000000:=by omega
           clear hkl;go_wp2_with fail;refine⟨⟨k+1,ca,by omega,by go_num,rfl,⟨HB2.out.alloc HB2.out.size _,by rw[HD.out,decide_eq_true ⟨b1',b2'⟩];rfl⟩⟩,by simp[intOf];omega⟩
        ·obtain rfl:k=cs.length:=by omega
         go_wp2_with fail;go_ret;refine⟨?_,tK.out.trans (HR.out.1.mono tK.out.size)⟩;rw[show dB mem l cs=0 from by
          unfold dB;rw[if_neg HA.out,if_neg (show ¬mem<1 from by have:=HM.out;omega),if_neg (by rw[Df.out];decide),if_neg];rw[HR.out.2];simp[jo]]
         rfl
end
section
variable {w w':World} {base b:Nat} {own own':Nat->Nat} {mm:MM} {xs:List TX} {mv tv ev:Value}
def Dh (code:List bM) (cv:Value) (rb:Nat):TX:=⟨MT.new code,cv,rb,.slice none 0 0⟩
def xw (own:Nat->Nat) (tv' cv:Value) (code:List bM) (rb n m:Nat) (k:Nat):Nat:=
 if k<m then own k else if tv'.ownBlock=some k then 3 else if code≠[]/\cv.ownBlock=some k then 5+3*n else if k=rb then 6+3*n else 0
theorem EU {tv' cv:Value} {code:List bM} {rb n m k:Nat} (h:k<m):xw own tv' cv code rb n m k=own k:=if_pos h
theorem Cf {sz:Nat} {v:Value} {l:List bM} {g:Nat} (h:fI bR w sz v l) (hn:l≠[]) (hg:v.ownBlock=some g):g<w.heap.size:=by
 obtain⟨h1,ao,cap,h2,h3,h4⟩:=h;obtain⟨b,off,rfl,hb,_⟩:=h4 (List.length_pos_iff.2 hn);rw[h2] at hg;simp only[Value.ownBlock,bU] at hg;exact hg ▸ hb
theorem eZ.push (h:eZ w base b own mm xs mv tv ev) (hc:bH (fun k=>tv.ownBlock=some k) w w') {code:List bM} {cv tv':Value} {rb f:Nat} {c:Array Value}
  (hcode:fI bR w' 6 cv code) (hcn:∀g,code≠[]->cv.ownBlock=some g->w.heap.size<=g) (hring:Ring w' rb [] c f) (hrn:w.heap.size<=rb)
  (Uj:w'.ownsRow base 184 13 tv' (xs.length+1) ((xs++[Dh code cv rb]).flatMap sN)) (htn:∀g,tv'.ownBlock=some g->tv.ownBlock=some g\/w.heap.size<=g)
  (hd1:∀g,code≠[]->cv.ownBlock=some g->g≠rb/\tv'.ownBlock≠some g) (hd2:tv'.ownBlock≠some rb):
  eZ (w'.setCell ⟨b,2,none⟩ tv') base b (xw own tv' cv code rb xs.length w.heap.size) {mm with aM:=mm.aM++[MT.new code]} (xs++[Dh code cv rb]) mv tv' ev:=by
 have hbl:=h.lt;have hk:∀g,own g≠3->own g≠1->g<w.heap.size->(w'.setCell ⟨b,2,none⟩ tv').heap[g]? =w.heap[g]?:=fun g h3 h1 hl=>by
  rw[dO _ _ _ _ (fun e=>h1 (by rw[e];exact h.bT.2))];exact hc.block g hl fun e=>h3 (h.fo g e)
 have hk2:∀g,w.heap.size<=g->(w'.setCell ⟨b,2,none⟩ tv').heap[g]? =w'.heap[g]?:=fun g hl=>dO _ _ _ _ (fun e=>by simp only at e;omega)
 have hb1:=gV hc h.blk (fun hk=>by have h1:=h.fo _ hk;rw[h.bT.2] at h1;exact absurd h1 (by decide));have hset:=aK (o:=2) tv' hb1;have hsz:=hc.size;have hbs:=h.eX;have ho:∀k,k<w.heap.size->xw own tv' cv code rb xs.length w.heap.size k=own k:=fun k hk=>EU hk
 have hlen:(xs++[Dh code cv rb]).length=xs.length+1:=by simp
 have htb:∀g,tv'.ownBlock=some g->g≠b:=fun g hg e=>by
  rcases htn g hg with e'|e'
  ·have:=h.fo g e';rw[e,h.bT.2] at this;omega
  ·omega
 refine⟨hset,⟨h.bT.1,by rw[ho _ hbl];exact h.bT.2⟩,aP h.mem fun g hg hl=>hk g (by rw[h.memT g hg];omega) (by rw[h.memT g hg];omega) hl,fun g hg=>by rw[ho _ (cK h.mem hg).2];exact h.memT g hg,
  by rw[hlen];exact aP Uj fun g hg _=>dO _ _ _ _ (htb g hg),fun g hg=>?_,
  aP h.evs fun g hg hl=>hk g (by rw[h.jI g hg];omega) (by rw[h.jI g hg];omega) hl,fun g hg=>by rw[ho _ (cK h.evs hg).2];exact h.jI g hg,
  by simp[h.same,Dh],fun i x hx=>?_,fun k hk'=>?_⟩
 ·by_cases e:g<w.heap.size
  ·rw[ho _ e];rcases htn g hg with e'|e'
   ·exact h.fo g e'
   ·omega
  ·unfold xw;rw[if_neg e,if_pos hg]
 ·rcases Nat.lt_or_ge i xs.length with hi|hi
  ·rw[List.getElem?_append_left hi] at hx;exact(h.th i x hx).keep ho fun g hg hl=>hk g (by omega) (by omega) hl
  ·have hi':i=xs.length:=by have:=(bE.1 hx).1;rw[hlen] at this;omega
   subst hi';simp at hx;subst hx;refine⟨hcode.yN fun g hn hg _=>hk2 g (hcn g hn hg),fun g hn hg=>⟨by have:=hcn g hn hg;omega,?_⟩,⟨c,f,hring.keep (hk2 _ hrn)⟩,⟨by show base<=rb;omega,?_⟩,World.ownsRow_nil _ _ _ _,fun g hg=>by cases hg⟩
   ·have h1:=hcn g hn hg;have h2:=hd1 g hn hg;unfold xw;rw[if_neg (by omega),if_neg h2.2,if_pos ⟨hn,hg⟩]
   ·have h2:¬(code≠[]/\cv.ownBlock=some rb):=fun e=>(hd1 rb e.1 e.2).1 rfl
    show xw own tv' cv code rb xs.length w.heap.size rb=_;unfold xw;rw[if_neg (by omega),if_neg hd2,if_neg h2,if_pos rfl]
 ·rw[bG] at hk';unfold xw;rw[if_neg (by omega),if_neg (fun e=>by have:=(cK Uj e).2;omega),if_neg (fun e=>by have:=Cf hcode e.1 e.2;omega),if_neg (fun e=>by have:=hring.lt;omega)]
end
section
variable {w w':World}
theorem FD {t e:TypeId} (h:Tryz.prog.underlying t=some (.slice e)) (w:World) (a:Option Addr) (l c:Nat):Sem.run Tryz.prog (binOp .eql t (.slice a l c) (.slice none 0 0)) w= .ok (.bool a.isNone) w:=by
 simp only[binOp];simp[run_equal_slice_nil w t e a l c h]
theorem VI:(Tryz.prog.info? 107).map (fun i=>(i.zero,i.size,i.bytes))=some (some (.agg #[.int .u8 0,.int .u8 0,.int .u8 0,.int .u8 0,.int .u8 0,.int .i64 0]),6,16):=by kernel_rfl
theorem BL:(Tryz.prog.info? 2).map (fun i=>(i.zero,i.size,i.bytes))=some (some (.int .i64 0),1,8):=by kernel_rfl
theorem VT:(Tryz.prog.info? 127).map (fun i=>(i.zero,i.size,i.bytes))=some (some (.agg #[.int .i64 0,.int .u8 0,.int .i64 0,.int .i64 0]),4,32):=by kernel_rfl
theorem Wn (x:bM):∀u∈bR x,u.oneCell'=true:=by
 intro u hu;simp[bR] at hu;rcases hu with rfl|rfl|rfl|rfl|rfl|rfl<;>rfl
theorem Wi (x:Ev):∀u∈mF x,u.oneCell'=true:=by
 intro u hu;simp[mF] at hu;rcases hu with rfl|rfl|rfl|rfl<;>rfl
theorem Xy (x:Int):∀u∈encI x,u.oneCell'=true:=by
 intro u hu;simp[encI] at hu;rcases hu with rfl;rfl
theorem DC {α:Type} {enc:α->List Value} (h:∀a,∀u∈enc a,u.oneCell'=true) (l:List α):∀u∈l.flatMap enc,u.oneCell'=true:=by
 intro u hu;obtain⟨a,_,ha⟩:=List.mem_flatMap.1 hu;exact h a u ha
theorem PS (b off i:Nat):(⟨b,off,none⟩:Addr).add i=⟨b,off+i,none⟩:=by unfold Addr.add;split<;>simp_all
theorem Gq {α:Type} {enc:α->List Value} {sz:Nat} {ad:Addr} {n cap:Nat} {l:List α} (h:fI enc w sz (.slice (some ad) n cap) l) (ob:Obj):∀j u,(l.flatMap enc)[j]? =some u->(w.alloc ob).cell? (ad.add j)=some u:=by
 obtain⟨h1,ao,cap',h2,h3,h4⟩:=h;simp only[Value.slice.injEq] at h2;obtain⟨e1,e2,e3⟩:=h2;intro j u hj;have hn:0<l.length:=by
  rcases Nat.eq_zero_or_pos l.length with e|e
  ·rw[List.length_eq_zero_iff.1 e] at hj;simp at hj
  ·exact e
 obtain⟨b,off,rfl,hb,hc⟩:=h4 hn;cases e1;rw[PS];have:=hc j u hj;rw[World.cell?_of_block (w:=w) (heap_alloc_old w ob hb)];exact this
def vZ {α:Type} (E:TypeId) (sz:Nat) (enc:α->List Value) (l:List α) (w:World) (r:Ending) (w':World):Prop:=
 ∃cv,r= .returned cv/\w'.ownsRow w.heap.size E sz cv l.length (l.flatMap enc)/\Below w.heap.size w w'
theorem FC {ao:Option Addr} {cap:Nat} {l:List bM} (h:fI bR w 6 (.slice ao l.length cap) l) (hl:l.length<=1000000000):
  Calls Tryz.prog 97 #[.slice ao l.length cap] w (vZ 107 6 bR l w):=by
 have H:=ag h;have HL:=ag hl;have hq:=fun w a l c=>FD Tryz.underlying57 w a l c
 clear h hl;cases ao with
 |none=>
  go_in;go_wp2_with fail;go_ret;obtain⟨h1,ao,cap',h2,h3,h4⟩:=H.out;have hn:l.length=0:=by
   rcases Nat.eq_zero_or_pos l.length with e|e
   ·exact e
   ·obtain⟨b,off,e1, -⟩:=h4 e;simp[e1] at h2
  rw[List.length_eq_zero_iff.1 hn];exact⟨_,rfl,World.ownsRow_nil _ _ _ _,aQ _ _⟩
 |some ad=>
  obtain⟨i0,hi,hz0,hz1,hz2⟩:=info_parts VI;go_in;go_wp2_with (at_builtin;refine fe _ rfl _ _ 57 rfl w.heap.size 107 i0 _ 6 16 Tryz.underlying57 hi hz0 hz1 hz2 rfl (by decide) (.slice (some ⟨w.heap.size,0,none⟩) 0 0) 0 [] rfl ⟨by simp,.inr ⟨w.heap.size,0,#[],rfl,aR _,heap_alloc_new _ _,aR _,Nat.zero_le _,by simp,by simp⟩⟩ ad l.length cap (l.flatMap bR) rfl (jQ dL l) (Gq H.out _) (DC Wn l) (by have:=HL.out;unfold maxLen;omega) (by have:=HL.out;omega) (by simp) ?_);intro QJ cp w1 hown mI iW;have HO:=ag hown;have HB:=ag (((aQ w.heap.size w).alloc (aR _) _).grown iW (by simp) (fun k hk=>by simp only[Value.ownBlock,bU] at hk;omega));clear hown mI iW hi hz0 hz1 hz2 hq;go_wp2_with fail;go_ret;exact⟨_,rfl,HO.out,HB.out⟩
theorem DX {ao:Option Addr} {cap:Nat} {l:List Int} (h:fI encI w 1 (.slice ao l.length cap) l) (hl:l.length<=1000000000):
  Calls Tryz.prog 107 #[.slice ao l.length cap] w (vZ 2 1 encI l w):=by
 have H:=ag h;have HL:=ag hl;have hq:=fun w a l c=>FD Tryz.underlying51 w a l c
 clear h hl;cases ao with
 |none=>
  go_in;go_wp2_with fail;go_ret;obtain⟨h1,ao,cap',h2,h3,h4⟩:=H.out;have hn:l.length=0:=by
   rcases Nat.eq_zero_or_pos l.length with e|e
   ·exact e
   ·obtain⟨b,off,e1, -⟩:=h4 e;simp[e1] at h2
  rw[List.length_eq_zero_iff.1 hn];exact⟨_,rfl,World.ownsRow_nil _ _ _ _,aQ _ _⟩
 |some ad=>
  obtain⟨i0,hi,hz0,hz1,hz2⟩:=info_parts BL;go_in;go_wp2_with (at_builtin;refine fe _ rfl _ _ 51 rfl w.heap.size 2 i0 _ 1 8 Tryz.underlying51 hi hz0 hz1 hz2 rfl (by decide) (.slice (some ⟨w.heap.size,0,none⟩) 0 0) 0 [] rfl ⟨by simp,.inr ⟨w.heap.size,0,#[],rfl,aR _,heap_alloc_new _ _,aR _,Nat.zero_le _,by simp,by simp⟩⟩ ad l.length cap (l.flatMap encI) rfl (jQ jL l) (Gq H.out _) (DC Xy l) (by have:=HL.out;unfold maxLen;omega) (by have:=HL.out;omega) (by simp) ?_);intro QJ cp w1 hown mI iW;have HO:=ag hown;have HB:=ag (((aQ w.heap.size w).alloc (aR _) _).grown iW (by simp) (fun k hk=>by simp only[Value.ownBlock,bU] at hk;omega));clear hown mI iW hi hz0 hz1 hz2 hq;go_wp2_with fail;go_ret;exact⟨_,rfl,HO.out,HB.out⟩
theorem Fv {ao:Option Addr} {cap:Nat} {l:List Ev} (h:fI mF w 4 (.slice ao l.length cap) l) (hl:l.length<=1000000000):
  Calls Tryz.prog 108 #[.slice ao l.length cap] w (vZ 127 4 mF l w):=by
 have H:=ag h;have HL:=ag hl;have hq:=fun w a l c=>FD Tryz.underlying53 w a l c
 clear h hl;cases ao with
 |none=>
  go_in;go_wp2_with fail;go_ret;obtain⟨h1,ao,cap',h2,h3,h4⟩:=H.out;have hn:l.length=0:=by
   rcases Nat.eq_zero_or_pos l.length with e|e
   ·exact e
   ·obtain⟨b,off,e1, -⟩:=h4 e;simp[e1] at h2
  rw[List.length_eq_zero_iff.1 hn];exact⟨_,rfl,World.ownsRow_nil _ _ _ _,aQ _ _⟩
 |some ad=>
  obtain⟨i0,hi,hz0,hz1,hz2⟩:=info_parts VT;go_in;go_wp2_with (at_builtin;refine fe _ rfl _ _ 53 rfl w.heap.size 127 i0 _ 4 32 Tryz.underlying53 hi hz0 hz1 hz2 rfl (by decide) (.slice (some ⟨w.heap.size,0,none⟩) 0 0) 0 [] rfl ⟨by simp,.inr ⟨w.heap.size,0,#[],rfl,aR _,heap_alloc_new _ _,aR _,Nat.zero_le _,by simp,by simp⟩⟩ ad l.length cap (l.flatMap mF) rfl (jQ Oq l) (Gq H.out _) (DC Wi l) (by have:=HL.out;unfold maxLen;omega) (by have:=HL.out;omega) (by simp) ?_);intro QJ cp w1 hown mI iW;have HO:=ag hown;have HB:=ag (((aQ w.heap.size w).alloc (aR _) _).grown iW (by simp) (fun k hk=>by simp only[Value.ownBlock,bU] at hk;omega));clear hown mI iW hi hz0 hz1 hz2 hq;go_wp2_with fail;go_ret;exact⟨_,rfl,HO.out,HB.out⟩
end
section
variable {w w':World} {base b:Nat} {own own':Nat->Nat} {mm:MM} {xs:List TX} {mv tv ev:Value}
theorem VJ:(Tryz.prog.info? 184).map (fun i=>(i.zero,i.size,i.bytes))=some (some (.agg #[.slice none 0 0,.int .i64 0,.int .i64 0,.int .i64 0,.int .i64 0,.int .i64 0,.int .i64 0,.int .i64 0,.int .i64 0,.int .i64 0,.pointer none,.slice none 0 0,.int .u8 0]),13,136):=by kernel_rfl
theorem aak (w:World):Calls Tryz.prog 98 #[] w fun e w'=>∃rb c f,e= .returned (.pointer (some ⟨rb,0,none⟩))/\Ring w' rb [] c f/\Below w.heap.size w w'/\w.heap.size<=rb:=by
 refine(VA w).mono ?_;rintro e w' ⟨rfl,rfl⟩;exact⟨_,_,_,rfl,QW _,(aQ _ _).alloc (aR _) _,aR _⟩
theorem M5 {ao:Option Addr} {cap:Nat} {l:List bM} (h:fI bR w 6 (.slice ao l.length cap) l) (hl:l.length<=1000000000):
  Calls Tryz.prog 97 #[.slice ao l.length cap] w fun e w'=>∃QJ cp,e= .returned (.slice QJ l.length cp)/\fI bR w' 6 (.slice QJ l.length cp) l/\(∀g,(Value.slice QJ l.length cp).ownBlock=some g->w.heap.size<=g)/\Below w.heap.size w w':=by
 refine(FC h hl).mono ?_;rintro e w' ⟨cv,rfl,ho,hb⟩;obtain⟨QJ,cp,rfl⟩:=bF ho;exact⟨_,_,rfl,Rd.iV ho,fun g hg=>(cK ho hg).1,hb⟩
theorem Fb {e:TypeId} {sz n:Nat} {v:Value} {l:List Value} (h:w.ownsRow base e sz v n l) (hb:Below w.heap.size w w'):w'.ownsRow base e sz v n l:=aP h fun g hg hl=>hb.block g hl
theorem JV (code:List bM) (ao:Option Addr) (n cp rb:Nat):∀u∈sN (Dh code (.slice ao n cp) rb),u.oneCell'=true:=by
 intro u hu;simp[sN,Dh] at hu;rcases hu with rfl|rfl|rfl|rfl|rfl|rfl|rfl|rfl|rfl|rfl|rfl|rfl|rfl<;>rfl
structure Ready (w:World) (x:World) (code:List bM) (cv:Value) (rb:Nat):Prop where
 rd:fI bR x 6 cv code
 ring:∃c f,Ring x rb [] c f
 below:Below w.heap.size w x
 fresh:∀g,code≠[]->cv.ownBlock=some g->w.heap.size<=g/\g≠rb/\g<x.heap.size
 KZ:w.heap.size<=rb
theorem Ready.sF {w a x:World} {code:List bM} {cv:Value} {rb f:Nat} {c:Array Value} (hs:w.heap.size<=a.heap.size) (hcv:fI bR a 6 cv code) (hfr:∀g,cv.ownBlock=some g->w.heap.size<=g) (hb:Below a.heap.size a x) (hr:Ring x rb [] c f) (hge:a.heap.size<=rb) (hbx:Below w.heap.size w x):Ready w x code cv rb:=
 ⟨Rd.below hcv hb,⟨c,f,hr⟩,hbx,fun g hn hg=>⟨hfr g hg,by have:=Cf hcv hn hg;omega,by have:=Cf hcv hn hg;have:=hb.size;omega⟩,by omega⟩
theorem Ready.sQ {w a x:World} {code:List bM} {cv:Value} {rb f:Nat} {c:Array Value} (hr:Ring a rb [] c f) (hge:w.heap.size<=rb) (hs:w.heap.size<=a.heap.size) (hcv:fI bR x 6 cv code) (hfr:∀g,cv.ownBlock=some g->a.heap.size<=g) (hb:Below a.heap.size a x) (hbx:Below w.heap.size w x):Ready w x code cv rb:=
 ⟨hcv,⟨c,f,hr.keep (hb.block _ hr.lt)⟩,hbx,fun g hn hg=>⟨by have:=hfr g hg;omega,by have:=hfr g hg;have:=hr.lt;omega,Cf hcv hn hg⟩,hge⟩
theorem eZ.pushed (h:eZ w base b own mm xs mv tv ev) {x w9:World} {code:List bM} {ao Mw:Option Addr} {n cp Lt rb:Nat} {o:Obj} (hr:Ready w x code (.slice ao n cp) rb)
  (h1:w9.ownsRow base 184 13 (.slice Mw (xs.length+1) Lt) (xs.length+1) (xs.flatMap sN++sN (Dh code (.slice ao n cp) rb)))
  (h2:∀g,(Value.slice Mw (xs.length+1) Lt).ownBlock=some g->tv.ownBlock=some g\/(x.alloc o).heap.size<=g) (h3:(x.alloc o).grownBy w9 tv.ownBlock):
  eZ (w9.setCell ⟨b,2,none⟩ (.slice Mw (xs.length+1) Lt)) base b (xw own (.slice Mw (xs.length+1) Lt) (.slice ao n cp) code rb xs.length w.heap.size) {mm with aM:=mm.aM++[MT.new code]} (xs++[Dh code (.slice ao n cp) rb]) mv (.slice Mw (xs.length+1) Lt) ev/\
   bH (fun k=>k=b\/tv.ownBlock=some k) w (w9.setCell ⟨b,2,none⟩ (.slice Mw (xs.length+1) Lt)):=by
 have hsx:=hr.below.size;have hxs:(x.alloc o).heap.size=x.heap.size+1:=World.size_alloc _ _;have hg0:bH (fun k=>tv.ownBlock=some k) w w9:=bH.grown (S:=fun k=>tv.ownBlock=some k) ((bH.of_below hr.below).alloc o) h3 (fun k hk=>.inl hk);have hgx:bH (fun k=>tv.ownBlock=some k) x w9:=bH.grown (S:=fun k=>tv.ownBlock=some k) ((bH.refl _ x).alloc o) h3 (fun k hk=>.inl hk);obtain⟨c,f,hring⟩:=hr.ring;have htl:∀g,tv.ownBlock=some g->g<w.heap.size:=fun g hg=>(cK h.aM hg).2
 refine⟨h.push hg0 (hr.rd.yN fun g hn hg hl=>hgx.block g hl (fun e=>?_)) (fun g hn hg=>(hr.fresh g hn hg).1) (hring.keep (hgx.block _ hring.lt (fun e=>?_))) hr.KZ ?_ (fun g hg=>?_) (fun g hn hg=>⟨(hr.fresh g hn hg).2.1,fun e=>?_⟩) (fun e=>?_),?_⟩
 ·have:=htl g e;have:=(hr.fresh g hn hg).1;omega
 ·have:=htl _ e;have:=hr.KZ;omega
 ·rw[List.flatMap_append];simpa using h1
 ·rcases h2 g hg with e|e
  ·exact .inl e
  ·exact .inr (by omega)
 ·have h5:=hr.fresh g hn hg;rcases h2 g e with e'|e'
  ·have:=htl g e';omega
  ·omega
 ·have h5:=hring.lt;have h6:=hr.KZ;rcases h2 _ e with e'|e'
  ·have:=htl _ e';omega
  ·omega
 ·exact(hg0.imp (T:=fun k=>k=b\/tv.ownBlock=some k) (fun k _ e=>.inr e)).setCell (p:=⟨b,2,none⟩) (.inl (.inl rfl)) _
end
section
variable {w w':World}
def iG (cs:List (Int×Int)) (m:List Int):List Int:=cs.foldl (fun m c=>m.set c.1.toNat c.2) m
def iC (mem:Int) (codes:List (List bM)) (cs:List (Int×Int)):MM:=⟨iG cs (List.replicate mem.toNat 0),codes.map MT.new,[]⟩
def dK (B mb:Nat) (k:Nat):Nat:=if k=B then 1 else if k=mb then 2 else 0
theorem eZ.start {w3:World} {base B mb mn:Nat} (hB:w3.heap[B]? =some (.cells #[.bool true,.slice (some ⟨mb,0,none⟩) mn mn,.slice none 0 0,.slice none 0 0] 179 (0,0)))
  (hm:w3.heap[mb]? =some (.cells (List.replicate mn (encI 0)).flatten.toArray 2 (0,0))) (hne:mb≠B) (h1:base<=B) (h2:base<=mb) (hmn:mn<=262144):
  eZ w3 base B (dK B mb) ⟨List.replicate mn 0,[],[]⟩ [] (.slice (some ⟨mb,0,none⟩) mn mn) (.slice none 0 0) (.slice none 0 0):=by
 have e1:(List.replicate mn (encI 0)).flatten=(List.replicate mn (0:Int)).flatMap encI:=by simp[List.flatMap]
 have e2:((List.replicate mn (0:Int)).flatMap encI).length=mn:=by rw[jQ jL];simp
 have hrow:w3.ownsRow base 2 1 (.slice (some ⟨mb,0,none⟩) mn mn) mn ((List.replicate mn (0:Int)).flatMap encI):=by
  refine⟨by rw[e2,Nat.mul_one],.inr ⟨mb,mn,_,rfl,h2,hm,aR _,by unfold maxLen;omega,?_,?_⟩⟩
  ·rw[e1];simp only[List.size_toArray];rw[e2,Nat.mul_one]
  ·rw[e1,List.toList_toArray,List.take_of_length_le (by rw[e2];simp)]
 have hown:dK B mb B=1:=by unfold dK;rw[if_pos rfl]
 have hlen:(List.replicate mn (0:Int)).length=mn:=by simp
 refine⟨hB,⟨h1,hown⟩,by rw[hlen];exact hrow,fun g hg=>?_,World.ownsRow_nil _ _ _ _,(fun g hg=>by cases hg),World.ownsRow_nil _ _ _ _,(fun g hg=>by cases hg),rfl,(fun i x hx=>by simp at hx),fun k hk=>?_⟩
 ·simp only[Value.ownBlock,bU] at hg;subst hg;unfold dK;rw[if_neg hne,if_pos rfl]
 ·have l1:=lt_of_block hB;have l2:=lt_of_block hm;unfold dK;rw[if_neg (by omega),if_neg (by omega)]
theorem qK (cs:List (Int×Int)):∀m,(iG cs m).length=m.length:=by
 induction cs with
 |nil=>exact fun m=>rfl
 |cons c r ih=>intro m;show(iG r (m.set c.1.toNat c.2)).length=_;rw[ih];simp
theorem EO {cs:List (Int×Int)} {k:Nat} {c:Int×Int} (h:cs[k]? =some c) (m:List Int):iG (cs.take (k+1)) m=(iG (cs.take k) m).set c.1.toNat c.2:=by
 unfold iG;rw[List.take_add_one,h,List.foldl_append];rfl
theorem Cz {mem:Int}:∀{cs:List (Int×Int)} {last:Int}, -1<=last->jo mem last cs=true->∀c∈cs,0<=c.1/\c.1<mem:=by
 intro cs;induction cs with
 |nil=>exact fun _ _ c hc=>absurd hc (by simp)
 |cons d r ih=>
  intro last hl h c hc;simp only[jo,Bool.and_eq_true,decide_eq_true_eq] at h;rcases List.mem_cons.1 hc with rfl|e
  ·omega
  ·exact ih (last:=d.1) (by omega) h.2 c e
theorem Cu {own:Nat->Nat} {p:Nat} (h3:own p=3) (h1:own p=1):False:=by rw[h3] at h1;cases h1
def UQ (mem:Int) (l:List (Value×List bM)) (cs:List (Int×Int)) (w:World) (r:Ending) (w':World):Prop:=
 ∃b own xs mv tv,r= .returned (.tuple #[.pointer (some ⟨b,0,none⟩),.int .i64 0])/\eZ w' w.heap.size b own (iC mem (l.map (·.2)) cs) xs mv tv (.slice none 0 0)/\Below w.heap.size w w'
theorem um {mem:Int} {l:List (Value×List bM)} {cs:List (Int×Int)} (h:dB mem l cs=0):1<=mem/\mem<=262144:=by
 unfold dB at h;split at h
 ·cases h
 split at h
 ·cases h
 rename_i h1 h2;omega
theorem p8 {mem:Int} {l:List (Value×List bM)} {cs:List (Int×Int)} (h:dB mem l cs=0):l.length<=4/\fC l<=262144:=by
 unfold dB at h;split at h
 ·cases h
 rename_i h1;omega
theorem pX {mem:Int} {l:List (Value×List bM)} {cs:List (Int×Int)} (h:dB mem l cs=0):(∀p∈l,p.2.all dJ=true)/\jo mem (-1) cs=true:=by
 unfold dB at h;split at h
 ·cases h
 split at h
 ·cases h
 split at h
 ·cases h
 split at h
 ·cases h
 rename_i h3 h4;exact⟨List.all_eq_true.1 (by simpa using h3),by simpa using h4⟩
theorem U2 {ca ug:Option Addr} {iF jZ:Nat} {l:List (Value×List bM)} {cs:List (Int×Int)} (h:pI w (.slice ca l.length iF) l) (hc:fI iI w 2 (.slice ug cs.length jZ) cs) (mem:Int) (hl:l.length<=6000000000000) (hcl:cs.length<=9000000000000) (hk:dB mem l cs=0):
  Calls Tryz.prog 60 #[.agg #[.slice ca l.length iF,.int .i64 mem,.slice ug cs.length jZ]] w (UQ mem l cs w):=by
 have hb0:Below w.heap.size w (w.alloc (.cells #[.slice ca l.length iF,.int .i64 mem,.slice ug cs.length jZ] 30)):=(aQ _ _).alloc (aR _) _;have gy:=aX w (.cells #[.slice ca l.length iF,.int .i64 mem,.slice ug cs.length jZ] 30);have H0:=ag (h.below hb0);have GL:=ag (Rd.below hc hb0);have HB:=ag hb0;have HC:=ag hc;have H:=ag h;have HL:=ag hl;have NA:=ag hcl;have HE:=ag hk;have tN:=ag gy;clear h hc hl hcl hb0 hk gy;go_in;go_wp2_with fail;refine(Lj H0.out GL.out mem HL.out NA.out).mono ?_;rintro e w1 ⟨rfl,hb1⟩;rw[HE.out];have Cc:=(hb1.block w.heap.size (by simp)).trans tN.out;have d0:=af (o:=0) Cc rfl;have d1:=af (o:=1) Cc rfl;have d2:=af (o:=2) Cc rfl;have H1:=ag (H0.out.below hb1);have J8:=ag (Rd.below GL.out hb1);have HB1:=ag (HB.out.trans (hb1.mono HB.out.size));clear hb1 Cc HB H0 GL tN;have hmem:=um HE.out;obtain⟨mn,rfl⟩:=Int.eq_ofNat_of_zero_le (show 0<=mem by omega);have XD:=ag hmem;obtain⟨i0,hi,hz0,hz1,hz2⟩:=info_parts BL;clear hmem;go_wp2_with (at_make;refine mq _ rfl _ _ 51 rfl 2 i0 _ 1 (encI 0) Tryz.underlying51 hi hz0 hz1 rfl rfl (by decide) _ _ _ _ mn mn rfl rfl rfl rfl ?b0 ?b1 ?b2 ?_)
 case b0=>exact aR _
 case b1=>have:=XD.out;rw[hz2];omega
 case b2=>have:=XD.out;unfold maxLen;omega
 intro w2 hblk hsz2 hb2;have hB3:=heap_alloc_new w2 (.cells #[.bool true,.slice (some ⟨w1.heap.size,0,none⟩) mn mn,.slice none 0 0,.slice none 0 0] 179);have Yo:=(heap_alloc_old w2 (.cells #[.bool true,.slice (some ⟨w1.heap.size,0,none⟩) mn mn,.slice none 0 0,.slice none 0 0] 179) (show w1.heap.size<w2.heap.size by omega)).trans hblk;have hb3:Below w1.heap.size w1 (w2.alloc (.cells #[.bool true,.slice (some ⟨w1.heap.size,0,none⟩) mn mn,.slice none 0 0,.slice none 0 0] 179)):=hb2.alloc hb2.size _;have q0:=(World.cell?_of_block (hb3.block _ (dH _ _ d0))).trans d0;have q2:=(World.cell?_of_block (hb3.block _ (dH _ _ d2))).trans d2;have Xz:=ag (eZ.start (base:=w.heap.size) hB3 Yo (by omega) (by have:=HB1.out.size;omega) HB1.out.size (by have:=XD.out;omega));have H3:=ag (H1.out.below hb3);have QC:=ag (Rd.below J8.out hb3);have HB3:=ag (HB1.out.trans (hb3.mono HB1.out.size));have hw1:w.heap.size+1<=w1.heap.size:=dH _ _ d0;have Ws:=dH _ _ q0;have Q7:=ag hsz2;clear hblk hsz2 hb2 hB3 Yo hb3 hi hz0 hz1 hz2 d0 d1 d2 H1 J8 HB1;go_wp2_with fail;generalize(w2.alloc (Obj.cells #[.bool true,.slice (some ⟨w1.heap.size,0,none⟩) mn mn,.slice none 0 0,.slice none 0 0] 179))=w3 at Xz q0 q2 H3 QC HB3 Ws⊢;have hnb:w.heap.size≠w1.heap.size:=by omega
 have HNB:=ag hnb;have HW1:=ag hw1;have Zt:=ag (show eZ w3 w.heap.size w2.heap.size (dK w2.heap.size w1.heap.size) ⟨iG (cs.take 0) (List.replicate mn 0),[],[]⟩ [] (.slice (some ⟨w1.heap.size,0,none⟩) (iG (cs.take 0) (List.replicate mn 0)).length mn) (.slice none 0 0) (.slice none 0 0) from by
  have e:(iG (cs.take 0) (List.replicate mn 0)).length=mn:=by rw[qK];simp
  rw[e];exact Xz.out)
 clear Xz hnb hw1;go_loopw [23] (fun i w'=>∃k:Nat,k<=cs.length/\i= .int .i64 (k:Int)/\Hid (eZ w' w.heap.size w2.heap.size (dK w2.heap.size w1.heap.size) ⟨iG (cs.take k) (List.replicate mn 0),[],[]⟩ [] (.slice (some ⟨w1.heap.size,0,none⟩) (iG (cs.take k) (List.replicate mn 0)).length mn) (.slice none 0 0) (.slice none 0 0)/\bH (fun k=>k=w1.heap.size) w3 w')) (fun i _=>((cs.length:Int) - intOf i).toNat)
 case atStart=>exact⟨0,by omega,rfl,⟨Zt.out,bH.refl _ _⟩⟩
 case round=>
  obtain⟨k,hk,rfl,HR⟩:=hrel;have hlen:(iG (cs.take k) (List.replicate mn 0)).length=mn:=by rw[qK];simp
  by_cases hlt:k<cs.length
  ·have hp:=dZ hlt;generalize cs[k]=c at hp;have hst:=EO hp (List.replicate mn 0);have hcb:=Cz (by omega) (pX HE.out).2 c (bA hp);obtain⟨can,cv⟩:=c;obtain⟨an,rfl⟩:=Int.eq_ofNat_of_zero_le hcb.1;have hwr:Below w.heap.size w wr:=bH.below HB3.out (Nat.le_of_lt Ws) HR.out.2 (fun k e=>by rw[e];have:=HW1.out;omega);obtain⟨gb,co,e1,hgb,hcc⟩:=fI.at oD (Rd.below HC.out hwr) hp;have i0:=hcc 0 _ rfl;have i1:=hcc 1 _ rfl;rw[Nat.add_zero] at i0;subst e1;clear hcc hgb hp;obtain⟨w5,L9⟩:∃w5,w5=wr.alloc (.cells #[.int .i64 (an:Int),.int .i64 cv] 99):=⟨_,rfl⟩;have hb5:Below wr.heap.size wr w5:=L9 ▸ ((aQ _ _).alloc (aR _) _);have h5:=HR.out.1.below hb5;have TN:an<(iG (cs.take k) (List.replicate mn 0)).length:=by rw[hlen];omega
   have c1:=h5.iA 1 _ rfl;have cM:=h5.yZ TN;have fM:=h5.Cv (by show 0<(iG (cs.take k) (List.replicate mn 0)).length;omega) an;have k0:w5.cell? ⟨wr.heap.size,0,none⟩=some (.int .i64 (an:Int)):=by rw[L9];exact af (heap_alloc_new _ _) rfl
   have k1:w5.cell? ⟨wr.heap.size,1,none⟩=some (.int .i64 cv):=by rw[L9];exact af (heap_alloc_new _ _) rfl
   have hb6:wr.heap.size<w5.heap.size:=by rw[L9];simp
   have afn:(an:Int)<(mn:Int):=by omega
   rw[hlen] at c1;have H5:=ag h5;have Vx:=ag (HR.out.2.trans (bH.of_below hb5));have Vo:=ag L9;have HST:=ag hst;have hkc:(k:Int)<9000000000000:=by have:=NA.out;omega
   clear h5 hb5 HR hwr hst hcb;go_wp2_with fail;rw[<-Vo.out];clear Vo L9;go_still_tail 8,(by kernel_rfl)
   go_wp2_with fail;have h6:=H5.out.drew.word TN cv;refine⟨⟨k+1,by omega,by go_num,⟨?_,(Vx.out.drew).setCell (p:=⟨w1.heap.size,an,none⟩) (.inl rfl) _⟩⟩,by simp[intOf];omega⟩;rw[HST.out];simp only[Int.toNat_natCast,List.length_set];exact h6
  ·obtain rfl:k=cs.length:=by omega
   rw[List.take_length] at HR;have q0r:=(World.cell?_of_block (HR.out.2.block _ (dH _ _ q0) HNB.out)).trans q0;have hwr:Below w.heap.size w wr:=bH.below HB3.out (Nat.le_of_lt Ws) HR.out.2 (fun k e=>by rw[e];have:=HW1.out;omega);have HWR:=ag hwr;have afT:w.heap.size<wr.heap.size:=dH _ _ q0r;have h4:l.length<=4:=(p8 HE.out).1;clear q0 q2 hwr H3 QC HB3 Zt Ws;go_wp2_with fail;clear hlen;go_loopw [40] (fun i w'=>∃k:Nat,k<=l.length/\i= .int .i64 (k:Int)/\Hid (∃own xs tv,eZ w' w.heap.size w2.heap.size own ⟨iG cs (List.replicate mn 0),((l.take k).map (·.2)).map MT.new,[]⟩ xs (.slice (some ⟨w1.heap.size,0,none⟩) (iG cs (List.replicate mn 0)).length mn) tv (.slice none 0 0)/\Below w.heap.size w w'/\w'.cell? ⟨w.heap.size,0,none⟩=some (.slice ca l.length iF)/\own w.heap.size=0)) (fun i _=>((l.length:Int) - intOf i).toNat)
   case atStart=>exact⟨0,by omega,rfl,⟨_,_,_,HR.out.1,HWR.out,q0r,by unfold dK;rw[if_neg (by have:=Q7.out;have:=HW1.out;omega),if_neg HNB.out]⟩⟩
   case round=>
    obtain⟨k,hk,rfl,HR2⟩:=hrel;obtain⟨own,xs,tv,hm,hbw,hq,ho0⟩:=HR2.out;clear HR2;by_cases hlt:k<l.length
    ·have hp:=dZ hlt;generalize l[k]=p at hp;have hmp:=bA hp;obtain⟨gb,co,e1,hgb,hcc⟩:=fI.at sW (H.out.below hbw).rows hp;have i0:=hcc 0 _ rfl;obtain⟨ao,cap,hcv⟩:=(H.out.each p hmp).shape;have hrow:=(H.out.below hbw).each p hmp;rw[hcv] at hrow;rw[Nat.mul_one,Nat.add_zero,hcv] at i0;have hle:p.2.length<=1000000000:=by have:=tZ (p8 HE.out).2 p hmp;omega
     have c2:=hm.iA 2 _ rfl;have J2:=ag hm;have Gx:=ag hrow;have Xe:=ag hle;have HP:=ag hp;have GX:=ag hbw;have HQ:=ag hq;have HO0:=ag ho0;subst e1;clear hcc hcv hgb hrow hmp hp hm hbw hq hle ho0;go_wp2_with fail;have c2d:wr.drew.cell? ⟨w2.heap.size,2,none⟩=some tv:=c2;obtain⟨i0,hi,hz0,hz1,hz2⟩:=info_parts VJ;have hxl:xs.length<=4:=by have:=J2.out.same;have h2:=congrArg List.length this;simp at h2;omega
     have afH:w.heap.size<=wr.heap.size:=GX.out.size
     go_region_law (first|(go_simp;go_at_call 97;(first|refine(M5 (Rd.below Gx.out (nP.out)) Xe.out).mono ?_|refine(M5 (w:=wr.drew) Gx.out Xe.out).mono ?_);rintro e6 w6 ⟨aoc,cpc,rfl,hcv,hfr,hb6⟩;(first|have Az:=ag (nP.out.trans (hb6.mono nP.out.size))|have Az:=ag (show Below wr.heap.size wr w6 from(aQ wr.heap.size wr).drew.trans hb6));have c6:=(World.cell?_of_block (Az.out.block _ (dH _ _ c2))).trans c2;have c6a:=fun o=>nk c6 o;have J5:=ag hcv;have GV:=ag hfr;have Q8:=ag hb6;clear hcv hfr hb6;dsimp only)|(go_simp;go_at_call 98;refine(aak _).mono ?_;rintro e7 w7 ⟨rb,c7,f7,rfl,hr7,AB,hge⟩;(first|have nP:=ag (Az.out.trans (AB.mono Az.out.size))|have nP:=ag (show Below wr.heap.size wr w7 from(aQ wr.heap.size wr).drew.trans AB));have c7:=(World.cell?_of_block (nP.out.block _ (dH _ _ c2))).trans c2;have c7a:=fun o=>nk c7 o;have QB:=ag hr7;have Qy:=ag hge;have TZ:=ag AB;clear hr7 AB hge;dsimp only)|(refine kE (by rfl) (.tmp 48) (.tmp 53) 177 (by rfl) w.heap.size 184 i0 _ 13 136 Tryz.underlying177 hi hz0 hz1 hz2 rfl (by decide) tv xs.length (xs.flatMap sN) (by simp[Act.eval]) (by exact Fb J2.out.aM ((Ready.sF (w:=wr) Az.out.size J5.out (fun g hg=>GV.out g hg) TZ.out QB.out Qy.out nP.out).below.alloc (Ready.sF (w:=wr) Az.out.size J5.out (fun g hg=>GV.out g hg) TZ.out QB.out Qy.out nP.out).below.size _)) ⟨w7.heap.size,0,none⟩ 1 1 (by decide) (sN (Dh p.2 (.slice aoc p.2.length cpc) rb)) (by simp[Act.eval]) rfl (by exact kK (aX w7 _)) (JV _ _ _ _ _) (by unfold maxLen;omega) (by omega) (by have:=(Ready.sF (w:=wr) Az.out.size J5.out (fun g hg=>GV.out g hg) TZ.out QB.out Qy.out nP.out).below.size;show w.heap.size<=(w7.alloc _).heap.size;rw[World.size_alloc];omega) ?_;intro Mw Lt w9 h1 h2 h3;have Zr:=ag (J2.out.pushed (Ready.sF (w:=wr) Az.out.size J5.out (fun g hg=>GV.out g hg) TZ.out QB.out Qy.out nP.out) h1 h2 h3);have vF:=gV (bH.grown (S:=fun k=>tv.ownBlock=some k) ((bH.of_below (Ready.sF (w:=wr) Az.out.size J5.out (fun g hg=>GV.out g hg) TZ.out QB.out Qy.out nP.out).below).alloc _) h3 (fun k hk=>.inl hk)) J2.out.blk (fun hk=>Cu (J2.out.fo _ hk) J2.out.bT.2);have s1:=af (o:=2) vF rfl;have s2:=aJ (o:=2) vF;have Fa:=ag vF;clear h1 h2 h3 vF)|(refine kE (by rfl) (.tmp 48) (.tmp 53) 177 (by rfl) w.heap.size 184 i0 _ 13 136 Tryz.underlying177 hi hz0 hz1 hz2 rfl (by decide) tv xs.length (xs.flatMap sN) (by simp[Act.eval]) (by exact Fb J2.out.aM ((Ready.sQ (w:=wr) QB.out Qy.out nP.out.size J5.out GV.out Q8.out Az.out).below.alloc (Ready.sQ (w:=wr) QB.out Qy.out nP.out.size J5.out GV.out Q8.out Az.out).below.size _)) ⟨w6.heap.size,0,none⟩ 1 1 (by decide) (sN (Dh p.2 (.slice aoc p.2.length cpc) rb)) (by simp[Act.eval]) rfl (by exact kK (aX w6 _)) (JV _ _ _ _ _) (by unfold maxLen;omega) (by omega) (by have:=(Ready.sQ (w:=wr) QB.out Qy.out nP.out.size J5.out GV.out Q8.out Az.out).below.size;show w.heap.size<=(w6.alloc _).heap.size;rw[World.size_alloc];omega) ?_;intro Mw Lt w9 h1 h2 h3;have Zr:=ag (J2.out.pushed (Ready.sQ (w:=wr) QB.out Qy.out nP.out.size J5.out GV.out Q8.out Az.out) h1 h2 h3);have vF:=gV (bH.grown (S:=fun k=>tv.ownBlock=some k) ((bH.of_below (Ready.sQ (w:=wr) QB.out Qy.out nP.out.size J5.out GV.out Q8.out Az.out).below).alloc _) h3 (fun k hk=>.inl hk)) J2.out.blk (fun hk=>Cu (J2.out.fo _ hk) J2.out.bT.2);have s1:=af (o:=2) vF rfl;have s2:=aJ (o:=2) vF;have Fa:=ag vF;clear h1 h2 h3 vF))
     all_goals go_wp2_with fail
     all_goals (
      have hB:w.heap.size<w2.heap.size:=by have:=Q7.out;have:=HW1.out;omega
      have Uj:∀g,tv.ownBlock=some g->w.heap.size<=g/\g≠w.heap.size:=fun g hg=>⟨(cK J2.out.aM hg).1,fun e=>by have h1:=J2.out.fo g hg;rw[e,HO0.out] at h1;cases h1⟩
      refine⟨⟨k+1,by omega,by go_num,⟨xw own (.slice Mw (xs.length+1) Lt) (.slice aoc p.2.length cpc) p.2 rb xs.length wr.heap.size,xs++[Dh p.2 (.slice aoc p.2.length cpc) rb],.slice Mw (xs.length+1) Lt,?_,bH.below GX.out GX.out.size Zr.out.2 (fun g hg=>?_),?_,?_⟩⟩,by simp[intOf];omega⟩
      ·have h9:=Zr.out.1;rw[List.take_add_one,HP.out];simpa using h9
      ·rcases hg with rfl|hg
       ·omega
       ·exact(Uj g hg).1
      ·refine(World.cell?_of_block (Zr.out.2.block _ (dH _ _ HQ.out) (fun e=>?_))).trans HQ.out;rcases e with e|e
       ·simp only at e;omega
       ·exact(Uj _ e).2 rfl
      ·rw[EU (dH _ _ HQ.out)];exact HO0.out)
    ·obtain rfl:k=l.length:=by omega
     go_wp2_with fail
     go_ret2
     rw[List.take_length] at hm;exact⟨_,_,_,_,_,rfl,hm,hbw⟩
end
section
variable {w w':World} {base b:Nat} {own own':Nat->Nat} {mm:MM} {xs:List TX} {mv tv ev:Value}
def Gone (w:World) (p:Value):Prop:=p= .pointer none\/∃b,p= .pointer (some ⟨b,0,none⟩)/\w.heap[b]? =some (.cells #[.bool false,.slice none 0 0,.slice none 0 0,.slice none 0 0] 179 (0,0))
theorem Gone.below {p:Value} (h:Gone w p) (hb:Below w.heap.size w w'):Gone w' p:=by
 rcases h with rfl|⟨b,rfl,h⟩
 ·exact .inl rfl
 ·exact .inr ⟨b,rfl,(hb.block b (lt_of_block h)).trans h⟩
end
section
variable {w w':World} {base b:Nat} {own own':Nat->Nat} {mm:MM} {xs:List TX} {mv tv ev:Value}
structure SX where
 v:Value
 out:List Int
 fin:Int
def encS (s:SX):List Value:=[s.v,.int .u8 s.fin]
theorem yL:∀s,(encS s).length=2:=fun _=>rfl
structure Dy (w:World) (v:Value) (ls:List SX):Prop where
 rows:fI encS w 2 v ls
 each:∀s∈ls,fI encI w 1 s.v s.out
theorem YA:(Tryz.prog.info? 81).map (fun i=>(i.zero,i.size,i.bytes))=some (some (.agg #[.slice none 0 0,.int .u8 0]),2,32):=by kernel_rfl
theorem Ry (A R:List Value) (a0 a1 x0 x1:Value) (i:Nat) (hi:A.length=i):(((A++a0::a1::R).toArray.setIfInBounds i x0).setIfInBounds (i+1) x1)=(A++x0::x1::R).toArray:=by
 subst hi;simp[List.setIfInBounds_toArray,List.set_append]
theorem Cg {a g k j:Nat} {u:Value} (hne:a≠g) (h:w.cell? ⟨a,j,none⟩=some u) (x y:Value):((w.setCell ⟨g,k*2,none⟩ x).setCell ⟨g,k*2+1,none⟩ y).cell? ⟨a,j,none⟩=some u:=by
 rw[World.cell?_of_block (w:=w) ((dO _ _ _ _ hne).trans (dO _ _ _ _ hne))];exact h
end
section
variable {w w':World} {base b:Nat} {own own':Nat->Nat} {mm:MM} {xs:List TX} {mv tv ev:Value}
def Ku (own:Nat->Nat) (base:Nat) (k:Nat):Nat:=if k<base then 0 else own k
theorem uK {k:Nat} (h:base<=k):Ku own base k=own k:=if_neg (by omega)
theorem eZ.low (h:eZ w base b own mm xs mv tv ev):eZ w base b (Ku own base) mm xs mv tv ev:=
 ⟨h.blk,⟨h.bT.1,by rw[uK h.bT.1];exact h.bT.2⟩,h.mem,fun g hg=>by rw[uK (cK h.mem hg).1];exact h.memT g hg,h.aM,fun g hg=>by rw[uK (cK h.aM hg).1];exact h.fo g hg,
  h.evs,fun g hg=>by rw[uK (cK h.evs hg).1];exact h.jI g hg,h.same,fun i x hx=>by
   have ht:=h.th i x hx;exact⟨ht.code,fun g hn hg=>⟨(ht.kX g hn hg).1,by rw[uK (ht.kX g hn hg).1];exact(ht.kX g hn hg).2⟩,ht.ring,⟨ht.pQ.1,by rw[uK ht.pQ.1];exact ht.pQ.2⟩,ht.out,fun g hg=>by rw[uK (cK ht.out hg).1];exact ht.outT g hg⟩,
  fun k hk=>by unfold Ku;split<;>first|rfl|exact h.fresh k hk⟩
def sI (w:World) (base b:Nat) (mm:MM) (N:Nat):Prop:=
 ∃own xs mv tv ev,eZ w base b own mm xs mv tv ev/\(∀k,own k≠0->base<=k)/\pV N mm
theorem sI.of {N:Nat} (h:eZ w base b own mm xs mv tv ev) (hk:pV N mm):sI w base b mm N:=
 ⟨_,_,_,_,_,h.low,fun k hn=>by
  rcases Nat.lt_or_ge k base with e|e
  ·exact absurd (if_pos e) hn
  ·exact e,hk⟩
theorem sI.below {N:Nat} (h:sI w base b mm N) (hb:Below w.heap.size w w'):sI w' base b mm N:=by
 obtain⟨own,xs,mv,tv,ev,hm,hl,hk⟩:=h;exact⟨own,xs,mv,tv,ev,hm.below hb,hl,hk⟩
theorem sI.goes {N':Nat} {iZ:MM} (hm:eZ w base b own mm xs mv tv ev) (hl:∀k,own k≠0->base<=k) (hg:nA w base b own iZ w') (hk:pV N' iZ):sI w' base b iZ N'/\Below base w w':=by
 obtain⟨⟨own',xs',mv',tv',ev',h',ho⟩,hc⟩:=hg;refine⟨⟨own',xs',mv',tv',ev',h',fun k hn=>?_,hk⟩,hc.vg hm.eX (fun k e=>hl k e.1)⟩;by_cases e:k<w.heap.size
 ·exact hl k (by rw[<-ho k e];exact hn)
 ·have:=hm.eX;omega
theorem FB {v:Value} {mem:Int} {l:List (Value×List bM)} {cs:List (Int×Int)} (h:pI w v l) (hk:dB mem l cs=0):pV 0 (iC mem (l.map (·.2)) cs):=by
 have h1:=um hk;have h2:=p8 hk;have h3:=pX hk;have hlen:(iC mem (l.map (·.2)) cs).mem.length=mem.toNat:=by
  show(iG cs (List.replicate mem.toNat 0)).length=_;rw[qK];simp
 refine⟨by rw[hlen];omega,by simp only[iC,List.length_map];omega,aR _,fun t ht=>?_⟩;simp only[iC,List.map_map,List.mem_map,Function.comp] at ht;obtain⟨p,hp,rfl⟩:=ht;refine⟨by have:=tZ h2.2 p hp;simpa [MT.new] using this,fun o ho=>?_,fun c hc=>by simp[MT.new] at hc,by simp[MT.new],by simp[MT.new],by simp[MT.new]⟩;exact wZ.of (List.all_eq_true.1 (h3.1 p hp) o ho) (h.wf p hp o ho)
end
section
variable {w w':World} {base b:Nat}
instance (o:bM):Decidable (DT o):=by unfold DT;exact inferInstance
end
section
variable {w w':World} {base b:Nat} {own own':Nat->Nat} {mm:MM} {xs:List TX} {mv tv ev:Value}
structure D_ where
 b:Nat
 own:Nat->Nat
 mm:MM
 N:Nat
def Hot (own:Nat->Nat) (k:Nat):Prop:=own k≠0/\¬(5<=own k/\own k%3=2)
def D_.lies (w:World) (base:Nat) (m:D_):Prop:=(∃xs mv tv ev,eZ w base m.b m.own m.mm xs mv tv ev)/\pV m.N m.mm
structure vL (w:World) (base:Nat) (l:List D_):Prop where
 each:∀m∈l,m.lies w base
 apart:∀(i j:Nat) m n,i≠j->l[i]? =some m->l[j]? =some n->∀k,n.own k≠0->¬Hot m.own k
 low:∀m∈l,∀k,m.own k≠0->base<=k
 here:base<=w.heap.size
theorem eZ.wS {base0:Nat} (h:eZ w base b own mm xs mv tv ev) (hb:base0<=base):eZ w base0 b own mm xs mv tv ev:=
 ⟨h.blk,⟨Nat.le_trans hb h.bT.1,h.bT.2⟩,dm h.mem hb,h.memT,dm h.aM hb,h.fo,dm h.evs hb,h.jI,h.same,fun i x hx=>by
  have ht:=h.th i x hx;exact⟨ht.code,fun g hn hg=>⟨Nat.le_trans hb (ht.kX g hn hg).1,(ht.kX g hn hg).2⟩,ht.ring,⟨Nat.le_trans hb ht.pQ.1,ht.pQ.2⟩,dm ht.out hb,ht.outT⟩,h.fresh⟩
theorem vL.none (w:World) {base:Nat} (hb:base<=w.heap.size):vL w base []:=⟨fun m hm=>absurd hm (by simp),fun i j m n _ hi=>by simp at hi,fun m hm=>absurd hm (by simp),hb⟩
theorem vL.below {l:List D_} (h:vL w base l) (hb:Below w.heap.size w w'):vL w' base l:=
 ⟨fun m hm=>by
  obtain⟨⟨xs,mv,tv,ev,h1⟩,h2⟩:=h.each m hm;exact⟨⟨xs,mv,tv,ev,h1.below hb⟩,h2⟩,h.apart,h.low,Nat.le_trans h.here hb.size⟩
def Ot (w w':World) (base:Nat) (n:D_):Prop:=n.lies w' base/\∀k,w.heap.size<=k->n.own k=0
theorem vL.goes {l:List D_} (h:vL w base l) {i:Nat} {m:D_} (hi:l[i]? =some m) {iZ:MM} {N':Nat} (hg:nA w base m.b m.own iZ w') (hk:pV N' iZ):(∃own',vL w' base (l.set i ⟨m.b,own',iZ,N'⟩))/\Below base w w':=by
 obtain⟨⟨own',xs',mv',tv',ev',h',ho⟩,hc⟩:=hg;have hm:=bA hi;obtain⟨⟨xs,mv,tv,ev,h1⟩, -⟩:=h.each m hm;have hlt:=(bE.1 hi).1;have hlow':∀k,own' k≠0->base<=k:=fun k hn=>by
  by_cases e:k<w.heap.size
  ·exact h.low m hm k (by rw[<-ho k e];exact hn)
  ·have:=h.here;omega
 have hold:∀(j:Nat) n,l[j]? =some n->j≠i->Ot w w' base n:=fun j n hj hne=>by
  obtain⟨⟨xs2,mv2,tv2,Je,h2⟩,hk2⟩:=h.each n (bA hj);exact⟨⟨⟨xs2,mv2,tv2,Je,h2.GZ hc (fun k hn=>h.apart i j m n (Ne.symm hne) hi hj k hn)⟩,hk2⟩,fun k hk=>h2.fresh k hk⟩
 have hget:∀(j:Nat) n,(l.set i ⟨m.b,own',iZ,N'⟩)[j]? =some n->(j=i/\n=⟨m.b,own',iZ,N'⟩)\/(j≠i/\l[j]? =some n):=fun j n hj=>by
  by_cases e:i=j
  ·subst e;rw[List.getElem?_set_self hlt] at hj;exact .inl ⟨rfl,(Option.some.inj hj).symm⟩
  ·rw[List.getElem?_set_ne e] at hj;exact .inr ⟨fun q=>e q.symm,hj⟩
 refine⟨⟨own',fun n hn=>?_,fun j1 j2 n1 n2 hne h1' h2' k hk'=>?_,fun n hn k hk'=>?_,Nat.le_trans h.here hc.size⟩,hc.vg h.here (fun k e=>h.low m hm k e.1)⟩
 ·obtain⟨j,hj⟩:=List.getElem?_of_mem hn;rcases hget j n hj with⟨rfl,rfl⟩|⟨hne,hj'⟩
  ·exact⟨⟨xs',mv',tv',ev',h'⟩,hk⟩
  ·exact(hold j n hj' hne).1
 ·rcases hget j1 n1 h1' with⟨rfl,rfl⟩|⟨hne1,hj1⟩
  ·rcases hget j2 n2 h2' with⟨rfl, -⟩|⟨hne2,hj2⟩
   ·exact absurd rfl hne
   ·by_cases e:k<w.heap.size
    ·have:=h.apart j1 j2 m n2 hne hi hj2 k hk';unfold Hot at this⊢;rw[show(D_.own ⟨m.b,own',iZ,N'⟩) k=m.own k from ho k e];exact this
    ·exact absurd ((hold j2 n2 hj2 hne2).2 k (by omega)) hk'
  ·rcases hget j2 n2 h2' with⟨rfl,rfl⟩|⟨hne2,hj2⟩
   ·by_cases e:k<w.heap.size
    ·exact h.apart j1 j2 n1 m hne hj1 hi k (by rw[<-ho k e];exact hk')
    ·intro hh;exact hh.1 ((hold j1 n1 hj1 hne1).2 k (by omega))
   ·exact h.apart j1 j2 n1 n2 hne hj1 hj2 k hk'
 ·obtain⟨j,hj⟩:=List.getElem?_of_mem hn;rcases hget j n hj with⟨rfl,rfl⟩|⟨hne,hj'⟩
  ·exact hlow' k hk'
  ·exact h.low n (bA hj') k hk'
theorem vL.more {l:List D_} (h:vL w base l) (hb:Below w.heap.size w w') {mm:MM} {N:Nat} (hm:eZ w' w.heap.size b own mm xs mv tv ev) (hk:pV N mm):∃own',vL w' base (l++[⟨b,own',mm,N⟩]):=by
 have h1:=h.below hb;have h2:=hm.low.wS h.here;have hn:∀k,Ku own w.heap.size k≠0->w.heap.size<=k:=fun k hn=>by
  rcases Nat.lt_or_ge k w.heap.size with e|e
  ·exact absurd (if_pos e) hn
  ·exact e
 have hf:∀n∈l,∀k,w.heap.size<=k->n.own k=0:=fun n hn k hk=>by
  obtain⟨⟨xs2,mv2,tv2,Je,h3⟩, -⟩:=h.each n hn;exact h3.fresh k hk
 have hget:∀(j:Nat) n,(l++[(⟨b,Ku own w.heap.size,mm,N⟩:D_)])[j]? =some n->(j<l.length/\l[j]? =some n)\/(j=l.length/\n=⟨b,Ku own w.heap.size,mm,N⟩):=fun j n hj=>by
  rcases Nat.lt_or_ge j l.length with e|e
  ·rw[List.getElem?_append_left e] at hj;exact .inl ⟨e,hj⟩
  ·rw[List.getElem?_append_right e] at hj;have hl:=(bE.1 hj).1;simp only[List.length_singleton] at hl;have:j - l.length=0:=by omega
   rw[this] at hj;simp at hj;exact .inr ⟨by omega,hj.symm⟩
 refine⟨Ku own w.heap.size,fun n hn'=>?_,fun j1 j2 n1 n2 hne hj1 hj2 k hk'=>?_,fun n hn' k hk'=>?_,Nat.le_trans h.here hb.size⟩
 ·rcases List.mem_append.1 hn' with e|e
  ·exact h1.each n e
  ·rw[List.mem_singleton.1 e];exact⟨⟨xs,mv,tv,ev,h2⟩,hk⟩
 ·rcases hget j1 n1 hj1 with⟨l1,e1⟩|⟨l1,rfl⟩
  ·rcases hget j2 n2 hj2 with⟨l2,e2⟩|⟨l2,rfl⟩
   ·exact h.apart j1 j2 n1 n2 hne e1 e2 k hk'
   ·exact fun hh=>hh.1 (hf n1 (bA e1) k (hn k hk'))
  ·rcases hget j2 n2 hj2 with⟨l2,e2⟩|⟨l2,rfl⟩
   ·refine fun hh=>?_
    have:=hn k hh.1;exact hk' (hf n2 (bA e2) k this)
   ·omega
 ·rcases List.mem_append.1 hn' with e|e
  ·exact h.low n e k hk'
  ·rw[List.mem_singleton.1 e] at hk';have:=hn k hk';have:=h.here;omega
end
section
variable {w w':World} {base b:Nat} {own own':Nat->Nat} {mm:MM} {xs:List TX} {mv tv ev:Value}
theorem Me (h:eZ w base b own mm xs mv tv ev) (hl:mm.evs.length<=1000000000):
  Calls Tryz.prog 69 #[.pointer (some ⟨b,0,none⟩)] w (vZ 127 4 mF mm.evs w):=by
 obtain⟨ao,cp,rfl⟩:=bF h.evs;have c3:=h.iA 3 _ rfl;have HR:=ag (Rd.iV h.evs);have HL:=ag hl;clear h hl;go_in;go_wp2_with fail;refine(Fv HR.out HL.out).mono ?_;rintro e w1 ⟨cv,rfl,ho,hb⟩;have HO:=ag ho;have HB:=ag hb;clear ho hb;go_wp2_with fail;go_ret;exact⟨_,rfl,HO.out,HB.out⟩
end
theorem vW {w:World} {ao bo:Option Addr} {ca cb:Nat} {l:List Int} (ha:fI encI w 1 (.slice ao l.length ca) l) (hb:fI encI w 1 (.slice bo l.length cb) l) (hm:l.length<=9223372036854775807):
  Calls Tryz.prog 25 #[.slice ao l.length ca,.slice bo l.length cb] w fun e w'=>e= .returned (.bool true)/\Below w.heap.size w w':=by
 have HA:=ag ha;have HB:=ag hb;clear ha hb;go_in;go_wp2;go_loopw [13] (fun i wr=>∃k n:Nat,k<=l.length/\i= .int .i64 k/\wr=w.drewN n) (fun i _=>l.length - (intOf i).toNat)
 case atStart=>exact⟨0,0,Nat.zero_le _,rfl,rfl⟩
 case round=>
  obtain⟨k,n,hk,rfl,rfl⟩:=hrel;by_cases hlt:k<l.length
  ·obtain⟨x,hx⟩:=bW hlt;obtain⟨b1,o1,rfl,hs1,hc1⟩:=HA.out.at jL hx;obtain⟨b2,o2,rfl,hs2,hc2⟩:=HB.out.at jL hx;have x0:=hc1 0 _ rfl;have y0:=hc2 0 _ rfl;simp only[Nat.add_zero,Nat.mul_one] at x0 y0;clear hc1 hc2 hx hs1 hs2;go_wp2_with fail;go_quiet (fail)
   go_wp2;exact⟨⟨k+1,_,by omega,by go_num,rfl⟩,by simp[intOf];omega⟩
  ·obtain rfl:k=l.length:=by omega
   go_wp2;go_ret;exact⟨rfl,below_drewN (aQ _ _) n⟩
end Go.Proofs.YtopdcjimpdalpaaGreat

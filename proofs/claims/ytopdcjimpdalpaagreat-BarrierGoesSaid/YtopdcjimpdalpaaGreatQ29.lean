import Derived.Test.YtopdcjimpdalpaaGreatQ28
import Derived.Laws.Rows
import Derived.Defers
import Derived.Recover
import Derived.StillTailTactics
import Derived.Deep.RegionHeld3
import Derived.OrdersHeld
namespace Go.Proofs.YtopdcjimpdalpaaGreat
open Go.RowKit
set_option linter.all false
set_option maxHeartbeats 2000000
set_option maxRecDepth 100000
section
structure wZ (o:bM):Prop where
 kind:1<=o.kind/\o.kind<=15
 ra:0<=o.a/\o.a<8
 rb:0<=o.b/\o.b<8
 rc:0<=o.c/\o.c<8
 jump:o.kind=6\/o.kind=7->0<=o.n/\o.n<=262144
 note:o.kind=12->1<=o.n/\o.n<=8
 trap:o.kind=13->2<=o.n/\o.n<=8
theorem Dr {regs i:Nat} {r:Int} (h:oV regs i r=true):r<8:=by
 unfold oV at h;split at h
 ·simpa using h
 ·have:r=0:=by simpa using h
  omega
theorem wZ.of {o:bM} (h:dJ o=true) (hw:DT o):wZ o:=by
 unfold dJ at h;cases hf:eB o.kind with
 |none=>rw[hf] at h;cases h
 |some f=>
  rw[hf] at h;simp only[Bool.and_eq_true] at h;obtain⟨⟨⟨⟨⟨h1,h2⟩,h3⟩,h4⟩,h5⟩,h6⟩:=h;have hk:=kinds (k:=o.kind) (by rw[hf];simp);obtain⟨-, -,wa,wb,wc, -⟩:=hw;refine⟨by omega,⟨wa.1,Dr h3⟩,⟨wb.1,Dr h4⟩,⟨wc.1,Dr h5⟩,fun hj=>?_,fun hj=>?_,fun hj=>?_⟩
  ·rcases hj with e|e
   ·rw[e] at hf;simp[eB] at hf;subst hf;simpa [oU] using h6
   ·rw[e] at hf;simp[eB] at hf;subst hf;simpa [oU] using h6
  ·rw[hj] at hf;simp[eB] at hf;subst hf;simpa [oU] using h6
  ·rw[hj] at hf;simp[eB] at hf;subst hf;simpa [oU] using h6
variable {w w':World} {base b:Nat} {own own':Nat->Nat} {mm:MM} {xs:List TX} {mv tv ev:Value}
theorem Jv {G:Prop} (_:wpAny Tryz.prog .text #[] (fun _ _ _=>True) 0 #[] ⟨#[],[]⟩ (default:World)) (h:G):G:=h
def wL (mm:MM) (t:MT) (o:bM) (w:World) (r:Ending) (w':World):Prop:=
 Below w.heap.size w w'/\(t.word o=none/\r= .returned (.int .i64 0)\/∃a,t.word o=some a/\(mm.has a=true/\r= .returned (.int .i64 a)\/mm.has a=false/\r= .panicked [qP 8]))
theorem nL {mm:MM} {a:Int}:mm.has a=true↔0<=a/\a<mm.mem.length:=by unfold MM.has;simp
theorem KM {tb cap:Nat} (h:eZ w base b own mm xs mv (.slice (some ⟨tb,0,none⟩) xs.length cap) ev) {n:Nat} {x:TX} (hx:xs[n]? =some x) (hl:mm.mem.length<=262144) (o:bM) (ho:wZ o) (hk:o.kind=4\/o.kind=15):
  Calls Tryz.prog 103 #[.pointer (some ⟨b,0,none⟩),.pointer (some ⟨tb,n*13,none⟩),.agg (bR o).toArray] w (wL mm x.th o w):=by
 have hw:=ag (show x.th.word o=some (fq (x.th.r o.b+o.n)) from by unfold MT.word;rw[if_pos hk]);obtain⟨kind,bn,ra,rb,rc,num⟩:=o;obtain⟨Dv,rfl⟩:∃q:Nat,rb=q:=⟨rb.toNat,by have:=ho.rb;simp only at this;omega⟩;have hr8:Dv<8:=by have:=ho.rb;simp only at this;omega
 obtain⟨w0,hw0⟩:∃w0,w0=w.alloc (.cells #[.int .u8 kind,.int .u8 bn,.int .u8 ra,.int .u8 (Dv:Int),.int .u8 rc,.int .i64 num] 107):=⟨_,rfl⟩;have hb0:Below w.heap.size w w0:=by rw[hw0];exact(aQ _ _).alloc (aR _) _
 have h0:=h.below hb0;have c1:w0.cell? ⟨tb,n*13+1+Dv,none⟩=some (.int .i64 (x.th.reg Dv)):=by rw[Nat.add_assoc];exact h0.cell hx _ _ (vX x Dv hr8)
 have gy:=aX w (.cells #[.int .u8 kind,.int .u8 bn,.int .u8 ra,.int .u8 (Dv:Int),.int .u8 rc,.int .i64 num] 107);rw[<-hw0] at gy;have d0:w0.cell? ⟨w.heap.size,0,none⟩=some (.int .u8 kind):=af gy rfl;have d3:w0.cell? ⟨w.heap.size,3,none⟩=some (.int .u8 (Dv:Int)):=af gy rfl;have d5:w0.cell? ⟨w.heap.size,5,none⟩=some (.int .i64 num):=af gy rfl;have H0:=ag h0;have HL:=ag hl;have HB:=ag hb0;simp only at hk;obtain⟨A,hA⟩:∃A,A=fq (x.th.reg Dv+num):=⟨_,rfl⟩;have eA:IntKind.i64.wrap (x.th.reg Dv+num)=A:=by rw[hA];exact zm _
 have hw:=ag (show x.th.word ⟨kind,bn,ra,Dv,rc,num⟩=some A from by rw[hA];exact hw.out);clear hA;clear h h0 hx hl ho gy hb0;unfold bR;cases hh:mm.has A with
 |true=>
  have HH:=ag (nL.1 hh);rcases hk with rfl|rfl;all_goals (
   go_in;go_wp2_with fail;simp only[<-hw0];clear hw0
   go_region_with (go_at_call 141;refine(JI H0.out.drew HH.out HL.out).mono ?_;rintro e w1 ⟨rfl,rfl⟩)
   all_goals go_wp2_with fail
   all_goals go_ret
   all_goals exact⟨below_drewN HB.out 1,.inr ⟨_,hw.out,.inl ⟨hh,rfl⟩⟩⟩)
 |false=>
  have HH:=ag (show ¬(0<=A/\A<mm.mem.length) from fun e=>by rw[nL.2 e] at hh;cases hh);rcases hk with rfl|rfl;all_goals (
   go_in;go_wp2_with fail;simp only[<-hw0];clear hw0
   go_region_with (go_at_call 141;refine(Ei H0.out.drew HH.out HL.out).mono ?_;rintro e w1 ⟨rfl,rfl⟩;refine Jv ?_ ⟨rfl,below_drewN HB.out 1,.inr ⟨_,hw.out,.inr ⟨hh,rfl⟩⟩⟩)
   all_goals trivial)
end
section
variable {w w':World} {base b:Nat} {own own':Nat->Nat} {mm:MM} {xs:List TX} {mv tv ev:Value}
theorem IK {tb cap:Nat} (h:eZ w base b own mm xs mv (.slice (some ⟨tb,0,none⟩) xs.length cap) ev) {n:Nat} {x:TX} (hx:xs[n]? =some x) (hl:mm.mem.length<=262144) (o:bM) (ho:wZ o) (hk:o.kind=5\/o.kind=8\/o.kind=9):
  Calls Tryz.prog 103 #[.pointer (some ⟨b,0,none⟩),.pointer (some ⟨tb,n*13,none⟩),.agg (bR o).toArray] w (wL mm x.th o w):=by
 have hw:=ag (show x.th.word o=some (fq (x.th.r o.a+o.n)) from by unfold MT.word;rw[if_neg (by omega),if_pos hk]);obtain⟨kind,bn,ra,rb,rc,num⟩:=o;obtain⟨C_,rfl⟩:∃q:Nat,ra=q:=⟨ra.toNat,by have:=ho.ra;simp only at this;omega⟩;have hr8:C_<8:=by have:=ho.ra;simp only at this;omega
 obtain⟨w0,hw0⟩:∃w0,w0=w.alloc (.cells #[.int .u8 kind,.int .u8 bn,.int .u8 (C_:Int),.int .u8 rb,.int .u8 rc,.int .i64 num] 107):=⟨_,rfl⟩;have hb0:Below w.heap.size w w0:=by rw[hw0];exact(aQ _ _).alloc (aR _) _
 have h0:=h.below hb0;have c1:w0.cell? ⟨tb,n*13+1+C_,none⟩=some (.int .i64 (x.th.reg C_)):=by rw[Nat.add_assoc];exact h0.cell hx _ _ (vX x C_ hr8)
 have gy:=aX w (.cells #[.int .u8 kind,.int .u8 bn,.int .u8 (C_:Int),.int .u8 rb,.int .u8 rc,.int .i64 num] 107);rw[<-hw0] at gy;have d0:w0.cell? ⟨w.heap.size,0,none⟩=some (.int .u8 kind):=af gy rfl;have d2:w0.cell? ⟨w.heap.size,2,none⟩=some (.int .u8 (C_:Int)):=af gy rfl;have d5:w0.cell? ⟨w.heap.size,5,none⟩=some (.int .i64 num):=af gy rfl;have H0:=ag h0;have HL:=ag hl;have HB:=ag hb0;simp only at hk;obtain⟨A,hA⟩:∃A,A=fq (x.th.reg C_+num):=⟨_,rfl⟩;have eA:IntKind.i64.wrap (x.th.reg C_+num)=A:=by rw[hA];exact zm _
 have hw:=ag (show x.th.word ⟨kind,bn,C_,rb,rc,num⟩=some A from by rw[hA];exact hw.out);clear hA;clear h h0 hx hl ho gy hb0;unfold bR;cases hh:mm.has A with
 |true=>
  have HH:=ag (nL.1 hh);rcases hk with rfl|rfl|rfl;all_goals (
   go_in;go_wp2_with fail;simp only[<-hw0];clear hw0
   go_region_with (go_at_call 141;refine(JI H0.out.drew HH.out HL.out).mono ?_;rintro e w1 ⟨rfl,rfl⟩)
   all_goals go_wp2_with fail
   all_goals go_ret
   all_goals exact⟨below_drewN HB.out 1,.inr ⟨_,hw.out,.inl ⟨hh,rfl⟩⟩⟩)
 |false=>
  have HH:=ag (show ¬(0<=A/\A<mm.mem.length) from fun e=>by rw[nL.2 e] at hh;cases hh);rcases hk with rfl|rfl|rfl;all_goals (
   go_in;go_wp2_with fail;simp only[<-hw0];clear hw0
   go_region_with (go_at_call 141;refine(Ei H0.out.drew HH.out HL.out).mono ?_;rintro e w1 ⟨rfl,rfl⟩;refine Jv ?_ ⟨rfl,below_drewN HB.out 1,.inr ⟨_,hw.out,.inr ⟨hh,rfl⟩⟩⟩)
   all_goals trivial)
theorem Lu {tb cap:Nat} (h:eZ w base b own mm xs mv (.slice (some ⟨tb,0,none⟩) xs.length cap) ev) {n:Nat} {x:TX} (o:bM) (hk:o.kind≠4/\o.kind≠15/\o.kind≠5/\o.kind≠8/\o.kind≠9):
  Calls Tryz.prog 103 #[.pointer (some ⟨b,0,none⟩),.pointer (some ⟨tb,n*13,none⟩),.agg (bR o).toArray] w (wL mm x.th o w):=by
 have hw:=ag (show x.th.word o=none from by unfold MT.word;rw[if_neg (by omega),if_neg (by omega)]);obtain⟨kind,bn,ra,rb,rc,num⟩:=o;obtain⟨h1,h2,h3,h4,h5⟩:=hk;simp only at h1 h2 h3 h4 h5;have e1:(kind==4)=false:=by rw[bY];exact h1
 have e2:(kind==15)=false:=by rw[bY];exact h2
 have e3:(kind==5)=false:=by rw[bY];exact h3
 have e4:(kind==8)=false:=by rw[bY];exact h4
 have e5:(kind==9)=false:=by rw[bY];exact h5
 clear h;unfold bR;go_in;go_wp2_with fail;go_ret;exact⟨(aQ _ _).alloc (aR _) _,.inl ⟨hw.out,rfl⟩⟩
theorem wO {tb cap:Nat} (h:eZ w base b own mm xs mv (.slice (some ⟨tb,0,none⟩) xs.length cap) ev) {n:Nat} {x:TX} (hx:xs[n]? =some x) (hl:mm.mem.length<=262144) (o:bM) (ho:wZ o):
  Calls Tryz.prog 103 #[.pointer (some ⟨b,0,none⟩),.pointer (some ⟨tb,n*13,none⟩),.agg (bR o).toArray] w (wL mm x.th o w):=by
 by_cases h1:o.kind=4\/o.kind=15
 ·exact KM h hx hl o ho h1
 ·by_cases h2:o.kind=5\/o.kind=8\/o.kind=9
  ·exact IK h hx hl o ho h2
  ·exact Lu h o (by omega)
theorem zR {tb cap:Nat} (h:eZ w base b own mm xs mv (.slice (some ⟨tb,0,none⟩) xs.length cap) ev) {n:Nat} {x:TX} (hx:xs[n]? =some x) (o:bM) (ho:wZ o):
  Calls Tryz.prog 104 #[.pointer (some ⟨tb,n*13,none⟩),.agg (bR o).toArray] w fun r w'=>r= .returned (.bool (x.th.waits o))/\Below w.heap.size w w':=by
 obtain⟨kind,bn,ra,rb,rc,num⟩:=o;have h0:=h.below ((aQ _ _).alloc (aR _) (.cells #[.int .u8 kind,.int .u8 bn,.int .u8 ra,.int .u8 rb,.int .u8 rc,.int .i64 num] 107));have c1:=h0.cell hx 10 _ rfl;have gy:=aX w (.cells #[.int .u8 kind,.int .u8 bn,.int .u8 ra,.int .u8 rb,.int .u8 rc,.int .i64 num] 107);have d0:=af (o:=0) gy rfl;have HB:=ag ((aQ _ _).alloc (aR _) (.cells #[.int .u8 kind,.int .u8 bn,.int .u8 ra,.int .u8 rb,.int .u8 rc,.int .i64 num] 107):Below w.heap.size w _);obtain⟨c,f,hr⟩:=(h0.th n x hx).ring;have HR:=ag hr;have hk:=ho.kind;simp only at hk;clear h h0 hx gy hr ho;unfold bR;by_cases h5:kind=5
 ·subst h5;have e:x.th.waits ⟨5,bn,ra,rb,rc,num⟩=decide (64<=x.th.wait.length):=rfl;rw[e];go_in;go_wp2_with fail;refine(Ny HR.out).mono ?_;rintro r w1 ⟨rfl,rfl⟩;go_wp2_with fail;go_ret;exact⟨by simp;omega,HB.out⟩
 ·by_cases h8:kind=8\/kind=9\/kind=10
  ·have e:x.th.waits ⟨kind,bn,ra,rb,rc,num⟩=decide (0<x.th.wait.length):=by unfold MT.waits;rw[if_neg h5,if_pos h8]
   rw[e];clear e;rcases h8 with rfl|rfl|rfl;all_goals (
    go_in;go_wp2_with fail;refine(Ny HR.out).mono ?_;rintro r w1 ⟨rfl,rfl⟩;go_wp2_with fail;go_ret;exact⟨by simp,HB.out⟩)
  ·have e:x.th.waits ⟨kind,bn,ra,rb,rc,num⟩=false:=by unfold MT.waits;rw[if_neg h5,if_neg h8]
   rw[e];have e3:(kind==5)=false:=by rw[bY];exact h5
   have e4:(kind==8)=false:=by rw[bY];omega
   have e5:(kind==9)=false:=by rw[bY];omega
   have e6:(kind==10)=false:=by rw[bY];omega
   clear h5 h8 hk;go_in;go_wp2_with fail;go_ret;exact⟨rfl,HB.out⟩
end
structure Bb (N L:Nat) (t:MT):Prop where
 len:t.code.length<=262144
 ops:∀o∈t.code,wZ o
 wait:∀c∈t.wait,0<=c.1/\c.1<(L:Int)
 full:t.wait.length<=64
 at_:0<=t.at_/\t.at_<=262144
 out:t.out.length<=N
structure pV (N:Nat) (m:MM):Prop where
 mem:1<=m.mem.length/\m.mem.length<=262144
 four:m.aM.length<=4
 evs:m.evs.length<=N
 th:∀t∈m.aM,Bb N m.mem.length t
theorem Bb.mono {N N' L:Nat} {t:MT} (h:Bb N L t) (hn:N<=N'):Bb N' L t:=⟨h.len,h.ops,h.wait,h.full,h.at_,Nat.le_trans h.out hn⟩
theorem pV.mono {N N':Nat} {m:MM} (h:pV N m) (hn:N<=N'):pV N' m:=⟨h.mem,h.four,Nat.le_trans h.evs hn,fun t ht=>(h.th t ht).mono hn⟩
theorem pV.put {N:Nat} {m:MM} (h:pV N m) {n:Nat} {t:MT} (ht:Bb N m.mem.length t):pV N (m.put n t):=
 ⟨h.mem,by simpa [MM.put] using h.four,h.evs,fun u hu=>by
  rcases List.mem_or_eq_of_mem_set hu with e|e
  ·exact h.th u e
  ·exact e ▸ ht⟩
theorem pV.tell {N:Nat} {m:MM} (h:pV N m) (n:Nat) (k a b:Int):pV (N+1) (m.tell n k a b):=
 ⟨h.mem,h.four,by have:=h.evs;simp[MM.tell];omega,fun t ht=>(h.th t ht).mono (by omega)⟩
theorem pV.stop {N:Nat} {m:MM} (h:pV N m) {n:Nat} {t:MT} (ht:Bb N m.mem.length t) (k:Int):pV (N+1) (m.stop n t k):=
 (h.put (n:=n) (t:={t with fin:=k}) ⟨ht.len,ht.ops,ht.wait,ht.full,ht.at_,ht.out⟩).tell n _ _ _
theorem pV.abg {N:Nat} {m:MM} (h:pV N m) {l:List Int} (hl:l.length=m.mem.length):pV N {m with mem:=l}:=
 ⟨by rw[show({m with mem:=l}:MM).mem.length=m.mem.length from hl];exact h.mem,h.four,h.evs,fun t ht=>by rw[show({m with mem:=l}:MM).mem.length=m.mem.length from hl];exact h.th t ht⟩
theorem Pk (m:MM) (n:Nat) (t:MT) (o:bM) (a:Int) (P:MM->Prop) (a1:∀i v,P (m.put n (t.goes i v))) (a2:∀k,P (m.stop n t k)) (a5:o.kind=5->P (m.put n {t.next with wait:=t.wait++[(a,t.r o.b)]}))
  (a6:o.kind=6\/o.kind=7->P (m.put n {t with at_:=o.n})) (a10:P (m.put n t.next)) (a8:∀l i v,l.length=m.mem.length->o.kind=8\/o.kind=9->P (({m with mem:=l}:MM).put n (t.goes i v)))
  (a11:P ((m.put n {t.next with out:=t.out++[t.r o.a]}).tell n 9 (t.r o.a) 0)) (a12:∀k x y,P ((m.put n t.next).tell n k x y)) (a15:∀i v,P ((m.put n (t.goes i v)).tell n 1 v 0)) (a0:P m):P (m.act n t o a):=by
 unfold MM.act;by_cases k1:o.kind=1
 ·rw[if_pos k1];exact a1 _ _
 rw[if_neg k1];by_cases k2:o.kind=2
 ·rw[if_pos k2];exact a1 _ _
 rw[if_neg k2];by_cases k3:o.kind=3
 ·rw[if_pos k3];cases gL o.bn (t.r o.a) (t.r o.b) with
  |none=>exact a2 _
  |some v=>exact a1 _ _
 rw[if_neg k3];by_cases k4:o.kind=4
 ·rw[if_pos k4];exact a1 _ _
 rw[if_neg k4];by_cases k5:o.kind=5
 ·rw[if_pos k5];exact a5 k5
 rw[if_neg k5];by_cases k6:o.kind=6
 ·rw[if_pos k6];exact a6 (.inl k6)
 rw[if_neg k6];by_cases k7:o.kind=7
 ·rw[if_pos k7];by_cases z:t.r o.a=0
  ·simp only[z,if_true];exact a6 (.inr k7)
  ·simp only[z,if_false];exact a10
 rw[if_neg k7];by_cases k8:o.kind=8
 ·rw[if_pos k8];exact a8 _ _ _ (by by_cases z:m.at a=t.r o.b<;>simp[z]) (.inl k8)
 rw[if_neg k8];by_cases k9:o.kind=9
 ·rw[if_pos k9];exact a8 _ _ _ (by simp) (.inr k9)
 rw[if_neg k9];by_cases k10:o.kind=10
 ·rw[if_pos k10];exact a10
 rw[if_neg k10];by_cases k11:o.kind=11
 ·rw[if_pos k11];exact a11
 rw[if_neg k11];by_cases k12:o.kind=12
 ·rw[if_pos k12];exact a12 _ _ _
 rw[if_neg k12];by_cases k13:o.kind=13
 ·rw[if_pos k13];exact a2 _
 rw[if_neg k13];by_cases k14:o.kind=14
 ·rw[if_pos k14];exact a2 _
 rw[if_neg k14];by_cases k15:o.kind=15
 ·rw[if_pos k15];exact a15 _ _
 rw[if_neg k15];exact a0
theorem pV.act {N:Nat} {m:MM} (h:pV N m) {n:Nat} {t:MT} {o:bM} {a:Int} (ht:Bb N m.mem.length t) (ho:wZ o) (hc:t.at_<262144) (ha:o.kind=5->m.has a=true) (hf:o.kind=5->t.wait.length<64):pV (N+1) (m.act n t o a):=by
 have hg:∀i v,Bb N m.mem.length (t.goes i v):=fun i v=>⟨ht.len,ht.ops,ht.wait,ht.full,by have:=ht.at_;simp only[MT.goes];omega,ht.out⟩
 have hx:∀{l:List Int},l.length=m.mem.length->∀u,Bb N m.mem.length u->pV (N+1) (({m with mem:=l}:MM).put n u):=fun hl u hu=>((h.abg hl).put (by rw[show({m with mem:=_}:MM).mem.length=m.mem.length from hl];exact hu)).mono (by omega)
 have hnx:Bb N m.mem.length t.next:=⟨ht.len,ht.ops,ht.wait,ht.full,by have:=ht.at_;simp only[MT.next];omega,ht.out⟩;have hj:∀j,0<=j/\j<=262144->Bb N m.mem.length {t with at_:=j}:=fun j hj=>⟨ht.len,ht.ops,ht.wait,ht.full,hj,ht.out⟩
 refine Pk m n t o a (pV (N+1)) (fun i v=>(h.put (hg i v)).mono (by omega)) (fun k=>h.stop ht k) (fun hk=>?_) (fun hk=>(h.put (hj _ (ho.jump hk))).mono (by omega)) ((h.put hnx).mono (by omega))
  (fun l i v hl _=>hx hl _ (hg i v)) ?_ (fun k x y=>(h.put hnx).tell _ _ _ _) (fun i v=>(h.put (hg i v)).tell _ _ _ _) (h.mono (by omega))
 ·have ha':=nL.1 (ha hk);have hf':=hf hk;refine pV.mono (N:=N) (h.put (n:=n) (t:={t.next with wait:=t.wait++[(a,t.r o.b)]}) ⟨ht.len,ht.ops,fun c hc=>?_,?_,hnx.at_,ht.out⟩) (by omega)
  ·rcases List.mem_append.1 hc with e|e
   ·exact ht.wait c e
   ·rw[List.mem_singleton.1 e];exact ha'
  ·simp;omega
 ·refine⟨h.mem,by simpa [MM.put,MM.tell] using h.four,by have:=h.evs;simp[MM.put,MM.tell];omega,fun u hu=>?_⟩;rcases List.mem_or_eq_of_mem_set hu with e|e
  ·exact(h.th u e).mono (by omega)
  ·subst e;exact⟨ht.len,ht.ops,ht.wait,ht.full,hnx.at_,by have:=ht.out;simp;omega⟩
theorem Gf {m:MM} {z:Int} {t:MT} (h:m.xq z=some t):0<=z/\m.aM[z.toNat]? =some t:=by
 unfold MM.xq at h;split at h
 ·cases h
 ·exact⟨by omega,h⟩
theorem pV.go {N:Nat} {m:MM} (h:pV N m) {n:Nat} {t:MT} (ht:Bb N m.mem.length t):pV (N+1) (m.go n t).2:=by
 unfold MM.go;split
 ·exact h.stop ht _
 ·rename_i o ho;have ho':t.code[t.at_.toNat]? =some o:=by split at ho<;>first|exact ho|cases ho
  have hl:=(bE.1 ho').1;have hok:=ht.ops o (bA ho');have hlen:=ht.len;have h0:=ht.at_;have L9:o.kind=5->¬t.waits o=true->t.wait.length<64:=fun hk hw=>by
   unfold MT.waits at hw;rw[if_pos hk] at hw;simpa using hw
  split
  ·rename_i hwd;split
   ·exact h.mono (by omega)
   ·rename_i hw;refine h.act ht hok (by omega) (fun hk=>?_) (fun hk=>L9 hk hw);unfold MT.word at hwd;rw[if_neg (by omega),if_pos (by omega)] at hwd;cases hwd
  ·split
   ·rename_i hh;split
    ·exact h.mono (by omega)
    ·rename_i hw;exact h.act ht hok (by omega) (fun _=>hh) (fun hk=>L9 hk hw)
   ·exact h.stop ht _
theorem pV.step {N:Nat} {m:MM} (h:pV N m) (z:Int):pV (N+1) (m.step z).2:=by
 unfold MM.step;split
 ·exact h.mono (by omega)
 ·rename_i t ht;split
  ·exact h.mono (by omega)
  ·exact h.go (h.th t (bA (Gf ht).2))
theorem pV.flush {N:Nat} {m:MM} (h:pV N m) (z:Int):pV N (m.flush z).2:=by
 unfold MM.flush;split
 ·exact h
 ·rename_i t ht;have hk:=h.th t (bA (Gf ht).2);split
  ·exact h
  ·rename_i c r hr;have hl:({m with mem:=m.mem.set c.1.toNat c.2}:MM).mem.length=m.mem.length:=by simp
   refine(h.abg (l:=m.mem.set c.1.toNat c.2) (by simp)).put ?_;rw[hl];exact⟨hk.len,hk.ops,fun d hd=>hk.wait d (by rw[hr];exact List.mem_cons_of_mem _ hd),by have:=hk.full;rw[hr] at this;simp at this⊢;omega,hk.at_,hk.out⟩
def Ck:Array Value:=#[.nilFunc,.func (.func 143) #[] #[],.func (.func 144) #[] #[],.func (.func 145) #[] #[],.func (.func 146) #[] #[],.func (.func 147) #[] #[],.func (.func 148) #[] #[],.func (.func 149) #[] #[],.func (.func 150) #[] #[],.func (.func 151) #[] #[],.func (.func 152) #[] #[],.func (.func 153) #[] #[],.func (.func 154) #[] #[],.func (.func 155) #[] #[],.func (.func 156) #[] #[],.func (.func 157) #[] #[]]
theorem ET (w:World):Calls Tryz.prog 105 #[] w fun r w'=>r= .returned (.agg Ck)/\Below w.heap.size w w':=by
 have o1:=fun w a=>run_store Tryz.prog w a .nilFunc .plain rfl
 have o2:=fun w a f c d=>run_store Tryz.prog w a (.func f c d) .plain rfl
 go_in;go_wp2_with fail;try simp only[Exit.inBlock,Exit.then]
 refine bodyPost_ret (results_cell_row rfl _ _ _ _ Ck (0,0) (.array 16 194) rfl (heap_alloc_new w _) (by kernel_rfl) rfl (by kernel_rfl)) rfl ?_;exact⟨rfl,(aQ _ _).alloc (aR _) _⟩
structure XZ (w:World) (base b:Nat) (own:Nat->Nat) (mm:MM) (xs:List TX) (mv ev:Value) (tb cap n:Nat) (x:TX) (o:bM) (a:Int):Prop where
 at_:eZ w base b own mm xs mv (.slice (some ⟨tb,0,none⟩) xs.length cap) ev
 hx:xs[n]? =some x
 pl:0<=x.th.at_/\x.th.at_<=262144
 has:o.kind=4\/o.kind=8\/o.kind=9\/o.kind=15->mm.has a=true
 full:o.kind=5->x.th.wait.length<64
 out:x.th.out.length<1000000000
 evs:mm.evs.length<1000000000
 four:xs.length<=4
theorem LC {k:Int} (h:1<=k/\k<=15):k=1\/k=2\/k=3\/k=4\/k=5\/k=6\/k=7\/k=8\/k=9\/k=10\/k=11\/k=12\/k=13\/k=14\/k=15:=by omega
theorem Nb (o:bM) (ho:wZ o):∃F,Ck[o.kind.toNat]? =some (.func (.func F) #[] #[])/\(∀args w,(callFunc F args).run Tryz.prog w= .ok (.enter F args) w)/\∀(w:World) (base b:Nat) (own:Nat->Nat) (mm:MM) (xs:List TX) (mv ev:Value) (tb cap n:Nat) (x:TX) (a:Int),
  XZ w base b own mm xs mv ev tb cap n x o a->Calls Tryz.prog F #[.pointer (some ⟨b,0,none⟩),.pointer (some ⟨tb,n*13,none⟩),.agg (bR o).toArray,.int .i64 a] w (gQ base b own mm xs tb cap n x o a w):=by
 obtain⟨kind,bn,ra,rb,rc,num⟩:=o;obtain⟨hk,hra,hrb,hrc,hj,hn,ht⟩:=ho;simp only at hk hra hrb hrc hj hn ht;obtain⟨ra,rfl⟩:=Int.eq_ofNat_of_zero_le hra.1;obtain⟨rb,rfl⟩:=Int.eq_ofNat_of_zero_le hrb.1;obtain⟨rc,rfl⟩:=Int.eq_ofNat_of_zero_le hrc.1;have hra:ra<8:=by omega
 have hrb:rb<8:=by omega
 have hrc:rc<8:=by omega
 rcases LC hk with rfl|rfl|rfl|rfl|rfl|rfl|rfl|rfl|rfl|rfl|rfl|rfl|rfl|rfl|rfl
 ·refine⟨143,rfl,fun _ _=>by kernel_rfl,fun w base b own mm xs mv ev tb cap n x a h=>?_⟩;exact WE ⟨h.at_,h.hx,hra,hrb,hrc,h.pl⟩ a
 ·refine⟨144,rfl,fun _ _=>by kernel_rfl,fun w base b own mm xs mv ev tb cap n x a h=>?_⟩;exact Rm ⟨h.at_,h.hx,hra,hrb,hrc,h.pl⟩ a
 ·refine⟨145,rfl,fun _ _=>by kernel_rfl,fun w base b own mm xs mv ev tb cap n x a h=>?_⟩;exact SG ⟨h.at_,h.hx,hra,hrb,hrc,h.pl⟩ a
 ·refine⟨146,rfl,fun _ _=>by kernel_rfl,fun w base b own mm xs mv ev tb cap n x a h=>?_⟩;have h2:=nL.1 (h.has (by simp));obtain⟨a,rfl⟩:=Int.eq_ofNat_of_zero_le h2.1;have ha:a<mm.mem.length:=by omega
  exact Qw ⟨h.at_,h.hx,hra,hrb,hrc,h.pl⟩ ha
 ·refine⟨147,rfl,fun _ _=>by kernel_rfl,fun w base b own mm xs mv ev tb cap n x a h=>?_⟩;exact Pm ⟨h.at_,h.hx,hra,hrb,hrc,h.pl⟩ a (h.full rfl)
 ·refine⟨148,rfl,fun _ _=>by kernel_rfl,fun w base b own mm xs mv ev tb cap n x a h=>?_⟩;exact Uc ⟨h.at_,h.hx,hra,hrb,hrc,h.pl⟩ a (hj (.inl rfl))
 ·refine⟨149,rfl,fun _ _=>by kernel_rfl,fun w base b own mm xs mv ev tb cap n x a h=>?_⟩;exact Tv ⟨h.at_,h.hx,hra,hrb,hrc,h.pl⟩ a (hj (.inr rfl))
 ·refine⟨150,rfl,fun _ _=>by kernel_rfl,fun w base b own mm xs mv ev tb cap n x a h=>?_⟩;have h2:=nL.1 (h.has (by simp));obtain⟨a,rfl⟩:=Int.eq_ofNat_of_zero_le h2.1;have ha:a<mm.mem.length:=by omega
  exact Vk ⟨h.at_,h.hx,hra,hrb,hrc,h.pl⟩ ha
 ·refine⟨151,rfl,fun _ _=>by kernel_rfl,fun w base b own mm xs mv ev tb cap n x a h=>?_⟩;have h2:=nL.1 (h.has (by simp));obtain⟨a,rfl⟩:=Int.eq_ofNat_of_zero_le h2.1;have ha:a<mm.mem.length:=by omega
  exact Ua ⟨h.at_,h.hx,hra,hrb,hrc,h.pl⟩ ha
 ·refine⟨152,rfl,fun _ _=>by kernel_rfl,fun w base b own mm xs mv ev tb cap n x a h=>?_⟩;exact Om ⟨h.at_,h.hx,hra,hrb,hrc,h.pl⟩ a
 ·refine⟨153,rfl,fun _ _=>by kernel_rfl,fun w base b own mm xs mv ev tb cap n x a h=>?_⟩;exact TV ⟨h.at_,h.hx,hra,hrb,hrc,h.pl⟩ a h.out h.evs h.four
 ·refine⟨154,rfl,fun _ _=>by kernel_rfl,fun w base b own mm xs mv ev tb cap n x a h=>?_⟩;exact S9 ⟨h.at_,h.hx,hra,hrb,hrc,h.pl⟩ a (hn rfl) h.evs h.four
 ·refine⟨155,rfl,fun _ _=>by kernel_rfl,fun w base b own mm xs mv ev tb cap n x a h=>?_⟩;exact RB ⟨h.at_,h.hx,hra,hrb,hrc,h.pl⟩ a (ht rfl)
 ·refine⟨156,rfl,fun _ _=>by kernel_rfl,fun w base b own mm xs mv ev tb cap n x a h=>?_⟩;exact QM ⟨h.at_,h.hx,hra,hrb,hrc,h.pl⟩ a
 ·refine⟨157,rfl,fun _ _=>by kernel_rfl,fun w base b own mm xs mv ev tb cap n x a h=>?_⟩;have h2:=nL.1 (h.has (by simp));obtain⟨a,rfl⟩:=Int.eq_ofNat_of_zero_le h2.1;have ha:a<mm.mem.length:=by omega
  exact QT ⟨h.at_,h.hx,hra,hrb,hrc,h.pl⟩ ha h.evs h.four
section
variable {w w':World} {base b:Nat} {own own':Nat->Nat} {mm:MM} {xs:List TX} {mv tv ev:Value}
theorem nA.same (h:eZ w base b own mm xs mv tv ev) (hb:Below w.heap.size w w'):nA w base b own mm w':=⟨⟨own,xs,mv,tv,ev,h.below hb,fun _ _=>rfl⟩,bH.of_below hb⟩
theorem OG (h:eZ w base b own mm xs mv tv ev) {z:Int} (hz:z<0\/xs.length<=z):
  Calls Tryz.prog 63 #[.pointer (some ⟨b,0,none⟩),.int .i64 z] w fun r w'=>r= .returned (.bool false)/\Below w.heap.size w w':=by
 have H:=ag h;have HB:=ag ((((aQ w.heap.size w).alloc (aR _) (.cells #[.pointer (some ⟨b,0,none⟩)] 144)).alloc (by simp) (.cells #[.bool false] 4)));clear h
 go_enter_defers Tryz.func63,Tryz.ntmps63
 go_wp2_with fail;refine(WQ (H.out.below HB.out) hz).mono ?_;rintro e w1 ⟨rfl,rfl⟩;go_wp2_with fail;refine⟨.bool false,?_,rfl,HB.out.alloc (by simp;omega) _⟩;simp[results,Tryz.results63,go_sem]
theorem Q3 {P:Program} {c:Code} {Q:Exit->Act->World->Prop} {a:Act} {w:World} (h:∀Q',Q'=Q->c.wp P Q' a w):c.wp P Q a w:=h Q rfl
theorem uO {tb cap n:Nat} {x:TX} (h:eZ w base b own mm xs mv (.slice (some ⟨tb,0,none⟩) xs.length cap) ev) (hx:xs[n]? =some x) (hev:mm.evs.length<1000000000) (h4:xs.length<=4) {pt pd pm:Nat} {v:Bool} (k:Int) (hk:1<=k/\k<256)
  (ct:w.cell? ⟨pt,0,none⟩=some (.pointer (some ⟨tb,n*13,none⟩))) (cd:w.cell? ⟨pd,0,none⟩=some (.bool v)) (fd:w.frozen? ⟨pd,0,none⟩=false) (cm:w.cell? ⟨pm,0,none⟩=some (.pointer (some ⟨b,0,none⟩))) (ht:own pt=0) (hd:own pd=0) (hm:own pm=0) (hdt:pd≠pt) (hdm:pd≠pm):
  CallsD Tryz.prog 101 #[.pointer (some ⟨pt,0,none⟩),.pointer (some ⟨pd,0,none⟩),.pointer (some ⟨pm,0,none⟩)] (.panicking [qP k]) w fun e u' w'=>
   e= .returned (.tuple #[])/\u'= .panicking [{qP k with recovered:=true}]/\w'.cell? ⟨pd,0,none⟩=some (.bool true)/\(∃own' ev',eZ w' base b own' (mm.stop n x.th k) (xs.set n {x with th:={x.th with fin:=k}}) mv (.slice (some ⟨tb,0,none⟩) (xs.set n {x with th:={x.th with fin:=k}}).length cap) ev'/\∀k,k<w.heap.size->own' k=own k)/\
   bH (fun k=>k=pd\/own k≠0/\¬(5<=own k/\own k%3=2)) w w':=by
 refine callsD_of_wpS Tryz.func101 rfl fun c₀ cs hu=>?_
 simp only[Tryz.ntmps101,List.size_toArray,List.length_cons,List.length_nil,Nat.reduceAdd,Nat.reduceSub,Array.replicate_succ,
   Array.replicate_zero,List.push_toArray,List.append_toArray,List.nil_append,List.cons_append]
 apply wpS_seq;apply wpS_region;simp[wpOpsS,go_sem,recoverD,hu,Tryz.ntmps101,Exit.thenS,qP];refine wpS_of_wp (Q3 fun Q' hQ=>?_);have HQ:=ag hQ;clear hQ;have hn:n<xs.length:=(bE.1 hx).1;have f12:=h.free (tb:=tb) (by omega) (n*13+12);have e12:=h.cell hx 12 _ rfl;have H:=ag h;have HX:=ag hx;have HE:=ag hev;have H4:=ag h4;clear h hx hev h4 hu;have hq:∀w,Sem.run Tryz.prog (binOp .neq 20 (.iface 188 (.int .u8 k)) .nilIface) w= .ok (.bool true) w:=by
  intro w;simp[go_sem]
 have hta:∀w,Sem.run Tryz.prog (Instr.typeAssert (.iface 188 (.int .u8 k)) 20 188 true) w= .ok (.tuple #[.int .u8 k,.bool true]) w:=by
  intro w;simp[Instr.typeAssert,run_underlying Tryz.underlying188,go_sem]
 have hpl:pd<((w.setCell ⟨tb,n*13+12,none⟩ (.int .u8 k)).setCell ⟨pd,0,none⟩ (.bool true)).heap.size:=by rw[bG,bG];exact dH w _ cd
 have htb:pd≠tb:=fun e=>by rw[e,H.out.fo tb rfl] at hd;cases hd
 have zA:(w.setCell ⟨tb,n*13+12,none⟩ (.int .u8 k)).cell? ⟨pd,0,none⟩=some (.bool v):=by rw[World.cell?_of_block (w:=w) (dO _ _ _ _ htb)];exact cd
 have hm1:=(H.out.aT HX.out {x with th:={x.th with fin:=k}} 12 (.int .u8 k) (by omega) rfl rfl rfl rfl rfl rfl rfl).keep (w':=(w.setCell ⟨tb,n*13+12,none⟩ (.int .u8 k)).setCell ⟨pd,0,none⟩ (.bool true)) (by rw[bG,bG,bG];exact aR _) (fun g hg _=>dO _ _ _ _ (fun e=>hg (by rw[e];exact hd)));have HM:=ag hm1;have HT:=ag hd;have J8:=ag (show bH (fun k=>k=pd\/own k≠0/\¬(5<=own k/\own k%3=2)) w ((w.setCell ⟨tb,n*13+12,none⟩ (.int .u8 k)).setCell ⟨pd,0,none⟩ (.bool true)) from
  ((bH.refl _ w).setCell (p:=⟨tb,n*13+12,none⟩) (.inl (.inr (by show own tb≠0/\¬(5<=own tb/\own tb%3=2);rw[H.out.fo tb rfl];decide))) _).setCell (p:=⟨pd,0,none⟩) (.inl (.inl rfl)) _)
 clear hm1 hd ht hm;go_wp2_with fail
 ·have HK:=ag (show k=1 by simp_all);refine(sH HM.out (gM HX.out _) HE.out (by rw[List.length_set];exact H4.out) 10 0 0).mono ?_;rintro e w3 ⟨rfl,⟨jA,Je,hm2,ho2⟩,hc2⟩;have HD:=ag (show w3.cell? ⟨pd,0,none⟩=some (.bool true) from(World.cell?_of_block (hc2.block pd hpl (by rw[HT.out];omega))).trans (World.cell?_setCell_same _ _ _ zA));have H2:=ag hm2;have HO:=ag (show ∀k,k<w.heap.size->jA k=own k from fun k hk=>ho2 k (by rw[bG,bG];exact hk));have HC:=ag (bH.gY (S:=fun k=>k=pd\/own k≠0/\¬(5<=own k/\own k%3=2)) J8.out hc2 (fun k _ e=>.inr (by rcases e with e|e<;>rw[e]<;>decide)));clear hm2 ho2 hc2 zA;go_wp2_with fail;rw[HQ.out];refine⟨rfl,_,rfl,_,results_none rfl _ _ _,rfl,rfl,HD.out,⟨jA,⟨Je,?_⟩,HO.out⟩,by simpa using HC.out⟩;have:=H2.out;simpa [MM.stop,HK.out] using this
 ·have HK:=ag (show ¬k=1 by simp_all);refine(sH HM.out (gM HX.out _) HE.out (by rw[List.length_set];exact H4.out) 11 k 0).mono ?_;rintro e w3 ⟨rfl,⟨jA,Je,hm2,ho2⟩,hc2⟩;have HD:=ag (show w3.cell? ⟨pd,0,none⟩=some (.bool true) from(World.cell?_of_block (hc2.block pd hpl (by rw[HT.out];omega))).trans (World.cell?_setCell_same _ _ _ zA));have H2:=ag hm2;have HO:=ag (show ∀k,k<w.heap.size->jA k=own k from fun k hk=>ho2 k (by rw[bG,bG];exact hk));have HC:=ag (bH.gY (S:=fun k=>k=pd\/own k≠0/\¬(5<=own k/\own k%3=2)) J8.out hc2 (fun k _ e=>.inr (by rcases e with e|e<;>rw[e]<;>decide)));clear hm2 ho2 hc2 zA;go_wp2_with fail;rw[HQ.out];refine⟨rfl,_,rfl,_,results_none rfl _ _ _,rfl,rfl,HD.out,⟨jA,⟨Je,?_⟩,HO.out⟩,by simpa using HC.out⟩;have:=H2.out;simpa [MM.stop,HK.out] using this
end
section
theorem XB:Tryz.prog.underlying 195=some (.array 16 194):=by kernel_rfl
theorem Xj:(Tryz.prog.info? 194).map (·.size)=some 1:=by kernel_rfl
theorem Ak {ki:Int} (hk:1<=ki/\ki<=15) {F:FuncId} (hF:Ck[ki.toNat]? =some (.func (.func F) #[] #[])) (w:World):
  Sem.run Tryz.prog (Instr.index 195 (.agg Ck) (.int .u8 ki)) w= .ok (.func (.func F) #[] #[]) w:=by
 have hs:Sem.run Tryz.prog (sizeOf 194) w= .ok 1 w:=by
  cases hq:Tryz.prog.info? 194 with
  |none=>have:=Xj;rw[hq] at this;cases this
  |some i=>have:=Xj;rw[hq] at this;simp at this;simp[sizeOf,typeInfo,hq,this]
 have h1:0<=ki/\ki<16:=by omega
 simp[Instr.index,asIntOf,run_underlying XB,hs,h1,part,hF]
theorem aU {w:World} {a:Addr} {u:Value} (h:w.cell? a=some u) (o:Obj):(w.alloc o).cell? a=some u:=by
 rw[World.cell?_of_block (w:=w) (heap_alloc_old w o (dH w a h))];exact h
theorem gq {w w':World} {m:Nat} {a:Addr} (h:Below m w w') (hl:a.block<m) (hf:w.frozen? a=false):w'.frozen? a=false:=by
 have:=h.block _ hl;unfold World.frozen? at hf⊢;rw[this];exact hf
theorem qa {w:World} {a:Addr} {o:Obj} (hf:w.frozen? a=false) (hl:a.block<w.heap.size):(w.alloc o).drew.frozen? a=false:=gq (below_drewN ((aQ _ _).alloc (aR _) o) 1) hl hf
theorem Uw {mm:MM} {n:Nat} {t:MT} {o:bM} {a:Int} (h0:0<=t.at_) (ho:t.code[t.at_.toNat]? =some o) (hw:t.word o=none/\a=0\/t.word o=some a/\mm.has a=true):mm.go n t=if t.waits o=true then(false,mm) else(true,mm.act n t o a):=by
 unfold MM.go;rw[if_neg (by omega),ho];rcases hw with⟨h1,rfl⟩|⟨h1,h2⟩
 ·simp only[h1]
 ·simp only[h1,h2,if_true]
theorem XW {mm:MM} {n:Nat} {t:MT} {o:bM} {a:Int} (h0:0<=t.at_) (ho:t.code[t.at_.toNat]? =some o) (hw:t.word o=some a/\mm.has a=false):mm.go n t=(true,mm.stop n t 8):=by
 unfold MM.go;rw[if_neg (by omega),ho];simp[hw.1,hw.2]
theorem C9 {mm:MM} {t:MT} {o:bM} {a:Int} (hw:t.word o=none/\a=0\/t.word o=some a/\mm.has a=true):o.kind=4\/o.kind=8\/o.kind=9\/o.kind=15->mm.has a=true:=by
 intro hk;rcases hw with⟨h1,h2⟩|⟨h1,h2⟩
 ·unfold MT.word at h1;split at h1
  ·cases h1
  ·rw[if_pos (by omega)] at h1;cases h1
 ·exact h2
theorem ED {t:MT} {o:bM} (hk:o.kind=5) (h:t.waits o=false):t.wait.length<64:=by
 unfold MT.waits at h;rw[if_pos hk] at h;simpa using h
theorem JQ {P:Program} {fn:Func} {t t':Array Value} {R:Ending->World->Prop} (h:∀w,(results fn t).run P w=(results fn t').run P w):∀(ds:List Deferred) (u:FrameMode) (w:World),Leaves P fn t R ds u w->Leaves P fn t' R ds u w:=by
 intro ds;induction ds with
 |nil=>
  intro u w hl;cases u with
  |returning=>
   obtain⟨v,h1,h2⟩:=hl;exact⟨v,(h w).symm.trans h1,h2⟩
  |panicking c=>exact hl
  |run=>exact hl
 |cons d ds ih=>
  intro u w hl;obtain⟨h1,fv,cap,f,args,h2,h3,h4⟩:=hl;refine⟨h1,fv,cap,f,args,h2,h3,h4.mono ?_⟩;intro e u' w' hr;cases e with
  |returned v=>exact ih _ _ hr
  |panicked c=>exact ih _ _ hr
  |outgrown=>exact hr
theorem calm {K:Act->World->Prop} {R:Ending->World->Prop} {d:Nat} {v:Value} (hd:4<d) (c:List PanicEntry) (a:Act) (w:World) (h:(Exit.then K (bodyPostD Tryz.prog Tryz.f63 R)) (.panic c) (a.put (some d) v) w):
  (Exit.then K (bodyPostD Tryz.prog Tryz.f63 R)) (.panic c) a w:=by
 refine JQ (t:=(a.put (some d) v).tmps) (fun w=>?_) _ _ _ h;have:(a.tmps.setIfInBounds d v)[4]? =a.tmps[4]?:=by
  rw[Array.getElem?_setIfInBounds];rw[if_neg (by omega)]
 simp[results,Tryz.results63,Act.put,this]
theorem O8 {own:Nat->Nat} {tb p:Nat} (h3:own tb=3) (h0:own p=0) (e:p=tb):False:=by rw[e,h3] at h0;cases h0
theorem ql (w:World) (n:Nat):(w.drewN n).heap.size=w.heap.size:=rfl
variable {w w':World} {base b:Nat} {own own':Nat->Nat} {mm:MM} {xs:List TX} {mv ev:Value} {tb cap n:Nat} {x:TX}
theorem DF (w:World) (pt pd pm:Nat):
  CallsD Tryz.prog 101 #[.pointer (some ⟨pt,0,none⟩),.pointer (some ⟨pd,0,none⟩),.pointer (some ⟨pm,0,none⟩)] .returning w fun e u' w'=>e= .returned (.tuple #[])/\u'= .returning/\w'=w:=by
 refine callsD_of_wpS Tryz.func101 rfl fun c₀ cs hu=>?_
 simp only[Tryz.ntmps101,List.size_toArray,List.length_cons,List.length_nil,Nat.reduceAdd,Nat.reduceSub,Array.replicate_succ,
   Array.replicate_zero,List.push_toArray,List.append_toArray,List.nil_append,List.cons_append]
 apply wpS_seq;apply wpS_region;simp[wpOpsS,go_sem,recoverD,hu,Tryz.ntmps101,Exit.thenS];refine wpS_of_wp (Q3 fun Q' hQ=>?_);have HQ:=ag hQ;have HU:=ag hu;clear hQ hu;go_wp2_with fail;rw[HQ.out];refine⟨rfl,.returning,?_,_,results_none rfl _ _ _,rfl,rfl,rfl⟩;have:=HU.out;cases c₀
 simp_all
theorem Ux (h:eZ w base b own mm xs mv (.slice (some ⟨tb,0,none⟩) xs.length cap) ev) (hx:xs[n]? =some x) (hf:x.th.fin≠0):
  Calls Tryz.prog 63 #[.pointer (some ⟨b,0,none⟩),.int .i64 (n:Int)] w fun r w'=>r= .returned (.bool false)/\Below w.heap.size w w':=by
 have hb2:Below w.heap.size w ((w.alloc (.cells #[.pointer (some ⟨b,0,none⟩)] 144)).alloc (.cells #[.bool false] 4)):=(((aQ w.heap.size w).alloc (aR _) _).alloc (by simp) _);have hb3:Below w.heap.size w (((w.alloc (.cells #[.pointer (some ⟨b,0,none⟩)] 144)).alloc (.cells #[.bool false] 4)).alloc (.cells #[.pointer (some ⟨tb,n*13,none⟩)] 186)):=hb2.alloc (by simp;omega) _;have h2:=h.below hb2;have h3:=h.below hb3;have hw0:own w.heap.size=0:=h.fresh _ (aR _);have hw1:own (w.heap.size+1)=0:=h.fresh _ (by omega);have hw2:own (w.heap.size+1+1)=0:=h.fresh _ (by omega);have kB:=aX ((w.alloc (.cells #[.pointer (some ⟨b,0,none⟩)] 144)).alloc (.cells #[.bool false] 4)) (.cells #[.pointer (some ⟨tb,n*13,none⟩)] 186);have kA:=heap_alloc_new (w.alloc (.cells #[.pointer (some ⟨b,0,none⟩)] 144)) (.cells #[.bool false] 4);simp only[World.size_alloc] at kA kB;have kA':=(heap_alloc_old ((w.alloc (.cells #[.pointer (some ⟨b,0,none⟩)] 144)).alloc (.cells #[.bool false] 4)) (.cells #[.pointer (some ⟨tb,n*13,none⟩)] 186) (show w.heap.size+1<_ by simp)).trans kA;have kC:=(heap_alloc_old ((w.alloc (.cells #[.pointer (some ⟨b,0,none⟩)] 144)).alloc (.cells #[.bool false] 4)) (.cells #[.pointer (some ⟨tb,n*13,none⟩)] 186) (show w.heap.size<_ by simp;omega)).trans ((heap_alloc_old (w.alloc (.cells #[.pointer (some ⟨b,0,none⟩)] 144)) (.cells #[.bool false] 4) (show w.heap.size<_ by simp)).trans (heap_alloc_new w (.cells #[.pointer (some ⟨b,0,none⟩)] 144)));have ct:(((w.alloc (.cells #[.pointer (some ⟨b,0,none⟩)] 144)).alloc (.cells #[.bool false] 4)).alloc (.cells #[.pointer (some ⟨tb,n*13,none⟩)] 186)).cell? ⟨w.heap.size+1+1,0,none⟩=some (.pointer (some ⟨tb,n*13,none⟩)):=af kB rfl;have cd:(((w.alloc (.cells #[.pointer (some ⟨b,0,none⟩)] 144)).alloc (.cells #[.bool false] 4)).alloc (.cells #[.pointer (some ⟨tb,n*13,none⟩)] 186)).cell? ⟨w.heap.size+1,0,none⟩=some (.bool false):=af kA' rfl;have fd:(((w.alloc (.cells #[.pointer (some ⟨b,0,none⟩)] 144)).alloc (.cells #[.bool false] 4)).alloc (.cells #[.pointer (some ⟨tb,n*13,none⟩)] 186)).frozen? ⟨w.heap.size+1,0,none⟩=false:=aJ kA';have cm:(((w.alloc (.cells #[.pointer (some ⟨b,0,none⟩)] 144)).alloc (.cells #[.bool false] 4)).alloc (.cells #[.pointer (some ⟨tb,n*13,none⟩)] 186)).cell? ⟨w.heap.size,0,none⟩=some (.pointer (some ⟨b,0,none⟩)):=af kC rfl;have e0:=h3.cell hx 0 _ rfl;rw[Nat.add_zero] at e0;have e9:=h3.cell hx 9 _ rfl;have e12:=h3.cell hx 12 _ rfl;have yx:=h3.cell hx 12 _ rfl;have HX:=ag hx;have H:=ag h;have H2:=ag h2;have H3:=ag h3;have HB:=ag hb3;have HW:=ag (And.intro hw0 (And.intro hw1 hw2));have hf':(x.th.fin==0)=false:=by simpa using hf
 have hf2:(x.th.fin !=0)=true:=by simpa using hf
 have U0:∀(fn:Fn) (first cap:Array Value) (w:World),(Instr.makeFunc fn first cap).run Tryz.prog w= .ok (.func fn first cap) w:=fun _ _ _ _=>rfl
 clear hx h h2 h3 hb2 hb3 kA kB kA' kC hw0 hw1 hw2
 go_enter_defers Tryz.func63,Tryz.ntmps63
 go_wp2_with fail;refine(vK H2.out HX.out).mono ?_;rintro e w1 ⟨rfl,rfl⟩;go_wp2_with fail;refine⟨.bool false,?_,rfl,HB.out⟩;simp[results,Tryz.results63,go_sem]
theorem TU (h:eZ w base b own mm xs mv (.slice (some ⟨tb,0,none⟩) xs.length cap) ev) (hx:xs[n]? =some x) (hf:x.th.fin=0) (hat:x.th.at_<0\/x.th.code.length<=x.th.at_) (hev:mm.evs.length<1000000000) (h4:xs.length<=4):
  Calls Tryz.prog 63 #[.pointer (some ⟨b,0,none⟩),.int .i64 (n:Int)] w fun r w'=>r= .returned (.bool (mm.go n x.th).1)/\nA w base b own (mm.go n x.th).2 w':=by
 have hb2:Below w.heap.size w ((w.alloc (.cells #[.pointer (some ⟨b,0,none⟩)] 144)).alloc (.cells #[.bool false] 4)):=(((aQ w.heap.size w).alloc (aR _) _).alloc (by simp) _);have hb3:Below w.heap.size w (((w.alloc (.cells #[.pointer (some ⟨b,0,none⟩)] 144)).alloc (.cells #[.bool false] 4)).alloc (.cells #[.pointer (some ⟨tb,n*13,none⟩)] 186)):=hb2.alloc (by simp;omega) _;have h2:=h.below hb2;have h3:=h.below hb3;have hw0:own w.heap.size=0:=h.fresh _ (aR _);have hw1:own (w.heap.size+1)=0:=h.fresh _ (by omega);have hw2:own (w.heap.size+1+1)=0:=h.fresh _ (by omega);have kB:=aX ((w.alloc (.cells #[.pointer (some ⟨b,0,none⟩)] 144)).alloc (.cells #[.bool false] 4)) (.cells #[.pointer (some ⟨tb,n*13,none⟩)] 186);have kA:=heap_alloc_new (w.alloc (.cells #[.pointer (some ⟨b,0,none⟩)] 144)) (.cells #[.bool false] 4);simp only[World.size_alloc] at kA kB;have kA':=(heap_alloc_old ((w.alloc (.cells #[.pointer (some ⟨b,0,none⟩)] 144)).alloc (.cells #[.bool false] 4)) (.cells #[.pointer (some ⟨tb,n*13,none⟩)] 186) (show w.heap.size+1<_ by simp)).trans kA;have kC:=(heap_alloc_old ((w.alloc (.cells #[.pointer (some ⟨b,0,none⟩)] 144)).alloc (.cells #[.bool false] 4)) (.cells #[.pointer (some ⟨tb,n*13,none⟩)] 186) (show w.heap.size<_ by simp;omega)).trans ((heap_alloc_old (w.alloc (.cells #[.pointer (some ⟨b,0,none⟩)] 144)) (.cells #[.bool false] 4) (show w.heap.size<_ by simp)).trans (heap_alloc_new w (.cells #[.pointer (some ⟨b,0,none⟩)] 144)));have ct:(((w.alloc (.cells #[.pointer (some ⟨b,0,none⟩)] 144)).alloc (.cells #[.bool false] 4)).alloc (.cells #[.pointer (some ⟨tb,n*13,none⟩)] 186)).cell? ⟨w.heap.size+1+1,0,none⟩=some (.pointer (some ⟨tb,n*13,none⟩)):=af kB rfl;have cd:(((w.alloc (.cells #[.pointer (some ⟨b,0,none⟩)] 144)).alloc (.cells #[.bool false] 4)).alloc (.cells #[.pointer (some ⟨tb,n*13,none⟩)] 186)).cell? ⟨w.heap.size+1,0,none⟩=some (.bool false):=af kA' rfl;have fd:(((w.alloc (.cells #[.pointer (some ⟨b,0,none⟩)] 144)).alloc (.cells #[.bool false] 4)).alloc (.cells #[.pointer (some ⟨tb,n*13,none⟩)] 186)).frozen? ⟨w.heap.size+1,0,none⟩=false:=aJ kA';have cm:(((w.alloc (.cells #[.pointer (some ⟨b,0,none⟩)] 144)).alloc (.cells #[.bool false] 4)).alloc (.cells #[.pointer (some ⟨tb,n*13,none⟩)] 186)).cell? ⟨w.heap.size,0,none⟩=some (.pointer (some ⟨b,0,none⟩)):=af kC rfl;have e0:=h3.cell hx 0 _ rfl;rw[Nat.add_zero] at e0;have e9:=h3.cell hx 9 _ rfl;have e12:=h3.cell hx 12 _ rfl;have yx:=h3.cell hx 12 _ rfl;have HX:=ag hx;have H:=ag h;have H2:=ag h2;have H3:=ag h3;have HB:=ag hb3;have HW:=ag (And.intro hw0 (And.intro hw1 hw2));have HE:=ag hev;have H4:=ag h4;clear hev h4;obtain⟨Xq,ao,iF,hcv,hle,hcells⟩:=(h3.th n x hx).code;rw[hcv] at e0;have ac1:=ag hcells;have aef:=ag Xq;rw[hf] at e12;clear hle hcv hcells Xq;have vG:=ag (show mm.go n x.th=(true,mm.stop n x.th 8) from by
  unfold MM.go;by_cases h0:x.th.at_<0
  ·rw[if_pos h0]
  ·rw[if_neg h0,List.getElem?_eq_none (by omega)])
 have U0:∀(fn:Fn) (first cap:Array Value) (w:World),(Instr.makeFunc fn first cap).run Tryz.prog w= .ok (.func fn first cap) w:=fun _ _ _ _=>rfl
 clear hx h h2 h3 hb2 hb3 kA kB kA' kC hw0 hw1 hw2
 go_enter_defers Tryz.func63,Tryz.ntmps63
 go_wp2_with fail;refine(vK H2.out HX.out).mono ?_;rintro e w1 ⟨rfl,rfl⟩;go_wp2_with fail;generalize(((w.alloc (.cells #[.pointer (some ⟨b,0,none⟩)] 144)).alloc (.cells #[.bool false] 4)).alloc (.cells #[.pointer (some ⟨tb,n*13,none⟩)] 186))=w3 at H3 HB ct cd fd cm e0 e9 e12 yx⊢;rcases hat with hat|hat
 ·go_quiet (fail)
  go_wp2_with fail;refine leaves_cons (f:=101) (args:=#[.pointer (some ⟨w.heap.size+1+1,0,none⟩),.pointer (some ⟨w.heap.size+1,0,none⟩),.pointer (some ⟨w.heap.size,0,none⟩)]) (by simp) (by simp[go_sem]) ?_;refine(uO (w:=w3.drewN nq) (H3.out.drewN nq) HX.out HE.out H4.out 8 (by omega) ct cd fd cm HW.out.2.2 HW.out.2.1 HW.out.1 (by omega) (by omega)).mono ?_;rintro e u' w4 ⟨rfl,rfl,hd,⟨jA,Je,hm,ho⟩,hc⟩;have hs3:=(below_drewN HB.out nq).size;have hs:w.heap.size<=(w3.drewN nq).heap.size:=by first|exact hs3|(rw[ql];exact hs3)
  refine⟨.bool true,?_,by rw[vG.out],⟨jA,_,mv,_,Je,by rw[vG.out];exact hm,fun k hk=>ho k (by omega)⟩,bH.gY (bH.of_below (below_drewN HB.out nq)) hc (fun k hk e=>by
   rcases e with e|e
   ·omega
   ·exact e)⟩
  simp[results,Tryz.results63,hd,go_sem]
 ·have ac_:decide (x.th.at_<0)=false:=decide_eq_false (by omega);go_quiet (fail)
  go_wp2_with fail;refine leaves_cons (f:=101) (args:=#[.pointer (some ⟨w.heap.size+1+1,0,none⟩),.pointer (some ⟨w.heap.size+1,0,none⟩),.pointer (some ⟨w.heap.size,0,none⟩)]) (by simp) (by simp[go_sem]) ?_;refine(uO (w:=w3.drewN nq) (H3.out.drewN nq) HX.out HE.out H4.out 8 (by omega) ct cd fd cm HW.out.2.2 HW.out.2.1 HW.out.1 (by omega) (by omega)).mono ?_;rintro e u' w4 ⟨rfl,rfl,hd,⟨jA,Je,hm,ho⟩,hc⟩;have hs3:=(below_drewN HB.out nq).size;have hs:w.heap.size<=(w3.drewN nq).heap.size:=by first|exact hs3|(rw[ql];exact hs3)
  refine⟨.bool true,?_,by rw[vG.out],⟨jA,_,mv,_,Je,by rw[vG.out];exact hm,fun k hk=>ho k (by omega)⟩,bH.gY (bH.of_below (below_drewN HB.out nq)) hc (fun k hk e=>by
   rcases e with e|e
   ·omega
   ·exact e)⟩
  simp[results,Tryz.results63,hd,go_sem]
end
end Go.Proofs.YtopdcjimpdalpaaGreat

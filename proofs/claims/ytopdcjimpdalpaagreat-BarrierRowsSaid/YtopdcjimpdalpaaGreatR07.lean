import Derived.Test.YtopdcjimpdalpaaGreatR05
import Derived.Test.YtopdcjimpdalpaaGreatR06
namespace Go.Proofs.YtopdcjimpdalpaaGreat
open Go.RowKit
set_option linter.all false
set_option maxHeartbeats 1000000
section
def Pt.nY:Pt->Bool
 |.look|.wb|.rel|.out|.halt|.over=>false
 |_=>true
def Pt.pend:Pt->Bool
 |.Gb|.Hu=>true
 |_=>false
def Pt.dn:Pt->Bool
 |.wb|.rel=>true
 |_=>false
structure wN (words C:Int) (a:aY):Prop where
 len:a.log.length<=64
 keys:∀c∈a.log,1<=c.1/\c.1<=words
 uJ:(a.log.map Prod.fst).Nodup
 rd:a.reads<65536
 dx:0<=a.dx/\a.dx<=C
 held:match a.pt with
  |.Lx|.CR=>a.s<16/\(needs a.log).testBit a.s=true/\∀k,a.held k=(decide (k<a.s) && (needs a.log).testBit k)
  |.vO|.Gb|.Hu|.wb=>∀k,a.held k=(needs a.log).testBit k
  |.rel|.Kn=>a.s<16/\a.held a.s=true/\(∀k,k<a.s->a.held k=false)/\∀k,16<=k->a.held k=false
  |_=>∀k,a.held k=false
 some:match a.pt with
  |.Lx|.CR|.vO|.Hu=>a.log≠[]
  |.Gb=>a.log≠[]/\a.s<16/\a.reads.testBit a.s=true
  |.wb=>a.i<a.log.length
  |.wr=>place a.log a.x<a.log.length\/a.log.length<64
  |.ro=>a.log=[]
  |_=>True
 x:match a.pt with
  |.rd|.JY|.dat|.Dq|.wr=>1<=a.x/\a.x<=words
  |_=>True
 l1:match a.pt with
  |.CR=>a.l1%2=0/\0<=a.l1/\a.l1/2<=C
  |.dat|.Dq=>a.l1%2=0/\0<=a.l1/\a.l1/2<=a.dx
  |_=>True
 new:match a.pt with
  |.Gb|.Hu|.wb|.rel=>a.dx<a.new/\a.new<=C
  |_=>True
 bare:a.pt.pend=true->a.buf=[]
 old:∀k,a.held k=true->a.old k%2=0/\0<=a.old k/\a.old k/2<=C/\(a.pt.pend=true->a.old k/2<a.new)
 fin:a.fin=0↔a.pt≠ .over
def aY.has (a:aY) (s:Nat):Prop:=a.held s=true\/∃v,gD.lock s v∈a.buf
structure oM (words C:Int) (a:aY):Prop where
 excl:∀s v,a.held s=true->gD.lock s v∉a.buf
 once:∀l1 l2 s v u,a.buf=l1++gD.lock s v::l2->gD.lock s u∉l1/\gD.lock s u∉l2
 val:∀s v,gD.lock s v∈a.buf->s<16/\v%2=0/\0<=v/\v/2<=C
 dat:∀l1 l2 x v,a.buf=l1++gD.dat x v::l2->(1<=x/\x<=words)/\(a.held (bA x)=true\/∃u,gD.lock (bA x) u∈l2)
structure cZ (N:Nat) (words:Int) (m:AS):Prop where
 dx:0<=m.clock
 th:∀n,n<N->wN words m.clock (m.aT n)
 buf:∀n,n<N->oM words m.clock (m.aT n)
 own:∀n,n<N->∀s,s<16->(m.aR s=2*n+1↔(m.aT n).has s)
 odd:∀s,s<16->m.aR s%2≠0->∃n,n<N/\m.aR s=2*n+1
 R7:∀s,s<16->m.aR s%2=0->0<=m.aR s/\m.aR s/2<=m.clock
variable {N n:Nat} {words C C':Int} {m m':AS} {a a':aY} {rs:List (List Tx)} {l:List Tx}
theorem M7 (l:List (Int×Int)) (k:Nat):∀m:Nat,(l.foldl (fun m c=>m|||1<<<bA c.1) m).testBit k=true↔m.testBit k=true\/∃c∈l,bA c.1=k:=by
 induction l with
 |nil=>intro m;simp
 |cons c l ih=>
  intro m;rw[List.foldl_cons,ih,wH];simp only[Bool.or_eq_true,decide_eq_true_eq,List.mem_cons,exists_eq_or_imp,or_assoc];exact or_congr_right (or_congr_left eq_comm)
theorem t_ {l:List (Int×Int)} {k:Nat}:(needs l).testBit k=true↔∃c∈l,bA c.1=k:=by
 unfold needs;rw[M7];simp
theorem Jp (l:List (Int×Int)) {k:Nat} (hk:16<=k):(needs l).testBit k=false:=by
 cases hb:(needs l).testBit k with
 |false=>rfl
 |true=>
  obtain⟨c, -,hc⟩:=t_.1 hb;have:=cu c.1;omega
theorem wN.abO (h:wN words C a) {k:Nat} (hk:16<=k):a.held k=false:=by
 have hn:=Jp a.log hk;have:=h.held;cases hp:a.pt<;>rw[hp] at this<;>simp only at this<;>first|exact this k|(rw[this.2.2 k,hn,Bool.and_false])|(rw[this k,hn])|exact this.2.2.2 k hk
structure uX (words C:Int) (a:aY):Prop where
 len:a.log.length<=64
 keys:∀c∈a.log,1<=c.1/\c.1<=words
 uJ:(a.log.map Prod.fst).Nodup
 rd:a.reads<65536
 dx:0<=a.dx/\a.dx<=C
 fin:a.fin=0
 old:∀k,a.held k=true->k<16/\a.old k%2=0/\0<=a.old k/\a.old k/2<=C
theorem wN.base (h:wN words C a) (hp:a.pt≠ .over):uX words C a:=
 ⟨h.len,h.keys,h.uJ,h.rd,h.dx,h.fin.2 hp,fun k hk=>⟨(by
  rcases Nat.lt_or_ge k 16 with q|q
  ·exact q
  ·rw[h.abO q] at hk;cases hk),(h.old k hk).1,(h.old k hk).2.1,(h.old k hk).2.2.1⟩⟩
theorem wN.mono (h:wN words C a) (hC:C<=C'):wN words C' a:=
 ⟨h.len,h.keys,h.uJ,h.rd,⟨h.dx.1,Int.le_trans h.dx.2 hC⟩,h.held,h.some,h.x,by
  have:=h.l1;cases hp:a.pt<;>rw[hp] at this<;>simp only at this⊢<;>first|exact this|exact⟨this.1,this.2.1,Int.le_trans this.2.2 hC⟩,by
  have:=h.new;cases hp:a.pt<;>rw[hp] at this<;>simp only at this⊢<;>exact⟨this.1,Int.le_trans this.2 hC⟩,h.bare,fun k hk=>by
  obtain⟨q1,q2,q3,q4⟩:=h.old k hk;exact⟨q1,q2,Int.le_trans q3 hC,q4⟩,h.fin⟩
theorem oM.mono (h:oM words C a) (hC:C<=C'):oM words C' a:=
 ⟨h.excl,h.once,fun s v hv=>by
  obtain⟨q1,q2,q3,q4⟩:=h.val s v hv;exact⟨q1,q2,q3,Int.le_trans q4 hC⟩,h.dat⟩
theorem oM.same (h:oM words C a) (h1:a'.held=a.held) (h2:a'.buf=a.buf):oM words C a':=
 ⟨by rw[h1,h2];exact h.excl,by rw[h2];exact h.once,by rw[h2];exact h.val,by rw[h1,h2];exact h.dat⟩
theorem uX.eu {s:Nat} (h:uX words C a) (hne:a.log≠[]) (hh:∀k,a.held k=(decide (k<s) && (needs a.log).testBit k)):wN words C (a.eu s):=by
 unfold aY.eu;cases hn:oO (fun k=>(needs a.log).testBit k) s with
 |some k=>
  obtain⟨q1,q2,q3,q4⟩:=nG hn;refine⟨h.len,h.keys,h.uJ,h.rd,h.dx,⟨q2,q3,fun j=>?_⟩,hne,trivial,trivial,trivial,fun q=>(by cases q),fun j hj=>⟨(h.old j hj).2.1,(h.old j hj).2.2.1,(h.old j hj).2.2.2,fun q=>(by cases q)⟩,⟨fun _ q=>(by cases q),fun _=>h.fin⟩⟩;show a.held j=(decide (j<k) && (needs a.log).testBit j);rw[hh j];by_cases h1:j<s
  ·rw[decide_eq_true h1,decide_eq_true (show j<k by omega)]
  ·rw[decide_eq_false h1,Bool.false_and];by_cases h2:j<k
   ·rw[show(needs a.log).testBit j=false from q4 j (by omega) h2,Bool.and_false]
   ·rw[decide_eq_false h2,Bool.false_and]
 |none=>
  refine⟨h.len,h.keys,h.uJ,h.rd,h.dx,fun j=>?_,hne,trivial,trivial,trivial,fun q=>(by cases q),fun j hj=>⟨(h.old j hj).2.1,(h.old j hj).2.2.1,(h.old j hj).2.2.2,fun q=>(by cases q)⟩,⟨fun _ q=>(by cases q),fun _=>h.fin⟩⟩;show a.held j=(needs a.log).testBit j;rw[hh j];by_cases h1:j<s
  ·rw[decide_eq_true h1,Bool.true_and]
  ·rw[decide_eq_false h1,Bool.false_and];rcases Nat.lt_or_ge j 16 with h2|h2
   ·exact(pg hn j (by omega) h2).symm
   ·exact(Jp _ h2).symm
theorem uX.dV {s:Nat} (h:uX words C a) (hne:a.log≠[]) (hh:∀k,a.held k=(needs a.log).testBit k) (hb:a.buf=[]) (hn:a.dx<a.new/\a.new<=C) (ho:∀k,a.held k=true->a.old k/2<a.new):wN words C (a.dV s):=by
 unfold aY.dV;cases hn':oO (fun k=>a.reads.testBit k) s with
 |some k=>
  obtain⟨q1,q2,q3,q4⟩:=nG hn';exact⟨h.len,h.keys,h.uJ,h.rd,h.dx,hh,⟨hne,q2,q3⟩,trivial,trivial,hn,fun _=>hb,fun j hj=>⟨(h.old j hj).2.1,(h.old j hj).2.2.1,(h.old j hj).2.2.2,fun _=>ho j hj⟩,⟨fun _ q=>(by cases q),fun _=>h.fin⟩⟩
 |none=>
  exact⟨h.len,h.keys,h.uJ,h.rd,h.dx,hh,hne,trivial,trivial,hn,fun _=>hb,fun j hj=>⟨(h.old j hj).2.1,(h.old j hj).2.2.1,(h.old j hj).2.2.2,fun _=>ho j hj⟩,⟨fun _ q=>(by cases q),fun _=>h.fin⟩⟩
theorem uX.iw {s:Nat} (h:uX words C a) (hh:∀k,k<s->a.held k=false) (hn:a.dx<a.new/\a.new<=C):wN words C (a.iw s):=by
 have h16:∀k,16<=k->a.held k=false:=fun k hk=>by
  cases hb:a.held k with
  |false=>rfl
  |true=>have:=(h.old k hb).1;omega
 unfold aY.iw;cases hn':oO a.held s with
 |some k=>
  obtain⟨q1,q2,q3,q4⟩:=nG hn';refine⟨h.len,h.keys,h.uJ,h.rd,h.dx,⟨q2,q3,fun j hj=>?_,h16⟩,trivial,trivial,trivial,hn,fun q=>(by cases q),fun j hj=>⟨(h.old j hj).2.1,(h.old j hj).2.2.1,(h.old j hj).2.2.2,fun q=>(by cases q)⟩,⟨fun _ q=>(by cases q),fun _=>h.fin⟩⟩;rcases Nat.lt_or_ge j s with e|e
  ·exact hh j e
  ·exact q4 j e hj
 |none=>
  refine⟨h.len,h.keys,h.uJ,h.rd,h.dx,fun j=>?_,trivial,trivial,trivial,trivial,fun q=>(by cases q),fun j hj=>⟨(h.old j hj).2.1,(h.old j hj).2.2.1,(h.old j hj).2.2.2,fun q=>(by cases q)⟩,⟨fun _ q=>(by cases q),fun _=>h.fin⟩⟩;rcases Nat.lt_or_ge j s with e|e
  ·exact hh j e
  ·rcases Nat.lt_or_ge j 16 with e2|e2
   ·exact pg hn' j e e2
   ·exact h16 j e2
theorem uX.bZ {s:Nat} (h:uX words C a) (hh:∀k,k<s->a.held k=false):wN words C (a.bZ s):=by
 have h16:∀k,16<=k->a.held k=false:=fun k hk=>by
  cases hb:a.held k with
  |false=>rfl
  |true=>have:=(h.old k hb).1;omega
 unfold aY.bZ;cases hn':oO a.held s with
 |some k=>
  obtain⟨q1,q2,q3,q4⟩:=nG hn';refine⟨h.len,h.keys,h.uJ,h.rd,h.dx,⟨q2,q3,fun j hj=>?_,h16⟩,trivial,trivial,trivial,trivial,fun q=>(by cases q),fun j hj=>⟨(h.old j hj).2.1,(h.old j hj).2.2.1,(h.old j hj).2.2.2,fun q=>(by cases q)⟩,⟨fun _ q=>(by cases q),fun _=>h.fin⟩⟩;rcases Nat.lt_or_ge j s with e|e
  ·exact hh j e
  ·exact q4 j e hj
 |none=>
  refine⟨h.len,h.keys,h.uJ,h.rd,h.dx,fun j=>?_,trivial,trivial,trivial,trivial,fun q=>(by cases q),fun j hj=>⟨(h.old j hj).2.1,(h.old j hj).2.2.1,(h.old j hj).2.2.2,fun q=>(by cases q)⟩,⟨fun _ q=>(by cases q),fun _=>h.fin⟩⟩;rcases Nat.lt_or_ge j s with e|e
  ·exact hh j e
  ·rcases Nat.lt_or_ge j 16 with e2|e2
   ·exact pg hn' j e e2
   ·exact h16 j e2
theorem uX.kE {i:Nat} (h:uX words C a) (hh:∀k,a.held k=(needs a.log).testBit k) (hn:a.dx<a.new/\a.new<=C):wN words C (a.kE i):=by
 unfold aY.kE;by_cases hi:i<a.log.length
 ·rw[if_pos hi];exact⟨h.len,h.keys,h.uJ,h.rd,h.dx,hh,hi,trivial,trivial,hn,fun q=>(by cases q),fun j hj=>⟨(h.old j hj).2.1,(h.old j hj).2.2.1,(h.old j hj).2.2.2,fun q=>(by cases q)⟩,⟨fun _ q=>(by cases q),fun _=>h.fin⟩⟩
 ·rw[if_neg hi];exact h.iw (fun k hk=>by omega) hn
theorem uX.free (h:uX words C a) (hh:∀k,a.held k=false) {p:Pt} (hp:p= .look\/p= .full\/p= .yz\/p= .out\/p= .halt):wN words C {a with pt:=p}:=by
 have ho:∀k,a.held k=true->a.old k%2=0/\0<=a.old k/\a.old k/2<=C/\(p.pend=true->a.old k/2<a.new):=fun k hk=>by rw[hh k] at hk;cases hk
 rcases hp with rfl|rfl|rfl|rfl|rfl<;>exact⟨h.len,h.keys,h.uJ,h.rd,h.dx,hh,trivial,trivial,trivial,trivial,fun q=>(by cases q),ho,⟨fun _ q=>(by cases q),fun _=>h.fin⟩⟩
theorem uX.di (h:uX words C a) (hh:∀k,a.held k=false) (hl:∀o∈l,1<=o.at_/\o.at_<=words):wN words C (a.di l):=by
 have ho:∀(P:Prop) k,a.held k=true->a.old k%2=0/\0<=a.old k/\a.old k/2<=C/\(P->a.old k/2<a.new):=fun P k hk=>by rw[hh k] at hk;cases hk
 unfold aY.di;cases hop:l[a.op]? with
 |none=>
  simp only;by_cases he:a.log=[]
  ·rw[if_pos he];exact⟨h.len,h.keys,h.uJ,h.rd,h.dx,hh,he,trivial,trivial,trivial,fun q=>(by cases q),ho _,⟨fun _ q=>(by cases q),fun _=>h.fin⟩⟩
  ·rw[if_neg he];exact h.eu he (fun k=>by rw[hh k];simp)
 |some o=>
  have hx:=hl o (bC hop);simp only;by_cases hk:o.kind=2
  ·rw[if_pos hk];cases hpl:a.log[place a.log o.at_]? with
   |some c=>exact⟨h.len,h.keys,h.uJ,h.rd,h.dx,hh,trivial,hx,trivial,trivial,fun q=>(by cases q),ho _,⟨fun _ q=>(by cases q),fun _=>h.fin⟩⟩
   |none=>exact⟨h.len,h.keys,h.uJ,h.rd,h.dx,hh,trivial,hx,trivial,trivial,fun q=>(by cases q),ho _,⟨fun _ q=>(by cases q),fun _=>h.fin⟩⟩
  ·rw[if_neg hk];by_cases hr:place a.log o.at_<a.log.length\/a.log.length<64
   ·rw[if_pos hr];exact⟨h.len,h.keys,h.uJ,h.rd,h.dx,hh,hr,hx,trivial,trivial,fun q=>(by cases q),ho _,⟨fun _ q=>(by cases q),fun _=>h.fin⟩⟩
   ·rw[if_neg hr];exact h.free hh (.inr (.inl rfl))
theorem Oy {log:List (Int×Int)} {x v:Int} (h1:log.length<=64) (h2:∀c∈log,1<=c.1/\c.1<=words) (h3:(log.map Prod.fst).Nodup) (hr:place log x<log.length\/log.length<64) (hx:1<=x/\x<=words):
  (mK log x v).length<=64/\(∀c∈mK log x v,1<=c.1/\c.1<=words)/\((mK log x v).map Prod.fst).Nodup:=by
 unfold mK;by_cases hp:place log x<log.length
 ·rw[if_pos hp];obtain⟨c,hc,hcx⟩:=tJ hp;refine⟨by rw[List.length_set];exact h1,fun d hd=>?_,?_⟩
  ·rcases List.mem_or_eq_of_mem_set hd with hd|rfl
   ·exact h2 d hd
   ·exact hx
  ·have:(log.set (place log x) (x,v)).map Prod.fst=log.map Prod.fst:=by
    rw[List.map_set];refine List.ext_getElem? fun k=>?_
    by_cases e:place log x=k
    ·subst e;rw[List.getElem?_set_self (by rw[List.length_map];exact hp),List.getElem?_map,hc];simp[hcx]
    ·rw[List.getElem?_set_ne e]
   rw[this];exact h3
 ·rw[if_neg hp];have hno:∀c∈log,c.1≠x:=uW (List.getElem?_eq_none (by omega));refine⟨by simp;omega,fun d hd=>?_,?_⟩
  ·rcases List.mem_append.1 hd with hd|hd
   ·exact h2 d hd
   ·rw[List.mem_singleton.1 hd];exact hx
  ·rw[List.map_append,List.nodup_append];refine⟨h3,by simp,fun p hp q hq=>?_⟩;obtain⟨c,hc,rfl⟩:=List.mem_map.1 hp;simp at hq;rw[hq];exact hno c hc
theorem zS {α:Type} {P:List α->Prop} (h0:P []) (h1:∀l x,P l->P (l++[x])) (l:List α):P l:=by
 have:∀l:List α,P l.reverse:=by
  intro l;induction l with
  |nil=>exact h0
  |cons x l ih=>rw[List.reverse_cons];exact h1 _ x ih
 have h:=this l.reverse
 rwa [List.reverse_reverse] at h
theorem sM (b:List gD) (L:Nat->Int) (s:Nat):(∃l1 l2 v,b=l1++gD.lock s v::l2/\(∀u,gD.lock s u∉l2)/\dF b L s=v)\/(∀v,gD.lock s v∉b)/\dF b L s=L s:=by
 induction b using zS with
 |h0=>exact .inr ⟨fun v h=>by simp at h,rfl⟩
 |h1 b e ih=>
  have ev:dF (b++[e]) L s=sL s (dF b L s) e:=by unfold dF;rw[List.foldl_append];rfl
  rw[ev];cases e with
  |lock k v=>
   by_cases hk:k=s
   ·subst hk;exact .inl ⟨b,[],v,rfl,fun u h=>by simp at h,if_pos rfl⟩
   ·have e2:sL s (dF b L s) (gD.lock k v)=dF b L s:=if_neg hk;rw[e2];rcases ih with⟨l1,l2,u,rfl,h1,h2⟩|⟨h1,h2⟩
    ·refine .inl ⟨l1,l2++[gD.lock k v],u,by simp,fun w hw=>?_,h2⟩;rcases List.mem_append.1 hw with hw|hw
     ·exact h1 w hw
     ·simp at hw;exact hk hw.1.symm
    ·refine .inr ⟨fun w hw=>?_,h2⟩;rcases List.mem_append.1 hw with hw|hw
     ·exact h1 w hw
     ·simp at hw;exact hk hw.1.symm
  |dat x v=>
   have e2:sL s (dF b L s) (gD.dat x v)=dF b L s:=rfl;rw[e2];rcases ih with⟨l1,l2,u,rfl,h1,h2⟩|⟨h1,h2⟩
   ·refine .inl ⟨l1,l2++[gD.dat x v],u,by simp,fun w hw=>?_,h2⟩;rcases List.mem_append.1 hw with hw|hw
    ·exact h1 w hw
    ·simp at hw
   ·refine .inr ⟨fun w hw=>?_,h2⟩;rcases List.mem_append.1 hw with hw|hw
    ·exact h1 w hw
    ·simp at hw
theorem cZ.Zn (h:cZ N words m) (hN:N<=4) (hn:n<N) {s:Nat} (hs:s<16):0<=m.aR s/\m.aR s<=2*m.clock+8:=by
 have hc:=h.dx;by_cases e:m.aR s%2=0
 ·have:=h.R7 s hs e;omega
 ·obtain⟨k,hk,hq⟩:=h.odd s hs e;omega
theorem cZ.O_ (h:cZ N words m) (hN:N<=4) (hn:n<N) {s:Nat} (hs:s<16):0<=dF (m.aT n).buf m.aR s/\dF (m.aT n).buf m.aR s<=2*m.clock+8:=by
 rcases sM (m.aT n).buf m.aR s with⟨l1,l2,v,e, -,h2⟩|⟨-,h2⟩
 ·rw[h2];have:=(h.buf n hn).val s v (by rw[e];simp);omega
 ·rw[h2];exact h.Zn hN hn hs
end
section
variable {N n:Nat} {words C C':Int} {m m':AS} {a a' b:aY} {rs:List (List Tx)} {l:List Tx}
structure Mv (a a':aY):Prop where
 row:a'.row=a.row
 op:a'.op=a.op
 dx:a'.dx=a.dx
 reads:a'.reads=a.reads
 log:a'.log=a.log
 sum:a'.sum=a.sum
 held:a'.held=a.held
 old:a'.old=a.old
 new:a'.new=a.new
 l1:a'.l1=a.l1
 buf:a'.buf=a.buf
 out:a'.out=a.out
 fin:a'.fin=a.fin
theorem Cx (a:aY) (s:Nat):Mv a (a.eu s):=by unfold aY.eu;split<;>exact⟨rfl,rfl,rfl,rfl,rfl,rfl,rfl,rfl,rfl,rfl,rfl,rfl,rfl⟩
theorem vV (a:aY) (s:Nat):Mv a (a.dV s):=by unfold aY.dV;split<;>exact⟨rfl,rfl,rfl,rfl,rfl,rfl,rfl,rfl,rfl,rfl,rfl,rfl,rfl⟩
theorem vT (a:aY) (s:Nat):Mv a (a.iw s):=by unfold aY.iw;split<;>exact⟨rfl,rfl,rfl,rfl,rfl,rfl,rfl,rfl,rfl,rfl,rfl,rfl,rfl⟩
theorem iR (a:aY) (s:Nat):Mv a (a.bZ s):=by unfold aY.bZ;split<;>exact⟨rfl,rfl,rfl,rfl,rfl,rfl,rfl,rfl,rfl,rfl,rfl,rfl,rfl⟩
theorem yF (a:aY) (rs:List (List Tx)):Mv a (a.jT rs):=by unfold aY.jT;split<;>exact⟨rfl,rfl,rfl,rfl,rfl,rfl,rfl,rfl,rfl,rfl,rfl,rfl,rfl⟩
theorem BC (a:aY) (i:Nat):Mv a (a.kE i):=by
 unfold aY.kE;split
 ·exact⟨rfl,rfl,rfl,rfl,rfl,rfl,rfl,rfl,rfl,rfl,rfl,rfl,rfl⟩
 ·exact vT a 0
theorem jM (a:aY) (l:List Tx):Mv a (a.di l):=by
 unfold aY.di;split
 ·split
  ·split<;>exact⟨rfl,rfl,rfl,rfl,rfl,rfl,rfl,rfl,rfl,rfl,rfl,rfl,rfl⟩
  ·split<;>exact⟨rfl,rfl,rfl,rfl,rfl,rfl,rfl,rfl,rfl,rfl,rfl,rfl,rfl⟩
 ·split
  ·exact⟨rfl,rfl,rfl,rfl,rfl,rfl,rfl,rfl,rfl,rfl,rfl,rfl,rfl⟩
  ·exact Cx a 0
theorem uX.QS (h:uX words C a) (e:Mv a a'):uX words C a':=
 ⟨by rw[e.log];exact h.len,by rw[e.log];exact h.keys,by rw[e.log];exact h.uJ,by rw[e.reads];exact h.rd,by rw[e.dx];exact h.dx,by rw[e.fin];exact h.fin,by rw[e.held,e.old];exact h.old⟩
theorem oM.aed (h:oM words C a) (h1:∀k,a'.held k=a.held k) (h2:a'.buf=a.buf):oM words C a':=h.same (funext h1) h2
theorem vw {α:Type} {l l1 l2:List α} {e d:α} (h:l++[e]=l1++d::l2):(l2=[]/\d=e/\l1=l)\/∃l3,l2=l3++[e]/\l=l1++d::l3:=by
 rcases List.eq_nil_or_concat l2 with rfl|⟨l3,x,rfl⟩
 ·have:=List.append_inj' h (by simp);obtain⟨rfl,h3⟩:=this;cases h3;exact .inl ⟨rfl,rfl,rfl⟩
 ·rw[List.concat_eq_append] at h;have h2:l1++d::(l3++[x])=(l1++d::l3)++[x]:=by simp
  rw[h2] at h;have:=List.append_inj' h (by simp);obtain⟨rfl,h3⟩:=this;cases h3;exact .inr ⟨l3,List.concat_eq_append,rfl⟩
theorem oM.Pq (h:oM words C a) {s:Nat} {v:Int} (hs:a.held s=true) (hv:s<16/\v%2=0/\0<=v/\v/2<=C) (hb:b.buf=a.buf++[gD.lock s v]) (hh:b.held=upd a.held s false):oM words C b:=by
 refine⟨fun k u hk=>?_,fun l1 l2 k u w hw=>?_,fun k u hk=>?_,fun l1 l2 x u hx=>?_⟩
 ·rw[hh,bS] at hk;by_cases e:k=s
  ·rw[if_pos e] at hk;cases hk
  ·rw[if_neg e] at hk;rw[hb];intro q;rcases List.mem_append.1 q with q|q
   ·exact h.excl k u hk q
   ·simp at q;exact e q.1
 ·rw[hb] at hw;rcases vw hw with⟨rfl,q,rfl⟩|⟨l3,rfl,q⟩
  ·cases q;exact⟨h.excl _ _ hs,by simp⟩
  ·obtain⟨q1,q2⟩:=h.once l1 l3 k u w q;refine⟨q1,fun q3=>?_⟩;rcases List.mem_append.1 q3 with q3|q3
   ·exact q2 q3
   ·simp at q3;rw[q3.1] at q;exact h.excl s u hs (by rw[q];simp)
 ·rw[hb] at hk;rcases List.mem_append.1 hk with hk|hk
  ·exact h.val k u hk
  ·simp at hk;rw[hk.1,hk.2];exact hv
 ·rw[hb] at hx;rcases vw hx with⟨rfl,q,rfl⟩|⟨l3,rfl,q⟩
  ·cases q
  ·obtain⟨q1,q2⟩:=h.dat l1 l3 x u q;refine⟨q1,?_⟩;rcases q2 with q2|⟨w,q2⟩
   ·by_cases e:bA x=s
    ·exact .inr ⟨v,by rw[e];simp⟩
    ·exact .inl (by rw[hh,bS,if_neg e];exact q2)
   ·exact .inr ⟨w,List.mem_append_left _ q2⟩
theorem oM.abE (h:oM words C a) {x v:Int} (hx:1<=x/\x<=words) (hs:a.held (bA x)=true) (hb:b.buf=a.buf++[gD.dat x v]) (hh:b.held=a.held):oM words C b:=by
 refine⟨fun k u hk q=>?_,fun l1 l2 k u w hw=>?_,fun k u hk=>?_,fun l1 l2 y u hy=>?_⟩
 ·rw[hh] at hk;rw[hb] at q;rcases List.mem_append.1 q with q|q
  ·exact h.excl k u hk q
  ·simp at q
 ·rw[hb] at hw;rcases vw hw with⟨rfl,q,rfl⟩|⟨l3,rfl,q⟩
  ·cases q
  ·obtain⟨q1,q2⟩:=h.once l1 l3 k u w q;refine⟨q1,fun q3=>?_⟩;rcases List.mem_append.1 q3 with q3|q3
   ·exact q2 q3
   ·simp at q3
 ·rw[hb] at hk;rcases List.mem_append.1 hk with hk|hk
  ·exact h.val k u hk
  ·simp at hk
 ·rw[hb] at hy;rcases vw hy with⟨rfl,q,rfl⟩|⟨l3,rfl,q⟩
  ·cases q;exact⟨hx,.inl (by rw[hh];exact hs)⟩
  ·obtain⟨q1,q2⟩:=h.dat l1 l3 y u q;refine⟨q1,?_⟩;rcases q2 with q2|⟨w,q2⟩
   ·exact .inl (by rw[hh];exact q2)
   ·exact .inr ⟨w,List.mem_append_left _ q2⟩
theorem oM.tail (h:oM words C a) {e:gD} {r:List gD} (he:a.buf=e::r) (hb:b.buf=r) (hh:b.held=a.held):oM words C b:=by
 refine⟨fun k u hk q=>?_,fun l1 l2 k u w hw=>?_,fun k u hk=>?_,fun l1 l2 y u hy=>?_⟩
 ·rw[hh] at hk;rw[hb] at q;exact h.excl k u hk (by rw[he];exact List.mem_cons_of_mem _ q)
 ·obtain⟨q1,q2⟩:=h.once (e::l1) l2 k u w (by rw[he,<-hb,hw];rfl);exact⟨fun q=>q1 (List.mem_cons_of_mem _ q),q2⟩
 ·exact h.val k u (by rw[he,<-hb];exact List.mem_cons_of_mem _ hk)
 ·obtain⟨q1,q2⟩:=h.dat (e::l1) l2 y u (by rw[he,<-hb,hy];rfl);exact⟨q1,by rw[hh];exact q2⟩
theorem cZ.turn (h:cZ N words m) (hn:n<N) (hck:m.clock<=m'.clock) (hl:m'.aR=m.aR) (hth:m'.aT=upd m.aT n a') (hA:wN words m'.clock a') (hB:oM words m'.clock a') (hh:∀s,a'.has s↔(m.aT n).has s):cZ N words m':=by
 refine⟨Int.le_trans h.dx hck,fun k hk=>?_,fun k hk=>?_,fun k hk s hs=>?_,fun s hs=>by rw[hl];exact h.odd s hs,fun s hs he=>?_⟩
 ·rw[hth,bS];split
  ·exact hA
  ·exact(h.th k hk).mono hck
 ·rw[hth,bS];split
  ·exact hB
  ·exact(h.buf k hk).mono hck
 ·rw[hth,hl,bS,h.own k hk s hs];split
  ·rename_i e;rw[e,hh s]
  ·exact Iff.rfl
 ·rw[hl] at he⊢;have:=h.R7 s hs he;exact⟨this.1,Int.le_trans this.2 hck⟩
theorem cZ.mv (h:cZ N words m) (hn:n<N) (hck:m.clock<=m'.clock) (hl:m'.aR=m.aR) (hth:m'.aT=upd m.aT n a') (hA:wN words m'.clock a') (h1:∀k,a'.held k=(m.aT n).held k) (h2:a'.buf=(m.aT n).buf):cZ N words m':=
 h.turn hn hck hl hth hA (((h.buf n hn).mono hck).aed h1 h2) (fun s=>by unfold aY.has;rw[h1 s,h2])
theorem Z8 (wf:∀l∈rs,∀o∈l,1<=o.at_/\o.at_<=words) (r:Nat):∀o∈rs.getD r [],1<=o.at_/\o.at_<=words:=by
 intro o ho;rw[List.getD_eq_getElem?_getD] at ho;cases hr:rs[r]? with
 |none=>rw[hr] at ho;simp at ho
 |some l=>rw[hr] at ho;exact wf l (bC hr) o ho
theorem cZ.view (h:cZ N words m) (hn:n<N) {s:Nat} (hs:s<16) (he:dF (m.aT n).buf m.aR s%2=0):0<=dF (m.aT n).buf m.aR s/\dF (m.aT n).buf m.aR s/2<=m.clock:=by
 rcases sM (m.aT n).buf m.aR s with⟨l1,l2,v,e, -,h2⟩|⟨-,h2⟩
 ·rw[h2] at he⊢;have:=(h.buf n hn).val s v (by rw[e];simp);exact⟨this.2.2.1,this.2.2.2⟩
 ·rw[h2] at he⊢;exact h.R7 s hs he
theorem cZ.act (h:cZ N words m) (hn:n<N) (hfin:(m.aT n).fin=0) (hbare:(m.aT n).bare) (wf:∀l∈rs,∀o∈l,1<=o.at_/\o.at_<=words):cZ N words (m.act rs n):=by
 have HA:=h.th n hn;have HB:=h.buf n hn;have wl:=Z8 wf (m.aT n).row;have Wt:=fun s=>h.view hn (s:=s)
 obtain⟨a,ha⟩:∃a,m.aT n=a:=⟨_,rfl⟩;rw[ha] at HA HB wl hfin hbare Wt;have B:=HA.base (HA.fin.1 hfin);have bK:=HA.held;have hsome:=HA.some;have hx:=HA.x;have hl1:=HA.l1;have hnew:=HA.new;have hemp:=HA.bare;have hold:=HA.old;cases hp:a.pt with
 |look=>
  rw[z_ ha hp];rw[hp] at bK;simp only at bK;have key:wN words m.clock ({a with dx:=m.clock,reads:=0,log:=[],sum:=0,held:=fun _=>false,op:=0}.di (rs.getD a.row [])):=uX.di (C:=m.clock) (a:={a with dx:=m.clock,reads:=0,log:=[],sum:=0,held:=fun _=>false,op:=0}) ⟨by simp,by simp,by simp,Nat.zero_lt_succ 65535,⟨h.dx,Int.le_refl _⟩,hfin,fun k hk=>by simp at hk⟩ (fun _=>rfl) wl;refine h.mv hn (Int.le_refl _) rfl rfl key (fun k=>?_) ?_
  ·rw[(jM _ _).held,ha,bK k]
  ·rw[(jM _ _).buf,ha]
 |rd=>
  rw[G7 ha hp];rw[hp] at bK;simp only at bK;have key:wN words m.clock ({a with op:=a.op+1,sum:=fV (a.sum+a.v)}.di (rs.getD a.row [])):=uX.di (a:={a with op:=a.op+1,sum:=fV (a.sum+a.v)}) ⟨B.len,B.keys,B.uJ,B.rd,B.dx,B.fin,B.old⟩ bK wl;refine h.mv hn (Int.le_refl _) rfl rfl key (fun k=>?_) ?_
  ·rw[(jM _ _).held,ha]
  ·rw[(jM _ _).buf,ha]
 |JY=>
  rw[CG ha hp];rw[hp] at bK hx;simp only at bK hx;split
  ·exact h.mv (a':={a with pt:=.yz}) hn (Int.le_refl _) rfl rfl (B.free bK (.inr (.inr (.inl rfl)))) (fun k=>by rw[ha]) (by rw[ha])
  ·rename_i hc;simp only[not_or,Classical.not_not,Int.not_lt] at hc;have hv:=Wt _ (cu a.x) hc.1;exact h.mv (a':={a with pt:=.dat,l1:=dF a.buf m.aR (bA a.x)}) hn (Int.le_refl _) rfl rfl ⟨B.len,B.keys,B.uJ,B.rd,B.dx,bK,trivial,hx,⟨hc.1,hv.1,hc.2⟩,trivial,fun q=>(by cases q),fun k hk=>(by rw[bK k] at hk;cases hk),⟨fun _ q=>(by cases q),fun _=>hfin⟩⟩ (fun k=>by rw[ha]) (by rw[ha])
 |dat=>
  rw[CQ ha hp];rw[hp] at bK hx hl1;simp only at bK hx hl1;exact h.mv (a':={a with pt:=.Dq,v:=uq a.buf m.data a.x}) hn (Int.le_refl _) rfl rfl ⟨B.len,B.keys,B.uJ,B.rd,B.dx,bK,trivial,hx,hl1,trivial,fun q=>(by cases q),fun k hk=>(by rw[bK k] at hk;cases hk),⟨fun _ q=>(by cases q),fun _=>hfin⟩⟩ (fun k=>by rw[ha]) (by rw[ha])
 |Dq=>
  rw[CX ha hp];rw[hp] at bK hx;simp only at bK hx;split
  ·exact h.mv (a':={a with pt:=.rd,reads:=a.reads|||1<<<bA a.x}) hn (Int.le_refl _) rfl rfl ⟨B.len,B.keys,B.uJ,UJ B.rd (cu _),B.dx,bK,trivial,hx,trivial,trivial,fun q=>(by cases q),fun k hk=>(by rw[bK k] at hk;cases hk),⟨fun _ q=>(by cases q),fun _=>hfin⟩⟩ (fun k=>by rw[ha]) (by rw[ha])
  ·exact h.mv (a':={a with pt:=.yz}) hn (Int.le_refl _) rfl rfl (B.free bK (.inr (.inr (.inl rfl)))) (fun k=>by rw[ha]) (by rw[ha])
 |wr=>
  rw[Hy ha hp];rw[hp] at bK hsome hx;simp only at bK hsome hx;obtain⟨p1,p2,p3⟩:=Oy (v:=a.v) B.len B.keys B.uJ hsome hx;have key:wN words m.clock ({a with op:=a.op+1,log:=mK a.log a.x a.v}.di (rs.getD a.row [])):=uX.di (a:={a with op:=a.op+1,log:=mK a.log a.x a.v}) ⟨p1,p2,p3,B.rd,B.dx,B.fin,B.old⟩ bK wl;refine h.mv hn (Int.le_refl _) rfl rfl key (fun k=>?_) ?_
  ·rw[(jM _ _).held,ha]
  ·rw[(jM _ _).buf,ha]
 |full=>
  rw[zA ha hp];rw[hp] at bK;simp only at bK;exact h.mv (a':={a with pt:=.over,fin:=6}) hn (Int.le_refl _) rfl rfl ⟨B.len,B.keys,B.uJ,B.rd,B.dx,bK,trivial,trivial,trivial,trivial,fun q=>(by cases q),fun k hk=>(by rw[bK k] at hk;cases hk),⟨fun q=>absurd q (show ¬(6:Int)=0 by decide),fun q=>absurd rfl q⟩⟩ (fun k=>by rw[ha]) (by rw[ha])
 |ro=>
  rw[IM ha hp];rw[hp] at bK;simp only at bK;exact h.mv (a':={a with pt:=.out}) hn (Int.le_refl _) rfl rfl (B.free bK (.inr (.inr (.inr (.inl rfl))))) (fun k=>by rw[ha]) (by rw[ha])
 |Lx=>
  rw[Cy ha hp];rw[hp] at bK hsome;simp only at bK hsome;split
  ·refine h.mv (a':=a.bZ 0) hn (Int.le_refl _) rfl rfl (B.bZ (fun k hk=>by omega)) (fun k=>?_) ?_
   ·rw[(iR _ _).held,ha]
   ·rw[(iR _ _).buf,ha]
  ·rename_i hc;simp only[Classical.not_not] at hc;have hv:=Wt _ bK.1 hc;exact h.mv (a':={a with pt:=.CR,l1:=dF a.buf m.aR a.s}) hn (Int.le_refl _) rfl rfl ⟨B.len,B.keys,B.uJ,B.rd,B.dx,bK,hsome,trivial,⟨hc,hv.1,hv.2⟩,trivial,fun q=>(by cases q),fun k hk=>⟨(hold k hk).1,(hold k hk).2.1,(hold k hk).2.2.1,fun q=>(by cases q)⟩,⟨fun _ q=>(by cases q),fun _=>hfin⟩⟩ (fun k=>by rw[ha]) (by rw[ha])
 |CR=>
  rw[CS ha hp];rw[hp] at bK hsome hl1;simp only at bK hsome hl1;obtain⟨nX,hns,hhk⟩:=bK;split
  ·rename_i hc;have hbuf:a.buf=[]:=hbare (.inl hp);have hno:a.held a.s=false:=by rw[hhk];simp
   have mv:=Cx {a with held:=upd a.held a.s true,old:=upd a.old a.s a.l1} (a.s+1);have hB1:uX words m.clock {a with held:=upd a.held a.s true,old:=upd a.old a.s a.l1}:=by
    refine⟨B.len,B.keys,B.uJ,B.rd,B.dx,B.fin,fun k hk=>?_⟩;simp only[bS] at hk⊢;by_cases e:k=a.s
    ·rw[if_pos e,e];exact⟨nX,hl1⟩
    ·rw[if_neg e] at hk⊢;exact B.old k hk
   have hA1:=hB1.eu (s:=a.s+1) hsome (fun k=>by
    simp only[bS];by_cases e:k=a.s
    ·rw[if_pos e,e,hns,decide_eq_true (Nat.lt_succ_self _)];rfl
    ·rw[if_neg e,hhk k];by_cases e2:k<a.s
     ·rw[decide_eq_true e2,decide_eq_true (show k<a.s+1 by omega)]
     ·rw[decide_eq_false e2,decide_eq_false (show ¬k<a.s+1 by omega)])
   generalize hq:({a with held:=upd a.held a.s true,old:=upd a.old a.s a.l1}.eu (a.s+1):aY)=a' at mv hA1;have hb':a'.buf=[]:=by rw[mv.buf];exact hbuf
   have hhas:∀s,a'.has s↔(s=a.s\/a.has s):=fun s=>by
    unfold aY.has;rw[mv.held,hb',hbuf];simp only[bS];by_cases e:s=a.s<;>simp[e]
   have hoth:∀k,k<N->k≠n->¬(m.aT k).has a.s:=fun k hk hkn q=>by
    have h1:=(h.own k hk a.s nX).2 q;rw[hc] at h1;omega
   refine⟨h.dx,fun k hk=>?_,fun k hk=>?_,fun k hk s hs=>?_,fun s hs he=>?_,fun s hs he=>?_⟩
   ·simp only[AS.set,bS];split
    ·exact hA1
    ·exact h.th k hk
   ·simp only[AS.set,bS];split
    ·exact⟨fun _ _ _ q=>by rw[hb'] at q;simp at q,fun l1 l2 s v u q=>by rw[hb'] at q;simp at q,fun s v q=>by rw[hb'] at q;simp at q,fun l1 l2 x v q=>by rw[hb'] at q;simp at q⟩
    ·exact h.buf k hk
   ·simp only[AS.set,bS];by_cases e:k=n
    ·subst e;rw[if_pos rfl,hhas s];by_cases e2:s=a.s
     ·rw[if_pos e2];simp[e2]
     ·rw[if_neg e2,h.own k hk s hs,ha];simp[e2]
    ·rw[if_neg e];by_cases e2:s=a.s
     ·rw[if_pos e2,e2];constructor
      ·intro q;omega
      ·intro q;exact absurd q (hoth k hk e)
     ·rw[if_neg e2];exact h.own k hk s hs
   ·simp only[AS.set,bS] at he⊢;by_cases e2:s=a.s
    ·rw[if_pos e2];exact⟨n,hn,rfl⟩
    ·rw[if_neg e2] at he⊢;exact h.odd s hs he
   ·simp only[AS.set,bS] at he⊢;by_cases e2:s=a.s
    ·rw[if_pos e2] at he;omega
    ·rw[if_neg e2] at he⊢;exact h.R7 s hs he
  ·refine h.mv (a':=a.bZ 0) hn (Int.le_refl _) rfl rfl (B.bZ (fun k hk=>by omega)) (fun k=>?_) ?_
   ·rw[(iR _ _).held,ha]
   ·rw[(iR _ _).buf,ha]
 |vO=>
  rw[yZ ha hp];rw[hp] at bK hsome;simp only at bK hsome;have hbuf:a.buf=[]:=hbare (.inr hp);have hk1:=B.dx;have key:wN words (m.clock+1) ({a with new:=m.clock+1}.dV 0):=by
   refine uX.dV (C:=m.clock+1) (a:={a with new:=m.clock+1}) ⟨B.len,B.keys,B.uJ,B.rd,⟨hk1.1,by show a.dx<=m.clock+1;omega⟩,B.fin,fun k hk=>?_⟩ hsome bK hbuf ⟨by show a.dx<m.clock+1;omega,Int.le_refl _⟩ (fun k hk=>?_)
   ·obtain⟨o1,o2,o3,o4⟩:=B.old k hk;exact⟨o1,o2,o3,by show a.old k/2<=m.clock+1;omega⟩
   ·obtain⟨o1,o2,o3,o4⟩:=B.old k hk;show a.old k/2<m.clock+1;omega
  refine h.mv hn (by show m.clock<=m.clock+1;omega) rfl rfl key (fun k=>?_) ?_
  ·rw[(vV _ _).held,ha]
  ·rw[(vV _ _).buf,ha]
 |Gb=>
  rw[CV ha hp];rw[hp] at bK hsome hnew;simp only at bK hsome hnew;have hbuf:=hemp (by rw[hp];rfl);have hgo:wN words m.clock (a.dV (a.s+1)):=B.dV hsome.1 bK hbuf hnew (fun k hk=>(hold k hk).2.2.2 (by rw[hp];rfl));have hun:wN words m.clock (a.bZ 0):=B.bZ (fun k hk=>by omega);have e1:cZ N words (m.set n (a.dV (a.s+1))):=h.mv hn (Int.le_refl _) rfl rfl hgo (fun k=>by rw[(vV _ _).held,ha]) (by rw[(vV _ _).buf,ha]);have e2:cZ N words (m.set n (a.bZ 0)):=h.mv hn (Int.le_refl _) rfl rfl hun (fun k=>by rw[(iR _ _).held,ha]) (by rw[(iR _ _).buf,ha])
  repeat' split
  all_goals first|exact e1|exact e2
 |Hu=>
  rw[Cr ha hp];rw[hp] at bK hnew;simp only at bK hnew;have key:wN words m.clock (a.kE 0):=B.kE bK hnew;refine h.mv hn (Int.le_refl _) rfl rfl key (fun k=>?_) ?_
  ·rw[(BC _ _).held,ha]
  ·rw[(BC _ _).buf,ha]
 |wb=>
  rw[hp] at bK hsome hnew;simp only at bK hsome hnew;have hc:=eO hsome;generalize a.log[a.i]=c at hc;rw[GQ ha hp hc];have hm:=bC hc;have key:wN words m.clock ({a with buf:=a.buf++[gD.dat c.1 c.2]}.kE (a.i+1)):=uX.kE (a:={a with buf:=a.buf++[gD.dat c.1 c.2]}) ⟨B.len,B.keys,B.uJ,B.rd,B.dx,B.fin,B.old⟩ bK hnew;refine h.turn hn (Int.le_refl _) rfl rfl key (HB.abE (B.keys c hm) (by rw[bK];exact t_.2 ⟨c,hm,rfl⟩) (BC _ _).buf (BC _ _).held) (fun s=>?_);unfold aY.has;rw[(BC _ _).held,(BC _ _).buf,ha];simp
 |rel=>
  rw[Cs ha hp];rw[hp] at bK hnew;simp only at bK hnew;obtain⟨q1,q2,q3,q4⟩:=bK;have hk1:=B.dx;have key:wN words m.clock ({a with buf:=a.buf++[gD.lock a.s (2*a.new)],held:=upd a.held a.s false}.iw (a.s+1)):=by
   refine uX.iw (a:={a with buf:=a.buf++[gD.lock a.s (2*a.new)],held:=upd a.held a.s false}) ⟨B.len,B.keys,B.uJ,B.rd,B.dx,B.fin,fun k hk=>?_⟩ (fun k hk=>?_) hnew
   ·simp only[bS] at hk;by_cases e:k=a.s
    ·rw[if_pos e] at hk;cases hk
    ·rw[if_neg e] at hk;exact B.old k hk
   ·simp only[bS];by_cases e:k=a.s
    ·rw[if_pos e]
    ·rw[if_neg e];exact q3 k (by omega)
  refine h.turn hn (Int.le_refl _) rfl rfl key (HB.Pq q2 ⟨q1,by omega,by omega,by show _<=m.clock;omega⟩ (vT _ _).buf (vT _ _).held) (fun s=>?_)
  ·unfold aY.has;rw[(vT _ _).held,(vT _ _).buf,ha];simp only[bS];by_cases e:s=a.s
   ·subst e;simp[q2]
   ·simp[e]
 |Kn=>
  rw[CO ha hp];rw[hp] at bK;simp only at bK;obtain⟨q1,q2,q3,q4⟩:=bK;obtain⟨o1,o2,o3,o4⟩:=B.old a.s q2;have key:wN words m.clock ({a with buf:=a.buf++[gD.lock a.s (a.old a.s)],held:=upd a.held a.s false}.bZ (a.s+1)):=by
   refine uX.bZ (a:={a with buf:=a.buf++[gD.lock a.s (a.old a.s)],held:=upd a.held a.s false}) ⟨B.len,B.keys,B.uJ,B.rd,B.dx,B.fin,fun k hk=>?_⟩ (fun k hk=>?_)
   ·simp only[bS] at hk;by_cases e:k=a.s
    ·rw[if_pos e] at hk;cases hk
    ·rw[if_neg e] at hk;exact B.old k hk
   ·simp only[bS];by_cases e:k=a.s
    ·rw[if_pos e]
    ·rw[if_neg e];exact q3 k (by omega)
  refine h.turn hn (Int.le_refl _) rfl rfl key (HB.Pq q2 ⟨q1,o2,o3,o4⟩ (iR _ _).buf (iR _ _).held) (fun s=>?_)
  ·unfold aY.has;rw[(iR _ _).held,(iR _ _).buf,ha];simp only[bS];by_cases e:s=a.s
   ·subst e;simp[q2]
   ·simp[e]
 |yz=>
  rw[Cu ha hp];rw[hp] at bK;simp only at bK;exact h.mv (a':={a with pt:=.look}) hn (Int.le_refl _) rfl rfl (B.free bK (.inl rfl)) (fun k=>by rw[ha]) (by rw[ha])
 |out=>
  rw[Cv ha hp];rw[hp] at bK;simp only at bK;refine h.mv (a':=({a with row:=a.row+1,out:=a.out++[a.sum]}.jT rs)) hn (Int.le_refl _) rfl rfl ?_ (fun k=>?_) ?_
  ·have B1:uX words m.clock {a with row:=a.row+1,out:=a.out++[a.sum]}:=⟨B.len,B.keys,B.uJ,B.rd,B.dx,B.fin,B.old⟩;unfold aY.jT;split
   ·exact B1.free bK (.inl rfl)
   ·exact B1.free bK (.inr (.inr (.inr (.inr rfl))))
  ·rw[(yF _ _).held,ha]
  ·rw[(yF _ _).buf,ha]
 |halt=>
  rw[Aa ha hp];rw[hp] at bK;simp only at bK;exact h.mv (a':={a with pt:=.over,fin:=1}) hn (Int.le_refl _) rfl rfl ⟨B.len,B.keys,B.uJ,B.rd,B.dx,bK,trivial,trivial,trivial,trivial,fun q=>(by cases q),fun k hk=>(by rw[bK k] at hk;cases hk),⟨fun q=>absurd q (show ¬(1:Int)=0 by decide),fun q=>absurd rfl q⟩⟩ (fun k=>by rw[ha]) (by rw[ha])
 |over=>
  rw[zn ha hp];exact h
theorem cZ.flush (h:cZ N words m) (hn:n<N):cZ N words (m.flush n):=by
 have HA:=h.th n hn;have HB:=h.buf n hn;unfold AS.flush;cases hb:(m.aT n).buf with
 |nil=>exact h
 |cons e r=>
  have tA:wN words m.clock {m.aT n with buf:=r}:=⟨HA.len,HA.keys,HA.uJ,HA.rd,HA.dx,HA.held,HA.some,HA.x,HA.l1,HA.new,fun q=>(by have:=HA.bare q;rw[hb] at this;cases this),HA.old,HA.fin⟩;have tB:oM words m.clock {m.aT n with buf:=r}:=HB.tail hb rfl rfl;cases e with
  |dat x v=>
   refine h.turn (a':={m.aT n with buf:=r}) hn (Int.le_refl _) rfl rfl tA tB (fun s=>?_);unfold aY.has;rw[hb];simp
  |lock s v=>
   have hval:=HB.val s v (by rw[hb];exact List.mem_cons_self);have hown:=(h.own n hn s hval.1).2 (.inr ⟨v,by rw[hb];exact List.mem_cons_self⟩);have hno:¬({m.aT n with buf:=r}:aY).has s:=by
    rintro(q|⟨u,q⟩)
    ·exact HB.excl s v q (by rw[hb];exact List.mem_cons_self)
    ·exact(HB.once [] r s v u hb).2 q
   refine⟨h.dx,fun k hk=>?_,fun k hk=>?_,fun k hk j hj=>?_,fun j hj he=>?_,fun j hj he=>?_⟩
   ·simp only[AS.set,bS];split
    ·exact tA
    ·exact h.th k hk
   ·simp only[AS.set,bS];split
    ·exact tB
    ·exact h.buf k hk
   ·simp only[AS.set,bS];by_cases e2:j=s
    ·subst e2;rw[if_pos rfl];by_cases e:k=n
     ·subst e;rw[if_pos rfl];exact⟨fun q=>by omega,fun q=>absurd q hno⟩
     ·rw[if_neg e];refine⟨fun q=>by omega,fun q=>?_⟩;have:=(h.own k hk j hj).2 q;omega
    ·rw[if_neg e2,h.own k hk j hj];by_cases e:k=n
     ·subst e;rw[if_pos rfl];unfold aY.has;rw[hb];simp[e2]
     ·rw[if_neg e]
   ·simp only[AS.set,bS] at he⊢;by_cases e2:j=s
    ·rw[if_pos e2] at he;omega
    ·rw[if_neg e2] at he⊢;exact h.odd j hj he
   ·simp only[AS.set,bS] at he⊢;by_cases e2:j=s
    ·rw[if_pos e2];exact⟨hval.2.2.1,hval.2.2.2⟩
    ·rw[if_neg e2] at he⊢;exact h.R7 j hj he
end
section
variable {N n k:Nat} {words C C':Int} {m m':AS} {a a' b:aY} {rs:List (List Tx)} {l:List Tx} {s:Nat} {x v:Int}
def aY.owed (a:aY):List gD:=match a.pt with
 |.wb=>a.buf++(a.log.drop a.i).map (fun c=>gD.dat c.1 c.2)
 |_=>a.buf
def yj (x:Int) (v:Option Int) (e:gD):Option Int:=match e with
 |.dat y u=>if y=x then some u else v
 |.lock _ _=>v
def iD (x:Int) (l:List gD):Option Int:=l.foldl (yj x) none
theorem pE (x:Int) (l:List gD) (e:gD):iD x (l++[e])=yj x (iD x l) e:=by unfold iD;rw[List.foldl_append];rfl
theorem rG (x:Int) (e:gD) (l:List gD):iD x (e::l)=match iD x l with
  |some v=>some v
  |none=>yj x none e:=by
 induction l using zS with
 |h0=>rfl
 |h1 l d ih=>
  rw[<-List.cons_append,pE,pE,ih];cases d with
  |lock k u=>rfl
  |dat y u=>
   by_cases h:y=x
   ·simp[yj,h]
   ·simp only[yj,if_neg h]
theorem yI {l:List gD}:iD x l=none↔∀v,gD.dat x v∉l:=by
 induction l using zS with
 |h0=>simp[iD]
 |h1 l d ih=>
  rw[pE];cases d with
  |lock k u=>
   show iD x l=none↔_;rw[ih];simp
  |dat y u=>
   show(if y=x then some u else iD x l)=none↔_;by_cases h:y=x
   ·rw[if_pos h];exact⟨fun q=>(by cases q),fun q=>absurd (by rw[h];simp) (q u)⟩
   ·rw[if_neg h,ih];refine⟨fun q v hv=>?_,fun q v hv=>q v (List.mem_append_left _ hv)⟩;rcases List.mem_append.1 hv with hv|hv
    ·exact q v hv
    ·simp at hv;exact h hv.1.symm
theorem Rm (b:List gD) (D:Int->Int) (x:Int):uq b D x=(iD x b).getD (D x):=by
 induction b using zS with
 |h0=>rfl
 |h1 b e ih=>
  have ev:uq (b++[e]) D x=sD x (uq b D x) e:=by unfold uq;rw[List.foldl_append];rfl
  rw[ev,pE,ih];cases e with
  |lock k u=>rfl
  |dat y u=>
   by_cases h:y=x
   ·simp[sD,yj,h]
   ·simp only[sD,yj,if_neg h]
theorem KP {log:List (Int×Int)} (hn:(log.map Prod.fst).Nodup) {c:Int×Int} (hc:c∈log):iD c.1 (log.map (fun c=>gD.dat c.1 c.2))=some c.2:=by
 induction log with
 |nil=>cases hc
 |cons d l ih=>
  simp only[List.map_cons,List.nodup_cons,List.mem_map,not_exists,not_and] at hn;rw[List.map_cons,rG];rcases List.mem_cons.1 hc with rfl|hc
  ·have:iD c.1 (l.map (fun c=>gD.dat c.1 c.2))=none:=yI.2 (fun v hv=>by
    obtain⟨e,he,q⟩:=List.mem_map.1 hv;injection q with q1 q2
    exact hn.1 e he q1)
   rw[this];simp[yj]
  ·rw[ih hn.2 hc]
theorem Fs {log:List (Int×Int)} (h:∀c∈log,c.1≠x):iD x (log.map (fun c=>gD.dat c.1 c.2))=none:=yI.2 (fun v hv=>by
 obtain⟨e,he,q⟩:=List.mem_map.1 hv;injection q with q1 q2
 exact h e he q1)
def aY.says (a:aY) (s:Nat):Int:=if a.pt.dn=true then a.new else a.old s/2
def fv (m:AS) (s:Nat):Int:=if m.aR s%2=0 then m.aR s/2 else
 if(m.aT (m.aR s/2).toNat).held s=true then(m.aT (m.aR s/2).toNat).says s else dF (m.aT (m.aR s/2).toNat).buf m.aR s/2
theorem su (h:m.aR s%2=0):fv m s=m.aR s/2:=if_pos h
theorem Jw (h:m.aR s=2*n+1):m.aR s%2≠0/\(m.aR s/2).toNat=n:=by constructor<;>omega
theorem cZ.kg (h:cZ N words m) (hn:n<N) (hs:s<16) (hh:(m.aT n).held s=true):fv m s=(m.aT n).says s:=by
 obtain⟨q1,q2⟩:=Jw ((h.own n hn s hs).2 (.inl hh));unfold fv;rw[if_neg q1,q2,if_pos hh]
theorem oM.aeo (h:oM words C a) (hv:gD.lock s v∈a.buf) (L:Nat->Int):dF a.buf L s=v:=by
 rcases sM a.buf L s with⟨l1,l2,u,e,h1,h2⟩|⟨h1,h2⟩
 ·rw[h2];obtain⟨q1,q2⟩:=h.once l1 l2 s u v e;rw[e] at hv;rcases List.mem_append.1 hv with hv|hv
  ·exact absurd hv q1
  ·rcases List.mem_cons.1 hv with hv|hv
   ·cases hv;rfl
   ·exact absurd hv q2
 ·exact absurd hv (h1 v)
theorem cZ.o9 (h:cZ N words m) (hn:n<N) (hs:s<16) (hv:gD.lock s v∈(m.aT n).buf):fv m s=v/2:=by
 obtain⟨q1,q2⟩:=Jw ((h.own n hn s hs).2 (.inr ⟨v,hv⟩));unfold fv;have hno:(m.aT n).held s=false:=by
  cases hh:(m.aT n).held s with
  |false=>rfl
  |true=>exact absurd hv ((h.buf n hn).excl s v hh)
 rw[if_neg q1,q2,hno,if_neg (by simp),(h.buf n hn).aeo hv]
theorem cZ.zM (h:cZ N words m) (hs:s<16):(m.aR s%2=0/\fv m s=m.aR s/2/\∀k,k<N->¬(m.aT k).has s)\/∃k,k<N/\(m.aT k).has s/\m.aR s=2*k+1:=by
 by_cases e:m.aR s%2=0
 ·refine .inl ⟨e,su e,fun k hk q=>?_⟩;have:=(h.own k hk s hs).2 q;omega
 ·obtain⟨k,hk,q⟩:=h.odd s hs e;exact .inr ⟨k,hk,(h.own k hk s hs).1 q,q⟩
theorem cZ.one (h:cZ N words m) (hn:n<N) (hk:k<N) (hs:s<16) (h1:(m.aT n).has s) (h2:(m.aT k).has s):n=k:=by
 have q1:=(h.own n hn s hs).2 h1;have q2:=(h.own k hk s hs).2 h2;omega
theorem cZ.owes (h:cZ N words m) (hn:n<N) (hx:iD x (m.aT n).owed≠none):(1<=x/\x<=words)/\(m.aT n).has (bA x):=by
 have HB:=h.buf n hn;have HA:=h.th n hn;have hb:(∃v,gD.dat x v∈(m.aT n).buf)->(1<=x/\x<=words)/\(m.aT n).has (bA x):=fun⟨v,hv⟩=>by
  obtain⟨l1,l2,e⟩:=List.append_of_mem hv;obtain⟨q1,q2⟩:=HB.dat l1 l2 x v e;refine⟨q1,?_⟩;rcases q2 with q2|⟨u,q2⟩
  ·exact .inl q2
  ·exact .inr ⟨u,by rw[e];exact List.mem_append_right _ (List.mem_cons_of_mem _ q2)⟩
 have hd:∃v,gD.dat x v∈(m.aT n).owed:=by
  apply Classical.byContradiction;intro q;exact hx (yI.2 (fun v hv=>q ⟨v,hv⟩))
 obtain⟨v,hv⟩:=hd;by_cases hp:(m.aT n).pt= .wb
 ·unfold aY.owed at hv;rw[hp] at hv;rcases List.mem_append.1 hv with hv|hv
  ·exact hb ⟨v,hv⟩
  ·obtain⟨c,hc,q⟩:=List.mem_map.1 hv;injection q with q1 q2
   subst q1;have hcm:=List.mem_of_mem_drop hc;refine⟨HA.keys c hcm,.inl ?_⟩;have:=HA.held;rw[hp] at this;rw[this];exact t_.2 ⟨c,hcm,rfl⟩
 ·have:(m.aT n).owed=(m.aT n).buf:=by
   unfold aY.owed;cases hq:(m.aT n).pt<;>first|rfl|exact absurd hq hp
  rw[this] at hv;exact hb ⟨v,hv⟩
theorem fG (hp:a.pt≠ .wb):a.owed=a.buf:=by
 unfold aY.owed;cases hq:a.pt<;>first|rfl|exact absurd hq hp
theorem cZ.seen (h:cZ N words m) (hn:n<N) (hs:s<16) (hh:(m.aT n).held s=false) (he:dF (m.aT n).buf m.aR s%2=0):fv m s=dF (m.aT n).buf m.aR s/2/\∀k,k<N->k≠n->¬(m.aT k).has s:=by
 rcases sM (m.aT n).buf m.aR s with⟨l1,l2,v,e,h1,h2⟩|⟨h1,h2⟩
 ·have hv:gD.lock s v∈(m.aT n).buf:=by rw[e];simp
  rw[h2];exact⟨h.o9 hn hs hv,fun k hk hkn q=>hkn (h.one hk hn hs q (.inr ⟨v,hv⟩))⟩
 ·rw[h2] at he⊢;refine⟨su he,fun k hk _ q=>?_⟩;have:=(h.own k hk s hs).2 q;omega
theorem wZ (h:cZ N words m) (h':cZ N words m') (hn:n<N) (hoth:∀k,k≠n->m'.aT k=m.aT k) (hl:m'.aR=m.aR) (hb:∀s v,gD.lock s v∈(m.aT n).buf->gD.lock s v∈(m'.aT n).buf)
  (hh:∀s,s<16->(m.aT n).held s=true->((m'.aT n).held s=true/\(m'.aT n).says s=(m.aT n).says s)\/∃v,gD.lock s v∈(m'.aT n).buf/\v/2=(m.aT n).says s):∀s,s<16->fv m' s=fv m s:=by
 intro s hs;rcases h.zM hs with⟨q1,q2,q3⟩|⟨k,hk,q1,q2⟩
 ·rw[q2,su (by rw[hl];exact q1),hl]
 ·by_cases e:k=n
  ·subst e;rcases q1 with q1|⟨v,q1⟩
   ·rw[h.kg hk hs q1];rcases hh s hs q1 with⟨r1,r2⟩|⟨v,r1,r2⟩
    ·rw[h'.kg hk hs r1,r2]
    ·rw[h'.o9 hk hs r1,r2]
   ·rw[h.o9 hk hs q1,h'.o9 hk hs (hb s v q1)]
  ·have hk2:=hoth k e;rcases q1 with q1|⟨v,q1⟩
   ·rw[h.kg hk hs q1,h'.kg hk hs (by rw[hk2];exact q1),hk2]
   ·rw[h.o9 hk hs q1,h'.o9 hk hs (by rw[hk2];exact q1)]
theorem VL (h:cZ N words m) (hn:n<N):∀s,s<16->fv (m.flush n) s=fv m s:=by
 have h':=h.flush hn;intro s hs;unfold AS.flush at h'⊢;cases hb:(m.aT n).buf with
 |nil=>rfl
 |cons e r=>
  rw[hb] at h';have hoth:∀(D:Int->Int) (C:Int) (L:Nat->Int) (E:List Ev) (k:Nat),(upd m.aT n {m.aT n with buf:=r}) k=if k=n then {m.aT n with buf:=r} else m.aT k:=fun _ _ _ _ k=>rfl
  cases e with
  |dat x v=>
   refine wZ h h' hn (fun k hk=>?_) rfl (fun j u hu=>?_) (fun j hj hh=>.inl ⟨?_,?_⟩) s hs
   ·show upd m.aT n _ k=_;rw[bS,if_neg hk]
   ·show gD.lock j u∈(upd m.aT n _ n).buf;rw[bS,if_pos rfl];rw[hb] at hu;simpa using hu
   ·show(upd m.aT n _ n).held j=true;rw[bS,if_pos rfl];exact hh
   ·show(upd m.aT n _ n).says j=_;rw[bS,if_pos rfl];rfl
  |lock i v=>
   have hval:=(h.buf n hn).val i v (by rw[hb];exact List.mem_cons_self);by_cases e:s=i
   ·subst e;rw[h.o9 hn hs (v:=v) (by rw[hb];exact List.mem_cons_self)];have hl:({m with aR:=upd m.aR s v}.set n {m.aT n with buf:=r}).aR s=v:=by simp[AS.set,bS]
    rw[su (by rw[hl];exact hval.2.1),hl]
   ·have hl:({m with aR:=upd m.aR i v}.set n {m.aT n with buf:=r}).aR s=m.aR s:=by simp[AS.set,bS,e]
    have hth:∀k,({m with aR:=upd m.aR i v}.set n {m.aT n with buf:=r}).aT k=if k=n then {m.aT n with buf:=r} else m.aT k:=fun k=>rfl
    rcases h.zM hs with⟨q1,q2,q3⟩|⟨k,hk,q1,q2⟩
    ·rw[q2,su (by rw[hl];exact q1),hl]
    ·rcases q1 with q1|⟨u,q1⟩
     ·rw[h.kg hk hs q1];rw[h'.kg (n:=k) hk hs (by rw[hth];split<;>(try (rename_i e2;subst e2))<;>exact q1),hth];split
      ·rename_i e2;subst e2;rfl
      ·rfl
     ·rw[h.o9 hk hs q1];refine h'.o9 (n:=k) hk hs ?_;rw[hth];split
      ·rename_i e2;subst e2;rw[hb] at q1;simpa [e] using q1
      ·exact q1
end
end Go.Proofs.YtopdcjimpdalpaaGreat

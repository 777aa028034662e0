import Derived.Test.YtopdcjimpdalpaaGreatQ05
import Derived.Test.YtopdcjimpdalpaaGreatQ06
namespace Go.Proofs.YtopdcjimpdalpaaGreat
open Go.RowKit
set_option linter.all false
set_option maxHeartbeats 1000000
section
def Pt.oQ:Pt->Bool
 |.look|.wb|.rel|.out|.halt|.over=>false
 |_=>true
def Pt.pend:Pt->Bool
 |.Bc|.BM=>true
 |_=>false
def Pt.dn:Pt->Bool
 |.wb|.rel=>true
 |_=>false
structure vP (words C:Int) (a:aO):Prop where
 len:a.log.length<=64
 keys:∀c∈a.log,1<=c.1/\c.1<=words
 tJ:(a.log.map Prod.fst).Nodup
 rd:a.reads<65536
 bX:0<=a.bX/\a.bX<=C
 held:match a.pt with
  |.Eg|.zw=>a.s<16/\(needs a.log).testBit a.s=true/\∀k,a.held k=(decide (k<a.s) && (needs a.log).testBit k)
  |.qG|.Bc|.BM|.wb=>∀k,a.held k=(needs a.log).testBit k
  |.rel|.DK=>a.s<16/\a.held a.s=true/\(∀k,k<a.s->a.held k=false)/\∀k,16<=k->a.held k=false
  |_=>∀k,a.held k=false
 some:match a.pt with
  |.Eg|.zw|.qG|.BM=>a.log≠[]
  |.Bc=>a.log≠[]/\a.s<16/\a.reads.testBit a.s=true
  |.wb=>a.i<a.log.length
  |.wr=>place a.log a.x<a.log.length\/a.log.length<64
  |.ro=>a.log=[]
  |_=>True
 x:match a.pt with
  |.rd|.Bz|.dat|.ym|.wr=>1<=a.x/\a.x<=words
  |_=>True
 l1:match a.pt with
  |.zw=>a.l1%2=0/\0<=a.l1/\a.l1/2<=C
  |.dat|.ym=>a.l1%2=0/\0<=a.l1/\a.l1/2<=a.bX
  |_=>True
 new:match a.pt with
  |.Bc|.BM|.wb|.rel=>a.bX<a.new/\a.new<=C
  |_=>True
 bare:a.pt.pend=true->a.buf=[]
 old:∀k,a.held k=true->a.old k%2=0/\0<=a.old k/\a.old k/2<=C/\(a.pt.pend=true->a.old k/2<a.new)
 fin:a.fin=0↔a.pt≠ .over
def aO.has (a:aO) (s:Nat):Prop:=a.held s=true\/∃v,fF.lock s v∈a.buf
structure nO (words C:Int) (a:aO):Prop where
 excl:∀s v,a.held s=true->fF.lock s v∉a.buf
 once:∀l1 l2 s v u,a.buf=l1++fF.lock s v::l2->fF.lock s u∉l1/\fF.lock s u∉l2
 val:∀s v,fF.lock s v∈a.buf->s<16/\v%2=0/\0<=v/\v/2<=C
 dat:∀l1 l2 x v,a.buf=l1++fF.dat x v::l2->(1<=x/\x<=words)/\(a.held (aV x)=true\/∃u,fF.lock (aV x) u∈l2)
structure bS (N:Nat) (words:Int) (m:AS):Prop where
 bX:0<=m.clock
 th:∀n,n<N->vP words m.clock (m.aM n)
 buf:∀n,n<N->nO words m.clock (m.aM n)
 own:∀n,n<N->∀s,s<16->(m.aN s=2*n+1↔(m.aM n).has s)
 odd:∀s,s<16->m.aN s%2≠0->∃n,n<N/\m.aN s=2*n+1
 M6:∀s,s<16->m.aN s%2=0->0<=m.aN s/\m.aN s/2<=m.clock
variable {N n:Nat} {words C C':Int} {m m':AS} {a a':aO} {rs:List (List Tx)} {l:List Tx}
theorem Ml (l:List (Int×Int)) (k:Nat):∀m:Nat,(l.foldl (fun m c=>m|||1<<<aV c.1) m).testBit k=true↔m.testBit k=true\/∃c∈l,aV c.1=k:=by
 induction l with
 |nil=>intro m;simp
 |cons c l ih=>
  intro m;rw[List.foldl_cons,ih,ry];simp only[Bool.or_eq_true,decide_eq_true_eq,List.mem_cons,exists_eq_or_imp,or_assoc];exact or_congr_right (or_congr_left eq_comm)
theorem qh {l:List (Int×Int)} {k:Nat}:(needs l).testBit k=true↔∃c∈l,aV c.1=k:=by
 unfold needs;rw[Ml];simp
theorem Jy (l:List (Int×Int)) {k:Nat} (hk:16<=k):(needs l).testBit k=false:=by
 cases hb:(needs l).testBit k with
 |false=>rfl
 |true=>
  obtain⟨c, -,hc⟩:=qh.1 hb;have:=bO c.1;omega
theorem vP.YW (h:vP words C a) {k:Nat} (hk:16<=k):a.held k=false:=by
 have hn:=Jy a.log hk;have:=h.held;cases hp:a.pt<;>rw[hp] at this<;>simp only at this<;>first|exact this k|(rw[this.2.2 k,hn,Bool.and_false])|(rw[this k,hn])|exact this.2.2.2 k hk
structure tQ (words C:Int) (a:aO):Prop where
 len:a.log.length<=64
 keys:∀c∈a.log,1<=c.1/\c.1<=words
 tJ:(a.log.map Prod.fst).Nodup
 rd:a.reads<65536
 bX:0<=a.bX/\a.bX<=C
 fin:a.fin=0
 old:∀k,a.held k=true->k<16/\a.old k%2=0/\0<=a.old k/\a.old k/2<=C
theorem vP.base (h:vP words C a) (hp:a.pt≠ .over):tQ words C a:=
 ⟨h.len,h.keys,h.tJ,h.rd,h.bX,h.fin.2 hp,fun k hk=>⟨(by
  rcases Nat.lt_or_ge k 16 with q|q
  ·exact q
  ·rw[h.YW q] at hk;cases hk),(h.old k hk).1,(h.old k hk).2.1,(h.old k hk).2.2.1⟩⟩
theorem vP.mono (h:vP words C a) (hC:C<=C'):vP words C' a:=
 ⟨h.len,h.keys,h.tJ,h.rd,⟨h.bX.1,Int.le_trans h.bX.2 hC⟩,h.held,h.some,h.x,by
  have:=h.l1;cases hp:a.pt<;>rw[hp] at this<;>simp only at this⊢<;>first|exact this|exact⟨this.1,this.2.1,Int.le_trans this.2.2 hC⟩,by
  have:=h.new;cases hp:a.pt<;>rw[hp] at this<;>simp only at this⊢<;>exact⟨this.1,Int.le_trans this.2 hC⟩,h.bare,fun k hk=>by
  obtain⟨q1,q2,q3,q4⟩:=h.old k hk;exact⟨q1,q2,Int.le_trans q3 hC,q4⟩,h.fin⟩
theorem nO.mono (h:nO words C a) (hC:C<=C'):nO words C' a:=
 ⟨h.excl,h.once,fun s v hv=>by
  obtain⟨q1,q2,q3,q4⟩:=h.val s v hv;exact⟨q1,q2,q3,Int.le_trans q4 hC⟩,h.dat⟩
theorem nO.same (h:nO words C a) (h1:a'.held=a.held) (h2:a'.buf=a.buf):nO words C a':=
 ⟨by rw[h1,h2];exact h.excl,by rw[h2];exact h.once,by rw[h2];exact h.val,by rw[h1,h2];exact h.dat⟩
theorem tQ.cu {s:Nat} (h:tQ words C a) (hne:a.log≠[]) (hh:∀k,a.held k=(decide (k<s) && (needs a.log).testBit k)):vP words C (a.cu s):=by
 unfold aO.cu;cases hn:nS (fun k=>(needs a.log).testBit k) s with
 |some k=>
  obtain⟨q1,q2,q3,q4⟩:=jc hn;refine⟨h.len,h.keys,h.tJ,h.rd,h.bX,⟨q2,q3,fun j=>?_⟩,hne,trivial,trivial,trivial,fun q=>(by cases q),fun j hj=>⟨(h.old j hj).2.1,(h.old j hj).2.2.1,(h.old j hj).2.2.2,fun q=>(by cases q)⟩,⟨fun _ q=>(by cases q),fun _=>h.fin⟩⟩;show a.held j=(decide (j<k) && (needs a.log).testBit j);rw[hh j];by_cases h1:j<s
  ·rw[decide_eq_true h1,decide_eq_true (show j<k by omega)]
  ·rw[decide_eq_false h1,Bool.false_and];by_cases h2:j<k
   ·rw[show(needs a.log).testBit j=false from q4 j (by omega) h2,Bool.and_false]
   ·rw[decide_eq_false h2,Bool.false_and]
 |none=>
  refine⟨h.len,h.keys,h.tJ,h.rd,h.bX,fun j=>?_,hne,trivial,trivial,trivial,fun q=>(by cases q),fun j hj=>⟨(h.old j hj).2.1,(h.old j hj).2.2.1,(h.old j hj).2.2.2,fun q=>(by cases q)⟩,⟨fun _ q=>(by cases q),fun _=>h.fin⟩⟩;show a.held j=(needs a.log).testBit j;rw[hh j];by_cases h1:j<s
  ·rw[decide_eq_true h1,Bool.true_and]
  ·rw[decide_eq_false h1,Bool.false_and];rcases Nat.lt_or_ge j 16 with h2|h2
   ·exact(nV hn j (by omega) h2).symm
   ·exact(Jy _ h2).symm
theorem tQ.cz {s:Nat} (h:tQ words C a) (hne:a.log≠[]) (hh:∀k,a.held k=(needs a.log).testBit k) (hb:a.buf=[]) (hn:a.bX<a.new/\a.new<=C) (ho:∀k,a.held k=true->a.old k/2<a.new):vP words C (a.cz s):=by
 unfold aO.cz;cases hn':nS (fun k=>a.reads.testBit k) s with
 |some k=>
  obtain⟨q1,q2,q3,q4⟩:=jc hn';exact⟨h.len,h.keys,h.tJ,h.rd,h.bX,hh,⟨hne,q2,q3⟩,trivial,trivial,hn,fun _=>hb,fun j hj=>⟨(h.old j hj).2.1,(h.old j hj).2.2.1,(h.old j hj).2.2.2,fun _=>ho j hj⟩,⟨fun _ q=>(by cases q),fun _=>h.fin⟩⟩
 |none=>
  exact⟨h.len,h.keys,h.tJ,h.rd,h.bX,hh,hne,trivial,trivial,hn,fun _=>hb,fun j hj=>⟨(h.old j hj).2.1,(h.old j hj).2.2.1,(h.old j hj).2.2.2,fun _=>ho j hj⟩,⟨fun _ q=>(by cases q),fun _=>h.fin⟩⟩
theorem tQ.dV {s:Nat} (h:tQ words C a) (hh:∀k,k<s->a.held k=false) (hn:a.bX<a.new/\a.new<=C):vP words C (a.dV s):=by
 have h16:∀k,16<=k->a.held k=false:=fun k hk=>by
  cases hb:a.held k with
  |false=>rfl
  |true=>have:=(h.old k hb).1;omega
 unfold aO.dV;cases hn':nS a.held s with
 |some k=>
  obtain⟨q1,q2,q3,q4⟩:=jc hn';refine⟨h.len,h.keys,h.tJ,h.rd,h.bX,⟨q2,q3,fun j hj=>?_,h16⟩,trivial,trivial,trivial,hn,fun q=>(by cases q),fun j hj=>⟨(h.old j hj).2.1,(h.old j hj).2.2.1,(h.old j hj).2.2.2,fun q=>(by cases q)⟩,⟨fun _ q=>(by cases q),fun _=>h.fin⟩⟩;rcases Nat.lt_or_ge j s with e|e
  ·exact hh j e
  ·exact q4 j e hj
 |none=>
  refine⟨h.len,h.keys,h.tJ,h.rd,h.bX,fun j=>?_,trivial,trivial,trivial,trivial,fun q=>(by cases q),fun j hj=>⟨(h.old j hj).2.1,(h.old j hj).2.2.1,(h.old j hj).2.2.2,fun q=>(by cases q)⟩,⟨fun _ q=>(by cases q),fun _=>h.fin⟩⟩;rcases Nat.lt_or_ge j s with e|e
  ·exact hh j e
  ·rcases Nat.lt_or_ge j 16 with e2|e2
   ·exact nV hn' j e e2
   ·exact h16 j e2
theorem tQ.bJ {s:Nat} (h:tQ words C a) (hh:∀k,k<s->a.held k=false):vP words C (a.bJ s):=by
 have h16:∀k,16<=k->a.held k=false:=fun k hk=>by
  cases hb:a.held k with
  |false=>rfl
  |true=>have:=(h.old k hb).1;omega
 unfold aO.bJ;cases hn':nS a.held s with
 |some k=>
  obtain⟨q1,q2,q3,q4⟩:=jc hn';refine⟨h.len,h.keys,h.tJ,h.rd,h.bX,⟨q2,q3,fun j hj=>?_,h16⟩,trivial,trivial,trivial,trivial,fun q=>(by cases q),fun j hj=>⟨(h.old j hj).2.1,(h.old j hj).2.2.1,(h.old j hj).2.2.2,fun q=>(by cases q)⟩,⟨fun _ q=>(by cases q),fun _=>h.fin⟩⟩;rcases Nat.lt_or_ge j s with e|e
  ·exact hh j e
  ·exact q4 j e hj
 |none=>
  refine⟨h.len,h.keys,h.tJ,h.rd,h.bX,fun j=>?_,trivial,trivial,trivial,trivial,fun q=>(by cases q),fun j hj=>⟨(h.old j hj).2.1,(h.old j hj).2.2.1,(h.old j hj).2.2.2,fun q=>(by cases q)⟩,⟨fun _ q=>(by cases q),fun _=>h.fin⟩⟩;rcases Nat.lt_or_ge j s with e|e
  ·exact hh j e
  ·rcases Nat.lt_or_ge j 16 with e2|e2
   ·exact nV hn' j e e2
   ·exact h16 j e2
theorem tQ.iB {i:Nat} (h:tQ words C a) (hh:∀k,a.held k=(needs a.log).testBit k) (hn:a.bX<a.new/\a.new<=C):vP words C (a.iB i):=by
 unfold aO.iB;by_cases hi:i<a.log.length
 ·rw[if_pos hi];exact⟨h.len,h.keys,h.tJ,h.rd,h.bX,hh,hi,trivial,trivial,hn,fun q=>(by cases q),fun j hj=>⟨(h.old j hj).2.1,(h.old j hj).2.2.1,(h.old j hj).2.2.2,fun q=>(by cases q)⟩,⟨fun _ q=>(by cases q),fun _=>h.fin⟩⟩
 ·rw[if_neg hi];exact h.dV (fun k hk=>by omega) hn
theorem tQ.free (h:tQ words C a) (hh:∀k,a.held k=false) {p:Pt} (hp:p= .look\/p= .full\/p= .u6\/p= .out\/p= .halt):vP words C {a with pt:=p}:=by
 have ho:∀k,a.held k=true->a.old k%2=0/\0<=a.old k/\a.old k/2<=C/\(p.pend=true->a.old k/2<a.new):=fun k hk=>by rw[hh k] at hk;cases hk
 rcases hp with rfl|rfl|rfl|rfl|rfl<;>exact⟨h.len,h.keys,h.tJ,h.rd,h.bX,hh,trivial,trivial,trivial,trivial,fun q=>(by cases q),ho,⟨fun _ q=>(by cases q),fun _=>h.fin⟩⟩
theorem tQ.bL (h:tQ words C a) (hh:∀k,a.held k=false) (hl:∀o∈l,1<=o.at_/\o.at_<=words):vP words C (a.bL l):=by
 have ho:∀(P:Prop) k,a.held k=true->a.old k%2=0/\0<=a.old k/\a.old k/2<=C/\(P->a.old k/2<a.new):=fun P k hk=>by rw[hh k] at hk;cases hk
 unfold aO.bL;cases hop:l[a.op]? with
 |none=>
  simp only;by_cases he:a.log=[]
  ·rw[if_pos he];exact⟨h.len,h.keys,h.tJ,h.rd,h.bX,hh,he,trivial,trivial,trivial,fun q=>(by cases q),ho _,⟨fun _ q=>(by cases q),fun _=>h.fin⟩⟩
  ·rw[if_neg he];exact h.cu he (fun k=>by rw[hh k];simp)
 |some o=>
  have hx:=hl o (bA hop);simp only;by_cases hk:o.kind=2
  ·rw[if_pos hk];cases hpl:a.log[place a.log o.at_]? with
   |some c=>exact⟨h.len,h.keys,h.tJ,h.rd,h.bX,hh,trivial,hx,trivial,trivial,fun q=>(by cases q),ho _,⟨fun _ q=>(by cases q),fun _=>h.fin⟩⟩
   |none=>exact⟨h.len,h.keys,h.tJ,h.rd,h.bX,hh,trivial,hx,trivial,trivial,fun q=>(by cases q),ho _,⟨fun _ q=>(by cases q),fun _=>h.fin⟩⟩
  ·rw[if_neg hk];by_cases hr:place a.log o.at_<a.log.length\/a.log.length<64
   ·rw[if_pos hr];exact⟨h.len,h.keys,h.tJ,h.rd,h.bX,hh,hr,hx,trivial,trivial,fun q=>(by cases q),ho _,⟨fun _ q=>(by cases q),fun _=>h.fin⟩⟩
   ·rw[if_neg hr];exact h.free hh (.inr (.inl rfl))
theorem Nh {log:List (Int×Int)} {x v:Int} (h1:log.length<=64) (h2:∀c∈log,1<=c.1/\c.1<=words) (h3:(log.map Prod.fst).Nodup) (hr:place log x<log.length\/log.length<64) (hx:1<=x/\x<=words):
  (kz log x v).length<=64/\(∀c∈kz log x v,1<=c.1/\c.1<=words)/\((kz log x v).map Prod.fst).Nodup:=by
 unfold kz;by_cases hp:place log x<log.length
 ·rw[if_pos hp];obtain⟨c,hc,hcx⟩:=yO hp;refine⟨by rw[List.length_set];exact h1,fun d hd=>?_,?_⟩
  ·rcases List.mem_or_eq_of_mem_set hd with hd|rfl
   ·exact h2 d hd
   ·exact hx
  ·have:(log.set (place log x) (x,v)).map Prod.fst=log.map Prod.fst:=by
    rw[List.map_set];refine List.ext_getElem? fun k=>?_
    by_cases e:place log x=k
    ·subst e;rw[List.getElem?_set_self (by rw[List.length_map];exact hp),List.getElem?_map,hc];simp[hcx]
    ·rw[List.getElem?_set_ne e]
   rw[this];exact h3
 ·rw[if_neg hp];have hno:∀c∈log,c.1≠x:=t_ (List.getElem?_eq_none (by omega));refine⟨by simp;omega,fun d hd=>?_,?_⟩
  ·rcases List.mem_append.1 hd with hd|hd
   ·exact h2 d hd
   ·rw[List.mem_singleton.1 hd];exact hx
  ·rw[List.map_append,List.nodup_append];refine⟨h3,by simp,fun p hp q hq=>?_⟩;obtain⟨c,hc,rfl⟩:=List.mem_map.1 hp;simp at hq;rw[hq];exact hno c hc
theorem yM {α:Type} {P:List α->Prop} (h0:P []) (h1:∀l x,P l->P (l++[x])) (l:List α):P l:=by
 have:∀l:List α,P l.reverse:=by
  intro l;induction l with
  |nil=>exact h0
  |cons x l ih=>rw[List.reverse_cons];exact h1 _ x ih
 have h:=this l.reverse
 rwa [List.reverse_reverse] at h
theorem ru (b:List fF) (L:Nat->Int) (s:Nat):(∃l1 l2 v,b=l1++fF.lock s v::l2/\(∀u,fF.lock s u∉l2)/\dh b L s=v)\/(∀v,fF.lock s v∉b)/\dh b L s=L s:=by
 induction b using yM with
 |h0=>exact .inr ⟨fun v h=>by simp at h,rfl⟩
 |h1 b e ih=>
  have ev:dh (b++[e]) L s=sL s (dh b L s) e:=by unfold dh;rw[List.foldl_append];rfl
  rw[ev];cases e with
  |lock k v=>
   by_cases hk:k=s
   ·subst hk;exact .inl ⟨b,[],v,rfl,fun u h=>by simp at h,if_pos rfl⟩
   ·have e2:sL s (dh b L s) (fF.lock k v)=dh b L s:=if_neg hk;rw[e2];rcases ih with⟨l1,l2,u,rfl,h1,h2⟩|⟨h1,h2⟩
    ·refine .inl ⟨l1,l2++[fF.lock k v],u,by simp,fun w hw=>?_,h2⟩;rcases List.mem_append.1 hw with hw|hw
     ·exact h1 w hw
     ·simp at hw;exact hk hw.1.symm
    ·refine .inr ⟨fun w hw=>?_,h2⟩;rcases List.mem_append.1 hw with hw|hw
     ·exact h1 w hw
     ·simp at hw;exact hk hw.1.symm
  |dat x v=>
   have e2:sL s (dh b L s) (fF.dat x v)=dh b L s:=rfl;rw[e2];rcases ih with⟨l1,l2,u,rfl,h1,h2⟩|⟨h1,h2⟩
   ·refine .inl ⟨l1,l2++[fF.dat x v],u,by simp,fun w hw=>?_,h2⟩;rcases List.mem_append.1 hw with hw|hw
    ·exact h1 w hw
    ·simp at hw
   ·refine .inr ⟨fun w hw=>?_,h2⟩;rcases List.mem_append.1 hw with hw|hw
    ·exact h1 w hw
    ·simp at hw
theorem bS.WG (h:bS N words m) (hN:N<=4) (hn:n<N) {s:Nat} (hs:s<16):0<=m.aN s/\m.aN s<=2*m.clock+8:=by
 have hc:=h.bX;by_cases e:m.aN s%2=0
 ·have:=h.M6 s hs e;omega
 ·obtain⟨k,hk,hq⟩:=h.odd s hs e;omega
theorem bS.Nf (h:bS N words m) (hN:N<=4) (hn:n<N) {s:Nat} (hs:s<16):0<=dh (m.aM n).buf m.aN s/\dh (m.aM n).buf m.aN s<=2*m.clock+8:=by
 rcases ru (m.aM n).buf m.aN s with⟨l1,l2,v,e, -,h2⟩|⟨-,h2⟩
 ·rw[h2];have:=(h.buf n hn).val s v (by rw[e];simp);omega
 ·rw[h2];exact h.WG hN hn hs
end
section
variable {N n:Nat} {words C C':Int} {m m':AS} {a a' b:aO} {rs:List (List Tx)} {l:List Tx}
structure Mv (a a':aO):Prop where
 row:a'.row=a.row
 op:a'.op=a.op
 bX:a'.bX=a.bX
 reads:a'.reads=a.reads
 log:a'.log=a.log
 sum:a'.sum=a.sum
 held:a'.held=a.held
 old:a'.old=a.old
 new:a'.new=a.new
 l1:a'.l1=a.l1
 buf:a'.buf=a.buf
 out:a'.out=a.out
 fin:a'.fin=a.fin
theorem qb (a:aO) (s:Nat):Mv a (a.cu s):=by unfold aO.cu;split<;>exact⟨rfl,rfl,rfl,rfl,rfl,rfl,rfl,rfl,rfl,rfl,rfl,rfl,rfl⟩
theorem kg (a:aO) (s:Nat):Mv a (a.cz s):=by unfold aO.cz;split<;>exact⟨rfl,rfl,rfl,rfl,rfl,rfl,rfl,rfl,rfl,rfl,rfl,rfl,rfl⟩
theorem pq (a:aO) (s:Nat):Mv a (a.dV s):=by unfold aO.dV;split<;>exact⟨rfl,rfl,rfl,rfl,rfl,rfl,rfl,rfl,rfl,rfl,rfl,rfl,rfl⟩
theorem dD (a:aO) (s:Nat):Mv a (a.bJ s):=by unfold aO.bJ;split<;>exact⟨rfl,rfl,rfl,rfl,rfl,rfl,rfl,rfl,rfl,rfl,rfl,rfl,rfl⟩
theorem vk (a:aO) (rs:List (List Tx)):Mv a (a.fu rs):=by unfold aO.fu;split<;>exact⟨rfl,rfl,rfl,rfl,rfl,rfl,rfl,rfl,rfl,rfl,rfl,rfl,rfl⟩
theorem o8 (a:aO) (i:Nat):Mv a (a.iB i):=by
 unfold aO.iB;split
 ·exact⟨rfl,rfl,rfl,rfl,rfl,rfl,rfl,rfl,rfl,rfl,rfl,rfl,rfl⟩
 ·exact pq a 0
theorem cB (a:aO) (l:List Tx):Mv a (a.bL l):=by
 unfold aO.bL;split
 ·split
  ·split<;>exact⟨rfl,rfl,rfl,rfl,rfl,rfl,rfl,rfl,rfl,rfl,rfl,rfl,rfl⟩
  ·split<;>exact⟨rfl,rfl,rfl,rfl,rfl,rfl,rfl,rfl,rfl,rfl,rfl,rfl,rfl⟩
 ·split
  ·exact⟨rfl,rfl,rfl,rfl,rfl,rfl,rfl,rfl,rfl,rfl,rfl,rfl,rfl⟩
  ·exact qb a 0
theorem tQ.Qm (h:tQ words C a) (e:Mv a a'):tQ words C a':=
 ⟨by rw[e.log];exact h.len,by rw[e.log];exact h.keys,by rw[e.log];exact h.tJ,by rw[e.reads];exact h.rd,by rw[e.bX];exact h.bX,by rw[e.fin];exact h.fin,by rw[e.held,e.old];exact h.old⟩
theorem nO.aaZ (h:nO words C a) (h1:∀k,a'.held k=a.held k) (h2:a'.buf=a.buf):nO words C a':=h.same (funext h1) h2
theorem tV {α:Type} {l l1 l2:List α} {e d:α} (h:l++[e]=l1++d::l2):(l2=[]/\d=e/\l1=l)\/∃l3,l2=l3++[e]/\l=l1++d::l3:=by
 rcases List.eq_nil_or_concat l2 with rfl|⟨l3,x,rfl⟩
 ·have:=List.append_inj' h (by simp);obtain⟨rfl,h3⟩:=this;cases h3;exact .inl ⟨rfl,rfl,rfl⟩
 ·rw[List.concat_eq_append] at h;have h2:l1++d::(l3++[x])=(l1++d::l3)++[x]:=by simp
  rw[h2] at h;have:=List.append_inj' h (by simp);obtain⟨rfl,h3⟩:=this;cases h3;exact .inr ⟨l3,List.concat_eq_append,rfl⟩
theorem nO.M3 (h:nO words C a) {s:Nat} {v:Int} (hs:a.held s=true) (hv:s<16/\v%2=0/\0<=v/\v/2<=C) (hb:b.buf=a.buf++[fF.lock s v]) (hh:b.held=upd a.held s false):nO words C b:=by
 refine⟨fun k u hk=>?_,fun l1 l2 k u w hw=>?_,fun k u hk=>?_,fun l1 l2 x u hx=>?_⟩
 ·rw[hh,bN] at hk;by_cases e:k=s
  ·rw[if_pos e] at hk;cases hk
  ·rw[if_neg e] at hk;rw[hb];intro q;rcases List.mem_append.1 q with q|q
   ·exact h.excl k u hk q
   ·simp at q;exact e q.1
 ·rw[hb] at hw;rcases tV hw with⟨rfl,q,rfl⟩|⟨l3,rfl,q⟩
  ·cases q;exact⟨h.excl _ _ hs,by simp⟩
  ·obtain⟨q1,q2⟩:=h.once l1 l3 k u w q;refine⟨q1,fun q3=>?_⟩;rcases List.mem_append.1 q3 with q3|q3
   ·exact q2 q3
   ·simp at q3;rw[q3.1] at q;exact h.excl s u hs (by rw[q];simp)
 ·rw[hb] at hk;rcases List.mem_append.1 hk with hk|hk
  ·exact h.val k u hk
  ·simp at hk;rw[hk.1,hk.2];exact hv
 ·rw[hb] at hx;rcases tV hx with⟨rfl,q,rfl⟩|⟨l3,rfl,q⟩
  ·cases q
  ·obtain⟨q1,q2⟩:=h.dat l1 l3 x u q;refine⟨q1,?_⟩;rcases q2 with q2|⟨w,q2⟩
   ·by_cases e:aV x=s
    ·exact .inr ⟨v,by rw[e];simp⟩
    ·exact .inl (by rw[hh,bN,if_neg e];exact q2)
   ·exact .inr ⟨w,List.mem_append_left _ q2⟩
theorem nO.XF (h:nO words C a) {x v:Int} (hx:1<=x/\x<=words) (hs:a.held (aV x)=true) (hb:b.buf=a.buf++[fF.dat x v]) (hh:b.held=a.held):nO words C b:=by
 refine⟨fun k u hk q=>?_,fun l1 l2 k u w hw=>?_,fun k u hk=>?_,fun l1 l2 y u hy=>?_⟩
 ·rw[hh] at hk;rw[hb] at q;rcases List.mem_append.1 q with q|q
  ·exact h.excl k u hk q
  ·simp at q
 ·rw[hb] at hw;rcases tV hw with⟨rfl,q,rfl⟩|⟨l3,rfl,q⟩
  ·cases q
  ·obtain⟨q1,q2⟩:=h.once l1 l3 k u w q;refine⟨q1,fun q3=>?_⟩;rcases List.mem_append.1 q3 with q3|q3
   ·exact q2 q3
   ·simp at q3
 ·rw[hb] at hk;rcases List.mem_append.1 hk with hk|hk
  ·exact h.val k u hk
  ·simp at hk
 ·rw[hb] at hy;rcases tV hy with⟨rfl,q,rfl⟩|⟨l3,rfl,q⟩
  ·cases q;exact⟨hx,.inl (by rw[hh];exact hs)⟩
  ·obtain⟨q1,q2⟩:=h.dat l1 l3 y u q;refine⟨q1,?_⟩;rcases q2 with q2|⟨w,q2⟩
   ·exact .inl (by rw[hh];exact q2)
   ·exact .inr ⟨w,List.mem_append_left _ q2⟩
theorem nO.tail (h:nO words C a) {e:fF} {r:List fF} (he:a.buf=e::r) (hb:b.buf=r) (hh:b.held=a.held):nO words C b:=by
 refine⟨fun k u hk q=>?_,fun l1 l2 k u w hw=>?_,fun k u hk=>?_,fun l1 l2 y u hy=>?_⟩
 ·rw[hh] at hk;rw[hb] at q;exact h.excl k u hk (by rw[he];exact List.mem_cons_of_mem _ q)
 ·obtain⟨q1,q2⟩:=h.once (e::l1) l2 k u w (by rw[he,<-hb,hw];rfl);exact⟨fun q=>q1 (List.mem_cons_of_mem _ q),q2⟩
 ·exact h.val k u (by rw[he,<-hb];exact List.mem_cons_of_mem _ hk)
 ·obtain⟨q1,q2⟩:=h.dat (e::l1) l2 y u (by rw[he,<-hb,hy];rfl);exact⟨q1,by rw[hh];exact q2⟩
theorem bS.turn (h:bS N words m) (hn:n<N) (hck:m.clock<=m'.clock) (hl:m'.aN=m.aN) (hth:m'.aM=upd m.aM n a') (hA:vP words m'.clock a') (hB:nO words m'.clock a') (hh:∀s,a'.has s↔(m.aM n).has s):bS N words m':=by
 refine⟨Int.le_trans h.bX hck,fun k hk=>?_,fun k hk=>?_,fun k hk s hs=>?_,fun s hs=>by rw[hl];exact h.odd s hs,fun s hs he=>?_⟩
 ·rw[hth,bN];split
  ·exact hA
  ·exact(h.th k hk).mono hck
 ·rw[hth,bN];split
  ·exact hB
  ·exact(h.buf k hk).mono hck
 ·rw[hth,hl,bN,h.own k hk s hs];split
  ·rename_i e;rw[e,hh s]
  ·exact Iff.rfl
 ·rw[hl] at he⊢;have:=h.M6 s hs he;exact⟨this.1,Int.le_trans this.2 hck⟩
theorem bS.mv (h:bS N words m) (hn:n<N) (hck:m.clock<=m'.clock) (hl:m'.aN=m.aN) (hth:m'.aM=upd m.aM n a') (hA:vP words m'.clock a') (h1:∀k,a'.held k=(m.aM n).held k) (h2:a'.buf=(m.aM n).buf):bS N words m':=
 h.turn hn hck hl hth hA (((h.buf n hn).mono hck).aaZ h1 h2) (fun s=>by unfold aO.has;rw[h1 s,h2])
theorem Y8 (wf:∀l∈rs,∀o∈l,1<=o.at_/\o.at_<=words) (r:Nat):∀o∈rs.getD r [],1<=o.at_/\o.at_<=words:=by
 intro o ho;rw[List.getD_eq_getElem?_getD] at ho;cases hr:rs[r]? with
 |none=>rw[hr] at ho;simp at ho
 |some l=>rw[hr] at ho;exact wf l (bA hr) o ho
theorem bS.view (h:bS N words m) (hn:n<N) {s:Nat} (hs:s<16) (he:dh (m.aM n).buf m.aN s%2=0):0<=dh (m.aM n).buf m.aN s/\dh (m.aM n).buf m.aN s/2<=m.clock:=by
 rcases ru (m.aM n).buf m.aN s with⟨l1,l2,v,e, -,h2⟩|⟨-,h2⟩
 ·rw[h2] at he⊢;have:=(h.buf n hn).val s v (by rw[e];simp);exact⟨this.2.2.1,this.2.2.2⟩
 ·rw[h2] at he⊢;exact h.M6 s hs he
theorem bS.act (h:bS N words m) (hn:n<N) (hfin:(m.aM n).fin=0) (hbare:(m.aM n).bare) (wf:∀l∈rs,∀o∈l,1<=o.at_/\o.at_<=words):bS N words (m.act rs n):=by
 have HA:=h.th n hn;have HB:=h.buf n hn;have wl:=Y8 wf (m.aM n).row;have TE:=fun s=>h.view hn (s:=s)
 obtain⟨a,ha⟩:∃a,m.aM n=a:=⟨_,rfl⟩;rw[ha] at HA HB wl hfin hbare TE;have B:=HA.base (HA.fin.1 hfin);have aY:=HA.held;have hsome:=HA.some;have hx:=HA.x;have hl1:=HA.l1;have hnew:=HA.new;have hemp:=HA.bare;have hold:=HA.old;cases hp:a.pt with
 |look=>
  rw[qF ha hp];rw[hp] at aY;simp only at aY;have key:vP words m.clock ({a with bX:=m.clock,reads:=0,log:=[],sum:=0,held:=fun _=>false,op:=0}.bL (rs.getD a.row [])):=tQ.bL (C:=m.clock) (a:={a with bX:=m.clock,reads:=0,log:=[],sum:=0,held:=fun _=>false,op:=0}) ⟨by simp,by simp,by simp,Nat.zero_lt_succ 65535,⟨h.bX,Int.le_refl _⟩,hfin,fun k hk=>by simp at hk⟩ (fun _=>rfl) wl;refine h.mv hn (Int.le_refl _) rfl rfl key (fun k=>?_) ?_
  ·rw[(cB _ _).held,ha,aY k]
  ·rw[(cB _ _).buf,ha]
 |rd=>
  rw[xV ha hp];rw[hp] at aY;simp only at aY;have key:vP words m.clock ({a with op:=a.op+1,sum:=fq (a.sum+a.v)}.bL (rs.getD a.row [])):=tQ.bL (a:={a with op:=a.op+1,sum:=fq (a.sum+a.v)}) ⟨B.len,B.keys,B.tJ,B.rd,B.bX,B.fin,B.old⟩ aY wl;refine h.mv hn (Int.le_refl _) rfl rfl key (fun k=>?_) ?_
  ·rw[(cB _ _).held,ha]
  ·rw[(cB _ _).buf,ha]
 |Bz=>
  rw[uo ha hp];rw[hp] at aY hx;simp only at aY hx;split
  ·exact h.mv (a':={a with pt:=.u6}) hn (Int.le_refl _) rfl rfl (B.free aY (.inr (.inr (.inl rfl)))) (fun k=>by rw[ha]) (by rw[ha])
  ·rename_i hc;simp only[not_or,Classical.not_not,Int.not_lt] at hc;have hv:=TE _ (bO a.x) hc.1;exact h.mv (a':={a with pt:=.dat,l1:=dh a.buf m.aN (aV a.x)}) hn (Int.le_refl _) rfl rfl ⟨B.len,B.keys,B.tJ,B.rd,B.bX,aY,trivial,hx,⟨hc.1,hv.1,hc.2⟩,trivial,fun q=>(by cases q),fun k hk=>(by rw[aY k] at hk;cases hk),⟨fun _ q=>(by cases q),fun _=>hfin⟩⟩ (fun k=>by rw[ha]) (by rw[ha])
 |dat=>
  rw[uy ha hp];rw[hp] at aY hx hl1;simp only at aY hx hl1;exact h.mv (a':={a with pt:=.ym,v:=sU a.buf m.data a.x}) hn (Int.le_refl _) rfl rfl ⟨B.len,B.keys,B.tJ,B.rd,B.bX,aY,trivial,hx,hl1,trivial,fun q=>(by cases q),fun k hk=>(by rw[aY k] at hk;cases hk),⟨fun _ q=>(by cases q),fun _=>hfin⟩⟩ (fun k=>by rw[ha]) (by rw[ha])
 |ym=>
  rw[uz ha hp];rw[hp] at aY hx;simp only at aY hx;split
  ·exact h.mv (a':={a with pt:=.rd,reads:=a.reads|||1<<<aV a.x}) hn (Int.le_refl _) rfl rfl ⟨B.len,B.keys,B.tJ,Rb B.rd (bO _),B.bX,aY,trivial,hx,trivial,trivial,fun q=>(by cases q),fun k hk=>(by rw[aY k] at hk;cases hk),⟨fun _ q=>(by cases q),fun _=>hfin⟩⟩ (fun k=>by rw[ha]) (by rw[ha])
  ·exact h.mv (a':={a with pt:=.u6}) hn (Int.le_refl _) rfl rfl (B.free aY (.inr (.inr (.inl rfl)))) (fun k=>by rw[ha]) (by rw[ha])
 |wr=>
  rw[xR ha hp];rw[hp] at aY hsome hx;simp only at aY hsome hx;obtain⟨p1,p2,p3⟩:=Nh (v:=a.v) B.len B.keys B.tJ hsome hx;have key:vP words m.clock ({a with op:=a.op+1,log:=kz a.log a.x a.v}.bL (rs.getD a.row [])):=tQ.bL (a:={a with op:=a.op+1,log:=kz a.log a.x a.v}) ⟨p1,p2,p3,B.rd,B.bX,B.fin,B.old⟩ aY wl;refine h.mv hn (Int.le_refl _) rfl rfl key (fun k=>?_) ?_
  ·rw[(cB _ _).held,ha]
  ·rw[(cB _ _).buf,ha]
 |full=>
  rw[yU ha hp];rw[hp] at aY;simp only at aY;exact h.mv (a':={a with pt:=.over,fin:=6}) hn (Int.le_refl _) rfl rfl ⟨B.len,B.keys,B.tJ,B.rd,B.bX,aY,trivial,trivial,trivial,trivial,fun q=>(by cases q),fun k hk=>(by rw[aY k] at hk;cases hk),⟨fun q=>absurd q (show ¬(6:Int)=0 by decide),fun q=>absurd rfl q⟩⟩ (fun k=>by rw[ha]) (by rw[ha])
 |ro=>
  rw[xL ha hp];rw[hp] at aY;simp only at aY;exact h.mv (a':={a with pt:=.out}) hn (Int.le_refl _) rfl rfl (B.free aY (.inr (.inr (.inr (.inl rfl))))) (fun k=>by rw[ha]) (by rw[ha])
 |Eg=>
  rw[uB ha hp];rw[hp] at aY hsome;simp only at aY hsome;split
  ·refine h.mv (a':=a.bJ 0) hn (Int.le_refl _) rfl rfl (B.bJ (fun k hk=>by omega)) (fun k=>?_) ?_
   ·rw[(dD _ _).held,ha]
   ·rw[(dD _ _).buf,ha]
  ·rename_i hc;simp only[Classical.not_not] at hc;have hv:=TE _ aY.1 hc;exact h.mv (a':={a with pt:=.zw,l1:=dh a.buf m.aN a.s}) hn (Int.le_refl _) rfl rfl ⟨B.len,B.keys,B.tJ,B.rd,B.bX,aY,hsome,trivial,⟨hc,hv.1,hv.2⟩,trivial,fun q=>(by cases q),fun k hk=>⟨(hold k hk).1,(hold k hk).2.1,(hold k hk).2.2.1,fun q=>(by cases q)⟩,⟨fun _ q=>(by cases q),fun _=>hfin⟩⟩ (fun k=>by rw[ha]) (by rw[ha])
 |zw=>
  rw[tX ha hp];rw[hp] at aY hsome hl1;simp only at aY hsome hl1;obtain⟨lQ,hns,hhk⟩:=aY;split
  ·rename_i hc;have hbuf:a.buf=[]:=hbare (.inl hp);have hno:a.held a.s=false:=by rw[hhk];simp
   have mv:=qb {a with held:=upd a.held a.s true,old:=upd a.old a.s a.l1} (a.s+1);have hB1:tQ words m.clock {a with held:=upd a.held a.s true,old:=upd a.old a.s a.l1}:=by
    refine⟨B.len,B.keys,B.tJ,B.rd,B.bX,B.fin,fun k hk=>?_⟩;simp only[bN] at hk⊢;by_cases e:k=a.s
    ·rw[if_pos e,e];exact⟨lQ,hl1⟩
    ·rw[if_neg e] at hk⊢;exact B.old k hk
   have hA1:=hB1.cu (s:=a.s+1) hsome (fun k=>by
    simp only[bN];by_cases e:k=a.s
    ·rw[if_pos e,e,hns,decide_eq_true (Nat.lt_succ_self _)];rfl
    ·rw[if_neg e,hhk k];by_cases e2:k<a.s
     ·rw[decide_eq_true e2,decide_eq_true (show k<a.s+1 by omega)]
     ·rw[decide_eq_false e2,decide_eq_false (show ¬k<a.s+1 by omega)])
   generalize hq:({a with held:=upd a.held a.s true,old:=upd a.old a.s a.l1}.cu (a.s+1):aO)=a' at mv hA1;have hb':a'.buf=[]:=by rw[mv.buf];exact hbuf
   have hhas:∀s,a'.has s↔(s=a.s\/a.has s):=fun s=>by
    unfold aO.has;rw[mv.held,hb',hbuf];simp only[bN];by_cases e:s=a.s<;>simp[e]
   have hoth:∀k,k<N->k≠n->¬(m.aM k).has a.s:=fun k hk hkn q=>by
    have h1:=(h.own k hk a.s lQ).2 q;rw[hc] at h1;omega
   refine⟨h.bX,fun k hk=>?_,fun k hk=>?_,fun k hk s hs=>?_,fun s hs he=>?_,fun s hs he=>?_⟩
   ·simp only[AS.set,bN];split
    ·exact hA1
    ·exact h.th k hk
   ·simp only[AS.set,bN];split
    ·exact⟨fun _ _ _ q=>by rw[hb'] at q;simp at q,fun l1 l2 s v u q=>by rw[hb'] at q;simp at q,fun s v q=>by rw[hb'] at q;simp at q,fun l1 l2 x v q=>by rw[hb'] at q;simp at q⟩
    ·exact h.buf k hk
   ·simp only[AS.set,bN];by_cases e:k=n
    ·subst e;rw[if_pos rfl,hhas s];by_cases e2:s=a.s
     ·rw[if_pos e2];simp[e2]
     ·rw[if_neg e2,h.own k hk s hs,ha];simp[e2]
    ·rw[if_neg e];by_cases e2:s=a.s
     ·rw[if_pos e2,e2];constructor
      ·intro q;omega
      ·intro q;exact absurd q (hoth k hk e)
     ·rw[if_neg e2];exact h.own k hk s hs
   ·simp only[AS.set,bN] at he⊢;by_cases e2:s=a.s
    ·rw[if_pos e2];exact⟨n,hn,rfl⟩
    ·rw[if_neg e2] at he⊢;exact h.odd s hs he
   ·simp only[AS.set,bN] at he⊢;by_cases e2:s=a.s
    ·rw[if_pos e2] at he;omega
    ·rw[if_neg e2] at he⊢;exact h.M6 s hs he
  ·refine h.mv (a':=a.bJ 0) hn (Int.le_refl _) rfl rfl (B.bJ (fun k hk=>by omega)) (fun k=>?_) ?_
   ·rw[(dD _ _).held,ha]
   ·rw[(dD _ _).buf,ha]
 |qG=>
  rw[qJ ha hp];rw[hp] at aY hsome;simp only at aY hsome;have hbuf:a.buf=[]:=hbare (.inr hp);have hk1:=B.bX;have key:vP words (m.clock+1) ({a with new:=m.clock+1}.cz 0):=by
   refine tQ.cz (C:=m.clock+1) (a:={a with new:=m.clock+1}) ⟨B.len,B.keys,B.tJ,B.rd,⟨hk1.1,by show a.bX<=m.clock+1;omega⟩,B.fin,fun k hk=>?_⟩ hsome aY hbuf ⟨by show a.bX<m.clock+1;omega,Int.le_refl _⟩ (fun k hk=>?_)
   ·obtain⟨o1,o2,o3,o4⟩:=B.old k hk;exact⟨o1,o2,o3,by show a.old k/2<=m.clock+1;omega⟩
   ·obtain⟨o1,o2,o3,o4⟩:=B.old k hk;show a.old k/2<m.clock+1;omega
  refine h.mv hn (by show m.clock<=m.clock+1;omega) rfl rfl key (fun k=>?_) ?_
  ·rw[(kg _ _).held,ha]
  ·rw[(kg _ _).buf,ha]
 |Bc=>
  rw[uN ha hp];rw[hp] at aY hsome hnew;simp only at aY hsome hnew;have hbuf:=hemp (by rw[hp];rfl);have hgo:vP words m.clock (a.cz (a.s+1)):=B.cz hsome.1 aY hbuf hnew (fun k hk=>(hold k hk).2.2.2 (by rw[hp];rfl));have hun:vP words m.clock (a.bJ 0):=B.bJ (fun k hk=>by omega);have e1:bS N words (m.set n (a.cz (a.s+1))):=h.mv hn (Int.le_refl _) rfl rfl hgo (fun k=>by rw[(kg _ _).held,ha]) (by rw[(kg _ _).buf,ha]);have e2:bS N words (m.set n (a.bJ 0)):=h.mv hn (Int.le_refl _) rfl rfl hun (fun k=>by rw[(dD _ _).held,ha]) (by rw[(dD _ _).buf,ha])
  repeat' split
  all_goals first|exact e1|exact e2
 |BM=>
  rw[uP ha hp];rw[hp] at aY hnew;simp only at aY hnew;have key:vP words m.clock (a.iB 0):=B.iB aY hnew;refine h.mv hn (Int.le_refl _) rfl rfl key (fun k=>?_) ?_
  ·rw[(o8 _ _).held,ha]
  ·rw[(o8 _ _).buf,ha]
 |wb=>
  rw[hp] at aY hsome hnew;simp only at aY hsome hnew;have hc:=dZ hsome;generalize a.log[a.i]=c at hc;rw[xJ ha hp hc];have hm:=bA hc;have key:vP words m.clock ({a with buf:=a.buf++[fF.dat c.1 c.2]}.iB (a.i+1)):=tQ.iB (a:={a with buf:=a.buf++[fF.dat c.1 c.2]}) ⟨B.len,B.keys,B.tJ,B.rd,B.bX,B.fin,B.old⟩ aY hnew;refine h.turn hn (Int.le_refl _) rfl rfl key (HB.XF (B.keys c hm) (by rw[aY];exact qh.2 ⟨c,hm,rfl⟩) (o8 _ _).buf (o8 _ _).held) (fun s=>?_);unfold aO.has;rw[(o8 _ _).held,(o8 _ _).buf,ha];simp
 |rel=>
  rw[uI ha hp];rw[hp] at aY hnew;simp only at aY hnew;obtain⟨q1,q2,q3,q4⟩:=aY;have hk1:=B.bX;have key:vP words m.clock ({a with buf:=a.buf++[fF.lock a.s (2*a.new)],held:=upd a.held a.s false}.dV (a.s+1)):=by
   refine tQ.dV (a:={a with buf:=a.buf++[fF.lock a.s (2*a.new)],held:=upd a.held a.s false}) ⟨B.len,B.keys,B.tJ,B.rd,B.bX,B.fin,fun k hk=>?_⟩ (fun k hk=>?_) hnew
   ·simp only[bN] at hk;by_cases e:k=a.s
    ·rw[if_pos e] at hk;cases hk
    ·rw[if_neg e] at hk;exact B.old k hk
   ·simp only[bN];by_cases e:k=a.s
    ·rw[if_pos e]
    ·rw[if_neg e];exact q3 k (by omega)
  refine h.turn hn (Int.le_refl _) rfl rfl key (HB.M3 q2 ⟨q1,by omega,by omega,by show _<=m.clock;omega⟩ (pq _ _).buf (pq _ _).held) (fun s=>?_)
  ·unfold aO.has;rw[(pq _ _).held,(pq _ _).buf,ha];simp only[bN];by_cases e:s=a.s
   ·subst e;simp[q2]
   ·simp[e]
 |DK=>
  rw[tY ha hp];rw[hp] at aY;simp only at aY;obtain⟨q1,q2,q3,q4⟩:=aY;obtain⟨o1,o2,o3,o4⟩:=B.old a.s q2;have key:vP words m.clock ({a with buf:=a.buf++[fF.lock a.s (a.old a.s)],held:=upd a.held a.s false}.bJ (a.s+1)):=by
   refine tQ.bJ (a:={a with buf:=a.buf++[fF.lock a.s (a.old a.s)],held:=upd a.held a.s false}) ⟨B.len,B.keys,B.tJ,B.rd,B.bX,B.fin,fun k hk=>?_⟩ (fun k hk=>?_)
   ·simp only[bN] at hk;by_cases e:k=a.s
    ·rw[if_pos e] at hk;cases hk
    ·rw[if_neg e] at hk;exact B.old k hk
   ·simp only[bN];by_cases e:k=a.s
    ·rw[if_pos e]
    ·rw[if_neg e];exact q3 k (by omega)
  refine h.turn hn (Int.le_refl _) rfl rfl key (HB.M3 q2 ⟨q1,o2,o3,o4⟩ (dD _ _).buf (dD _ _).held) (fun s=>?_)
  ·unfold aO.has;rw[(dD _ _).held,(dD _ _).buf,ha];simp only[bN];by_cases e:s=a.s
   ·subst e;simp[q2]
   ·simp[e]
 |u6=>
  rw[uw ha hp];rw[hp] at aY;simp only at aY;exact h.mv (a':={a with pt:=.look}) hn (Int.le_refl _) rfl rfl (B.free aY (.inl rfl)) (fun k=>by rw[ha]) (by rw[ha])
 |out=>
  rw[uh ha hp];rw[hp] at aY;simp only at aY;refine h.mv (a':=({a with row:=a.row+1,out:=a.out++[a.sum]}.fu rs)) hn (Int.le_refl _) rfl rfl ?_ (fun k=>?_) ?_
  ·have B1:tQ words m.clock {a with row:=a.row+1,out:=a.out++[a.sum]}:=⟨B.len,B.keys,B.tJ,B.rd,B.bX,B.fin,B.old⟩;unfold aO.fu;split
   ·exact B1.free aY (.inl rfl)
   ·exact B1.free aY (.inr (.inr (.inr (.inr rfl))))
  ·rw[(vk _ _).held,ha]
  ·rw[(vk _ _).buf,ha]
 |halt=>
  rw[qM ha hp];rw[hp] at aY;simp only at aY;exact h.mv (a':={a with pt:=.over,fin:=1}) hn (Int.le_refl _) rfl rfl ⟨B.len,B.keys,B.tJ,B.rd,B.bX,aY,trivial,trivial,trivial,trivial,fun q=>(by cases q),fun k hk=>(by rw[aY k] at hk;cases hk),⟨fun q=>absurd q (show ¬(1:Int)=0 by decide),fun q=>absurd rfl q⟩⟩ (fun k=>by rw[ha]) (by rw[ha])
 |over=>
  rw[tu ha hp];exact h
theorem bS.flush (h:bS N words m) (hn:n<N):bS N words (m.flush n):=by
 have HA:=h.th n hn;have HB:=h.buf n hn;unfold AS.flush;cases hb:(m.aM n).buf with
 |nil=>exact h
 |cons e r=>
  have tA:vP words m.clock {m.aM n with buf:=r}:=⟨HA.len,HA.keys,HA.tJ,HA.rd,HA.bX,HA.held,HA.some,HA.x,HA.l1,HA.new,fun q=>(by have:=HA.bare q;rw[hb] at this;cases this),HA.old,HA.fin⟩;have tB:nO words m.clock {m.aM n with buf:=r}:=HB.tail hb rfl rfl;cases e with
  |dat x v=>
   refine h.turn (a':={m.aM n with buf:=r}) hn (Int.le_refl _) rfl rfl tA tB (fun s=>?_);unfold aO.has;rw[hb];simp
  |lock s v=>
   have hval:=HB.val s v (by rw[hb];exact List.mem_cons_self);have hown:=(h.own n hn s hval.1).2 (.inr ⟨v,by rw[hb];exact List.mem_cons_self⟩);have hno:¬({m.aM n with buf:=r}:aO).has s:=by
    rintro(q|⟨u,q⟩)
    ·exact HB.excl s v q (by rw[hb];exact List.mem_cons_self)
    ·exact(HB.once [] r s v u hb).2 q
   refine⟨h.bX,fun k hk=>?_,fun k hk=>?_,fun k hk j hj=>?_,fun j hj he=>?_,fun j hj he=>?_⟩
   ·simp only[AS.set,bN];split
    ·exact tA
    ·exact h.th k hk
   ·simp only[AS.set,bN];split
    ·exact tB
    ·exact h.buf k hk
   ·simp only[AS.set,bN];by_cases e2:j=s
    ·subst e2;rw[if_pos rfl];by_cases e:k=n
     ·subst e;rw[if_pos rfl];exact⟨fun q=>by omega,fun q=>absurd q hno⟩
     ·rw[if_neg e];refine⟨fun q=>by omega,fun q=>?_⟩;have:=(h.own k hk j hj).2 q;omega
    ·rw[if_neg e2,h.own k hk j hj];by_cases e:k=n
     ·subst e;rw[if_pos rfl];unfold aO.has;rw[hb];simp[e2]
     ·rw[if_neg e]
   ·simp only[AS.set,bN] at he⊢;by_cases e2:j=s
    ·rw[if_pos e2] at he;omega
    ·rw[if_neg e2] at he⊢;exact h.odd j hj he
   ·simp only[AS.set,bN] at he⊢;by_cases e2:j=s
    ·rw[if_pos e2];exact⟨hval.2.2.1,hval.2.2.2⟩
    ·rw[if_neg e2] at he⊢;exact h.M6 j hj he
end
section
variable {N n k:Nat} {words C C':Int} {m m':AS} {a a' b:aO} {rs:List (List Tx)} {l:List Tx} {s:Nat} {x v:Int}
def aO.owed (a:aO):List fF:=match a.pt with
 |.wb=>a.buf++(a.log.drop a.i).map (fun c=>fF.dat c.1 c.2)
 |_=>a.buf
def xx (x:Int) (v:Option Int) (e:fF):Option Int:=match e with
 |.dat y u=>if y=x then some u else v
 |.lock _ _=>v
def gZ (x:Int) (l:List fF):Option Int:=l.foldl (xx x) none
theorem nY (x:Int) (l:List fF) (e:fF):gZ x (l++[e])=xx x (gZ x l) e:=by unfold gZ;rw[List.foldl_append];rfl
theorem qC (x:Int) (e:fF) (l:List fF):gZ x (e::l)=match gZ x l with
  |some v=>some v
  |none=>xx x none e:=by
 induction l using yM with
 |h0=>rfl
 |h1 l d ih=>
  rw[<-List.cons_append,nY,nY,ih];cases d with
  |lock k u=>rfl
  |dat y u=>
   by_cases h:y=x
   ·simp[xx,h]
   ·simp only[xx,if_neg h]
theorem x8 {l:List fF}:gZ x l=none↔∀v,fF.dat x v∉l:=by
 induction l using yM with
 |h0=>simp[gZ]
 |h1 l d ih=>
  rw[nY];cases d with
  |lock k u=>
   show gZ x l=none↔_;rw[ih];simp
  |dat y u=>
   show(if y=x then some u else gZ x l)=none↔_;by_cases h:y=x
   ·rw[if_pos h];exact⟨fun q=>(by cases q),fun q=>absurd (by rw[h];simp) (q u)⟩
   ·rw[if_neg h,ih];refine⟨fun q v hv=>?_,fun q v hv=>q v (List.mem_append_left _ hv)⟩;rcases List.mem_append.1 hv with hv|hv
    ·exact q v hv
    ·simp at hv;exact h hv.1.symm
theorem Qp (b:List fF) (D:Int->Int) (x:Int):sU b D x=(gZ x b).getD (D x):=by
 induction b using yM with
 |h0=>rfl
 |h1 b e ih=>
  have ev:sU (b++[e]) D x=sD x (sU b D x) e:=by unfold sU;rw[List.foldl_append];rfl
  rw[ev,nY,ih];cases e with
  |lock k u=>rfl
  |dat y u=>
   by_cases h:y=x
   ·simp[sD,xx,h]
   ·simp only[sD,xx,if_neg h]
theorem Jq {log:List (Int×Int)} (hn:(log.map Prod.fst).Nodup) {c:Int×Int} (hc:c∈log):gZ c.1 (log.map (fun c=>fF.dat c.1 c.2))=some c.2:=by
 induction log with
 |nil=>cases hc
 |cons d l ih=>
  simp only[List.map_cons,List.nodup_cons,List.mem_map,not_exists,not_and] at hn;rw[List.map_cons,qC];rcases List.mem_cons.1 hc with rfl|hc
  ·have:gZ c.1 (l.map (fun c=>fF.dat c.1 c.2))=none:=x8.2 (fun v hv=>by
    obtain⟨e,he,q⟩:=List.mem_map.1 hv;injection q with q1 q2
    exact hn.1 e he q1)
   rw[this];simp[xx]
  ·rw[ih hn.2 hc]
theorem Ea {log:List (Int×Int)} (h:∀c∈log,c.1≠x):gZ x (log.map (fun c=>fF.dat c.1 c.2))=none:=x8.2 (fun v hv=>by
 obtain⟨e,he,q⟩:=List.mem_map.1 hv;injection q with q1 q2
 exact h e he q1)
def aO.says (a:aO) (s:Nat):Int:=if a.pt.dn=true then a.new else a.old s/2
def fv (m:AS) (s:Nat):Int:=if m.aN s%2=0 then m.aN s/2 else
 if(m.aM (m.aN s/2).toNat).held s=true then(m.aM (m.aN s/2).toNat).says s else dh (m.aM (m.aN s/2).toNat).buf m.aN s/2
theorem qZ (h:m.aN s%2=0):fv m s=m.aN s/2:=if_pos h
theorem Hz (h:m.aN s=2*n+1):m.aN s%2≠0/\(m.aN s/2).toNat=n:=by constructor<;>omega
theorem bS.jJ (h:bS N words m) (hn:n<N) (hs:s<16) (hh:(m.aM n).held s=true):fv m s=(m.aM n).says s:=by
 obtain⟨q1,q2⟩:=Hz ((h.own n hn s hs).2 (.inl hh));unfold fv;rw[if_neg q1,q2,if_pos hh]
theorem nO.aaD (h:nO words C a) (hv:fF.lock s v∈a.buf) (L:Nat->Int):dh a.buf L s=v:=by
 rcases ru a.buf L s with⟨l1,l2,u,e,h1,h2⟩|⟨h1,h2⟩
 ·rw[h2];obtain⟨q1,q2⟩:=h.once l1 l2 s u v e;rw[e] at hv;rcases List.mem_append.1 hv with hv|hv
  ·exact absurd hv q1
  ·rcases List.mem_cons.1 hv with hv|hv
   ·cases hv;rfl
   ·exact absurd hv q2
 ·exact absurd hv (h1 v)
theorem bS.oh (h:bS N words m) (hn:n<N) (hs:s<16) (hv:fF.lock s v∈(m.aM n).buf):fv m s=v/2:=by
 obtain⟨q1,q2⟩:=Hz ((h.own n hn s hs).2 (.inr ⟨v,hv⟩));unfold fv;have hno:(m.aM n).held s=false:=by
  cases hh:(m.aM n).held s with
  |false=>rfl
  |true=>exact absurd hv ((h.buf n hn).excl s v hh)
 rw[if_neg q1,q2,hno,if_neg (by simp),(h.buf n hn).aaD hv]
theorem bS.yR (h:bS N words m) (hs:s<16):(m.aN s%2=0/\fv m s=m.aN s/2/\∀k,k<N->¬(m.aM k).has s)\/∃k,k<N/\(m.aM k).has s/\m.aN s=2*k+1:=by
 by_cases e:m.aN s%2=0
 ·refine .inl ⟨e,qZ e,fun k hk q=>?_⟩;have:=(h.own k hk s hs).2 q;omega
 ·obtain⟨k,hk,q⟩:=h.odd s hs e;exact .inr ⟨k,hk,(h.own k hk s hs).1 q,q⟩
theorem bS.one (h:bS N words m) (hn:n<N) (hk:k<N) (hs:s<16) (h1:(m.aM n).has s) (h2:(m.aM k).has s):n=k:=by
 have q1:=(h.own n hn s hs).2 h1;have q2:=(h.own k hk s hs).2 h2;omega
theorem bS.owes (h:bS N words m) (hn:n<N) (hx:gZ x (m.aM n).owed≠none):(1<=x/\x<=words)/\(m.aM n).has (aV x):=by
 have HB:=h.buf n hn;have HA:=h.th n hn;have hb:(∃v,fF.dat x v∈(m.aM n).buf)->(1<=x/\x<=words)/\(m.aM n).has (aV x):=fun⟨v,hv⟩=>by
  obtain⟨l1,l2,e⟩:=List.append_of_mem hv;obtain⟨q1,q2⟩:=HB.dat l1 l2 x v e;refine⟨q1,?_⟩;rcases q2 with q2|⟨u,q2⟩
  ·exact .inl q2
  ·exact .inr ⟨u,by rw[e];exact List.mem_append_right _ (List.mem_cons_of_mem _ q2)⟩
 have hd:∃v,fF.dat x v∈(m.aM n).owed:=by
  apply Classical.byContradiction;intro q;exact hx (x8.2 (fun v hv=>q ⟨v,hv⟩))
 obtain⟨v,hv⟩:=hd;by_cases hp:(m.aM n).pt= .wb
 ·unfold aO.owed at hv;rw[hp] at hv;rcases List.mem_append.1 hv with hv|hv
  ·exact hb ⟨v,hv⟩
  ·obtain⟨c,hc,q⟩:=List.mem_map.1 hv;injection q with q1 q2
   subst q1;have hcm:=List.mem_of_mem_drop hc;refine⟨HA.keys c hcm,.inl ?_⟩;have:=HA.held;rw[hp] at this;rw[this];exact qh.2 ⟨c,hcm,rfl⟩
 ·have:(m.aM n).owed=(m.aM n).buf:=by
   unfold aO.owed;cases hq:(m.aM n).pt<;>first|rfl|exact absurd hq hp
  rw[this] at hv;exact hb ⟨v,hv⟩
theorem eP (hp:a.pt≠ .wb):a.owed=a.buf:=by
 unfold aO.owed;cases hq:a.pt<;>first|rfl|exact absurd hq hp
theorem bS.seen (h:bS N words m) (hn:n<N) (hs:s<16) (hh:(m.aM n).held s=false) (he:dh (m.aM n).buf m.aN s%2=0):fv m s=dh (m.aM n).buf m.aN s/2/\∀k,k<N->k≠n->¬(m.aM k).has s:=by
 rcases ru (m.aM n).buf m.aN s with⟨l1,l2,v,e,h1,h2⟩|⟨h1,h2⟩
 ·have hv:fF.lock s v∈(m.aM n).buf:=by rw[e];simp
  rw[h2];exact⟨h.oh hn hs hv,fun k hk hkn q=>hkn (h.one hk hn hs q (.inr ⟨v,hv⟩))⟩
 ·rw[h2] at he⊢;refine⟨qZ he,fun k hk _ q=>?_⟩;have:=(h.own k hk s hs).2 q;omega
theorem wK (h:bS N words m) (h':bS N words m') (hn:n<N) (hoth:∀k,k≠n->m'.aM k=m.aM k) (hl:m'.aN=m.aN) (hb:∀s v,fF.lock s v∈(m.aM n).buf->fF.lock s v∈(m'.aM n).buf)
  (hh:∀s,s<16->(m.aM n).held s=true->((m'.aM n).held s=true/\(m'.aM n).says s=(m.aM n).says s)\/∃v,fF.lock s v∈(m'.aM n).buf/\v/2=(m.aM n).says s):∀s,s<16->fv m' s=fv m s:=by
 intro s hs;rcases h.yR hs with⟨q1,q2,q3⟩|⟨k,hk,q1,q2⟩
 ·rw[q2,qZ (by rw[hl];exact q1),hl]
 ·by_cases e:k=n
  ·subst e;rcases q1 with q1|⟨v,q1⟩
   ·rw[h.jJ hk hs q1];rcases hh s hs q1 with⟨r1,r2⟩|⟨v,r1,r2⟩
    ·rw[h'.jJ hk hs r1,r2]
    ·rw[h'.oh hk hs r1,r2]
   ·rw[h.oh hk hs q1,h'.oh hk hs (hb s v q1)]
  ·have hk2:=hoth k e;rcases q1 with q1|⟨v,q1⟩
   ·rw[h.jJ hk hs q1,h'.jJ hk hs (by rw[hk2];exact q1),hk2]
   ·rw[h.oh hk hs q1,h'.oh hk hs (by rw[hk2];exact q1)]
theorem Q0 (h:bS N words m) (hn:n<N):∀s,s<16->fv (m.flush n) s=fv m s:=by
 have h':=h.flush hn;intro s hs;unfold AS.flush at h'⊢;cases hb:(m.aM n).buf with
 |nil=>rfl
 |cons e r=>
  rw[hb] at h';have hoth:∀(D:Int->Int) (C:Int) (L:Nat->Int) (E:List Ev) (k:Nat),(upd m.aM n {m.aM n with buf:=r}) k=if k=n then {m.aM n with buf:=r} else m.aM k:=fun _ _ _ _ k=>rfl
  cases e with
  |dat x v=>
   refine wK h h' hn (fun k hk=>?_) rfl (fun j u hu=>?_) (fun j hj hh=>.inl ⟨?_,?_⟩) s hs
   ·show upd m.aM n _ k=_;rw[bN,if_neg hk]
   ·show fF.lock j u∈(upd m.aM n _ n).buf;rw[bN,if_pos rfl];rw[hb] at hu;simpa using hu
   ·show(upd m.aM n _ n).held j=true;rw[bN,if_pos rfl];exact hh
   ·show(upd m.aM n _ n).says j=_;rw[bN,if_pos rfl];rfl
  |lock i v=>
   have hval:=(h.buf n hn).val i v (by rw[hb];exact List.mem_cons_self);by_cases e:s=i
   ·subst e;rw[h.oh hn hs (v:=v) (by rw[hb];exact List.mem_cons_self)];have hl:({m with aN:=upd m.aN s v}.set n {m.aM n with buf:=r}).aN s=v:=by simp[AS.set,bN]
    rw[qZ (by rw[hl];exact hval.2.1),hl]
   ·have hl:({m with aN:=upd m.aN i v}.set n {m.aM n with buf:=r}).aN s=m.aN s:=by simp[AS.set,bN,e]
    have hth:∀k,({m with aN:=upd m.aN i v}.set n {m.aM n with buf:=r}).aM k=if k=n then {m.aM n with buf:=r} else m.aM k:=fun k=>rfl
    rcases h.yR hs with⟨q1,q2,q3⟩|⟨k,hk,q1,q2⟩
    ·rw[q2,qZ (by rw[hl];exact q1),hl]
    ·rcases q1 with q1|⟨u,q1⟩
     ·rw[h.jJ hk hs q1];rw[h'.jJ (n:=k) hk hs (by rw[hth];split<;>(try (rename_i e2;subst e2))<;>exact q1),hth];split
      ·rename_i e2;subst e2;rfl
      ·rfl
     ·rw[h.oh hk hs q1];refine h'.oh (n:=k) hk hs ?_;rw[hth];split
      ·rename_i e2;subst e2;rw[hb] at q1;simpa [e] using q1
      ·exact q1
end
end Go.Proofs.YtopdcjimpdalpaaGreat

import Derived.Test.YtopdcjimpdalpaaGreatR07
import Derived.Test.YtopdcjimpdalpaaGreatR08
import Derived.Deep.RegionLawGrows
import Derived.BigRegion
namespace Go.Proofs.YtopdcjimpdalpaaGreat
open Go.RowKit
set_option linter.all false
set_option maxHeartbeats 1000000
section
variable {N n k M:Nat} {words C C':Int} {m m':AS} {a a':aY} {b:bJ} {rs:List (List Tx)} {l:List Tx} {x v:Int} {s s':HS} {cw:List bJ}
def Keys (a:aY) (x:Int):Prop:=∃c∈a.log,c.1=x
structure rW (a:aY) (b:bJ):Prop where
 dx:b.clock=a.dx
 log:iQ b.done a.log
 rd:∀x,I8 b.done x->a.reads.testBit (bA x)=true
theorem rW.writes (h:rW a b) (x:Int):mh b x↔Keys a x:=by
 constructor
 ·rintro⟨e,he,h1,rfl⟩;exact h.log.keys e he h1
 ·rintro⟨c,hc,rfl⟩;obtain⟨e,he,h1,h2⟩:=h.log.evs c hc;exact⟨e,he,h1,h2⟩
theorem rW.sK (h:rW a b) (hn:¬Keys a x) (f:Int->Int):Go.Proofs.YtopdcjimpdalpaaGreat.sK b.done f x=f x:=by
 rw[h.log.sK,uB (fun c hc q=>hn ⟨c,hc,q⟩)]
theorem rW.QS (h:rW a b) (e:Mv a a'):rW a' b:=⟨by rw[e.dx];exact h.dx,by rw[e.log];exact h.log,by rw[e.reads];exact h.rd⟩
def Vd (N:Nat) (m:AS) (cw:List bJ) (n:Nat) (a:aY) (x:Int):Prop:=
 (∀c∈cw,mh c x->c.place<a.new->c.place<=a.dx)/\∀k,k<N->k≠n->(m.aT k).pt.pend=true->(m.aT k).new<a.new->¬Keys (m.aT k) x
def kY (N:Nat) (m:AS) (cw:List bJ) (n:Nat) (a:aY) (b:bJ):Prop:=match a.pt with
 |.JY=>¬Keys a a.x
 |.dat=>¬Keys a a.x/\a.l1/2<=fv m (bA a.x)/\(a.l1/2=fv m (bA a.x)->∀k,k<N->k≠n->iD a.x (m.aT k).owed=none)
 |.Dq=>¬Keys a a.x/\a.l1/2<=fv m (bA a.x)/\(a.l1/2=fv m (bA a.x)->a.v=CA cw a.x)
 |.rd=>sK b.done (CP cw a.dx) a.x=a.v/\(Keys a a.x\/a.reads.testBit (bA a.x)=true/\∀k,k<N->(m.aT k).pt.pend=true->(m.aT k).new<=a.dx->¬Keys (m.aT k) a.x)
 |.Gb=>∀x,I8 b.done x->bA x<a.s->Vd N m cw n a x
 |.Hu=>∀x,I8 b.done x->Vd N m cw n a x
 |_=>True
def Behind (p:Int) (b:bJ):Prop:=p<=b.clock\/b.kind=1/\b.writer=true/\p<b.place
structure eB (N:Nat) (words:Int) (M:Nat) (m:AS) (s:HS) (cw:List bJ):Prop where
 eF:d_ m.evs s cw m.clock M
 live:∀n,n<N->(m.aT n).fin=0->s.ended n=false
 idle:∀n,n<N->(m.aT n).pt.nY=false->s.opn n=none
 busy:∀n,n<N->(m.aT n).pt.nY=true->∃j b,s.opn n=some j/\s.aU[j]? =some b/\rW (m.aT n) b/\kY N m cw n (m.aT n) b
 TV:∀x,1<=x->x<=words->(∀n,n<N->iD x (m.aT n).owed=none)->m.data x=CA cw x
 RQ:∀n,n<N->∀x v,iD x (m.aT n).owed=some v->v=CA cw x
 R7:∀c∈cw,∀x,mh c x->c.place<=fv m (bA x)
 ZO:∀n,n<N->(m.aT n).pt.pend=true->(∀c∈cw,c.place≠(m.aT n).new)/\∀k,k<N->k≠n->(m.aT k).pt.pend=true->(m.aT k).new≠(m.aT n).new
 snap:∀n,n<N->(m.aT n).pt.pend=true->∀b∈s.aU,Behind (m.aT n).new b->∀y,I8 b.done y->¬Keys (m.aT n) y
theorem wN.Ld (h:wN words C a) (hp:a.pt.pend=true):a.dx<a.new/\a.new<=C:=by
 have h1:=h.new;cases hq:a.pt<;>rw[hq] at hp h1<;>first|(simp[Pt.pend] at hp;done)|exact h1
theorem wN.FH (h:wN words C a) (hp:a.pt.pend=true) {x:Int} (hx:Keys a x):a.held (bA x)=true:=by
 have h1:=h.held;obtain⟨c,hc,rfl⟩:=hx;cases hq:a.pt<;>rw[hq] at hp h1<;>first|(simp[Pt.pend] at hp;done)|(rw[h1];exact t_.2 ⟨c,hc,rfl⟩)
structure Env (n:Nat) (m m':AS):Prop where
 fv:∀s,s<16->Go.Proofs.YtopdcjimpdalpaaGreat.fv m' s=Go.Proofs.YtopdcjimpdalpaaGreat.fv m s
 oJ:∀k,k≠n->m'.aT k=m.aT k
 dx:m.clock<=m'.clock
 owed:∀x,iD x (m'.aT n).owed=iD x (m.aT n).owed
 pend:(m'.aT n).pt.pend=true->((m.aT n).pt.pend=true/\(m'.aT n).new=(m.aT n).new/\(m'.aT n).log=(m.aT n).log)\/(m'.aT n).new=m.clock+1
theorem Env.none (E:Env n m m') (k:Nat) (x:Int):iD x (m'.aT k).owed=iD x (m.aT k).owed:=by
 by_cases e:k=n
 ·subst e;exact E.owed x
 ·rw[E.oJ k e]
theorem Env.Ju (E:Env n m m') {k:Nat} (h:(m'.aT k).pt.pend=true):((m.aT k).pt.pend=true/\(m'.aT k).new=(m.aT k).new/\(m'.aT k).log=(m.aT k).log)\/k=n/\(m'.aT k).new=m.clock+1:=by
 by_cases e:k=n
 ·subst e;rcases E.pend h with q|q
  ·exact .inl q
  ·exact .inr ⟨rfl,q⟩
 ·rw[E.oJ k e] at h⊢;exact .inl ⟨h,rfl,rfl⟩
theorem Ad (h:a'.log=a.log):Keys a' x↔Keys a x:=by unfold Keys;rw[h]
theorem kY.env (E:Env n m m') (hA:wN words m.clock a) (h:kY N m cw k a b):kY N m' cw k a b:=by
 unfold kY at h⊢;have hnew:=hA.new;have hvd:∀x,a.new<=m.clock->Vd N m cw k a x->Vd N m' cw k a x:=fun x hle hv=>⟨hv.1,fun i hi hik hp hlt=>by
  rcases E.Ju hp with⟨q1,q2,q3⟩|⟨-,q⟩
  ·rw[q2] at hlt;rw[Ad q3];exact hv.2 i hi hik q1 hlt
  ·omega⟩
 cases hp:a.pt<;>rw[hp] at h hnew<;>simp only at h hnew⊢
 ·refine⟨h.1,h.2.imp id (fun⟨q1,q2⟩=>⟨q1,fun i hi hp hle=>?_⟩)⟩;rcases E.Ju hp with⟨r1,r2,r3⟩|⟨-,q⟩
  ·rw[r2] at hle;rw[Ad r3];exact q2 i hi r1 hle
  ·have:=hA.dx.2;omega
 ·exact h
 ·rw[E.fv _ (cu _)];exact⟨h.1,h.2.1,fun q i hi hik=>by rw[E.none];exact h.2.2 q i hi hik⟩
 ·rw[E.fv _ (cu _)];exact h
 ·exact fun x hx hs=>hvd x hnew.2 (h x hx hs)
 ·exact fun x hx=>hvd x hnew.2 (h x hx)
theorem eB.turn (I:eB N words M m s cw) (L:cZ N words m) (E:Env n m m') (hn:n<N) (hd:m'.data=m.data) (eF:d_ m'.evs s' cw m'.clock M)
  (hend:∀k,k≠n->s'.ended k=s.ended k) (hop:∀k,k≠n->s'.opn k=s.opn k) (hat:∀k j,k≠n->s.opn k=some j->s'.aU[j]? =s.aU[j]?)
  (live:(m'.aT n).fin=0->s'.ended n=false) (idle:(m'.aT n).pt.nY=false->s'.opn n=none)
  (busy:(m'.aT n).pt.nY=true->∃j b,s'.opn n=some j/\s'.aU[j]? =some b/\rW (m'.aT n) b/\kY N m' cw n (m'.aT n) b)
  (aaI:∀b∈s'.aU,b∈s.aU\/∀k,k<N->(m'.aT k).pt.pend=true->Behind (m'.aT k).new b->∀y,I8 b.done y->¬Keys (m'.aT k) y):eB N words M m' s' cw:=by
 have hle:=I.eF.Zt;refine⟨eF,fun k hk hf=>?_,fun k hk hp=>?_,fun k hk hp=>?_,fun x h1 h2 h3=>?_,fun k hk x v hv=>?_,fun c hc x hx=>?_,fun k hk hp=>?_,fun k hk hp b hb hz y hy=>?_⟩
 ·by_cases e:k=n
  ·subst e;exact live hf
  ·rw[hend k e];rw[E.oJ k e] at hf;exact I.live k hk hf
 ·by_cases e:k=n
  ·subst e;exact idle hp
  ·rw[hop k e];rw[E.oJ k e] at hp;exact I.idle k hk hp
 ·by_cases e:k=n
  ·subst e;exact busy hp
  ·rw[E.oJ k e] at hp⊢;obtain⟨j,b,q1,q2,q3,q4⟩:=I.busy k hk hp;exact⟨j,b,by rw[hop k e];exact q1,by rw[hat k j e q1];exact q2,q3,q4.env E (L.th k hk)⟩
 ·rw[hd];exact I.TV x h1 h2 (fun k hk=>by rw[<-E.none];exact h3 k hk)
 ·rw[E.none] at hv;exact I.RQ k hk x v hv
 ·rw[E.fv _ (cu _)];exact I.R7 c hc x hx
 ·rcases E.Ju hp with⟨q1,q2,q3⟩|⟨rfl,q⟩
  ·refine⟨fun c hc=>by rw[q2];exact(I.ZO k hk q1).1 c hc,fun i hi hik hpi=>?_⟩;rcases E.Ju hpi with⟨r1,r2,r3⟩|⟨-,r⟩
   ·rw[q2,r2];exact(I.ZO k hk q1).2 i hi hik r1
   ·rw[q2,r];have:=((L.th k hk).Ld q1).2;omega
  ·refine⟨fun c hc=>by have:=hle c hc;omega,fun i hi hik hpi=>?_⟩;rw[E.oJ i hik] at hpi⊢;have:=((L.th i hi).Ld hpi).2;omega
 ·rcases aaI b hb with hb1|hb1
  ·rcases E.Ju hp with⟨q1,q2,q3⟩|⟨rfl,q⟩
   ·rw[q2] at hz;rw[Ad q3];exact I.snap k hk q1 b hb1 hz y hy
   ·exfalso;have ok:=I.eF.nY b hb1;rcases hz with hz|⟨h1,h2,h3⟩
    ·have:=ok.clock1;omega
    ·have:=(ok.writer h1 h2).2.1;omega
  ·exact hb1 k hk hp hz y hy
theorem kY.di (h:rW a b):kY N m cw n (a.di l) b:=by
 unfold aY.di;cases l[a.op]? with
 |none=>
  simp only;by_cases he:a.log=[]
  ·rw[if_pos he];trivial
  ·rw[if_neg he];unfold aY.eu;split<;>trivial
 |some o=>
  simp only;by_cases hk:o.kind=2
  ·rw[if_pos hk];cases hp:a.log[place a.log o.at_]? with
   |some c=>
    have hc:=pq hp;refine⟨?_,.inl ⟨c,hc.1,hc.2⟩⟩;show sK b.done _ o.at_=c.2;rw[h.log.sK];unfold look;rw[hp]
   |none=>
    show ¬Keys _ _;rintro⟨c,hc,q⟩;exact uW hp c hc q
  ·rw[if_neg hk];split<;>trivial
theorem qL (a:aY) (l:List Tx):(a.di l).pt.pend=false/\(a.di l).pt.nY=true/\(a.di l).pt≠ .wb:=by
 unfold aY.di aY.eu
 repeat' split
 all_goals exact⟨rfl,rfl,fun q=>by cases q⟩
theorem p8 (a:aY) (i:Nat):(a.bZ i).pt.pend=false/\(a.bZ i).pt.nY=true/\(a.bZ i).pt≠ .wb/\(a.bZ i).pt.dn=false/\kY N m cw n (a.bZ i) b:=by
 unfold aY.bZ;split<;>exact⟨rfl,rfl,fun q=>(by cases q),rfl,trivial⟩
theorem Ba (a:aY) (i:Nat):(a.eu i).pt.pend=false/\(a.eu i).pt.nY=true/\(a.eu i).pt≠ .wb/\(a.eu i).pt.dn=false/\kY N m cw n (a.eu i) b:=by
 unfold aY.eu;split<;>exact⟨rfl,rfl,fun q=>(by cases q),rfl,trivial⟩
theorem zF (a:aY) (i:Nat):(a.dV i).pt.pend=true/\(a.dV i).pt.nY=true/\(a.dV i).pt≠ .wb/\(a.dV i).pt.dn=false:=by
 unfold aY.dV;split<;>exact⟨rfl,rfl,fun q=>(by cases q),rfl⟩
theorem Jz (a:aY) (i:Nat):(a.iw i).pt.pend=false/\(a.iw i).pt.nY=false/\(a.iw i).pt≠ .wb:=by
 unfold aY.iw;split<;>exact⟨rfl,rfl,fun q=>by cases q⟩
theorem JZ (a:aY) (rs:List (List Tx)):(a.jT rs).pt.pend=false/\(a.jT rs).pt.nY=false/\(a.jT rs).pt≠ .wb:=by
 unfold aY.jT;split<;>exact⟨rfl,rfl,fun q=>by cases q⟩
theorem xh (h:cZ N words m) (h':cZ N words m') (hn:n<N) (hoth:∀k,k≠n->m'.aT k=m.aT k) (hl:m'.aR=m.aR) (hb:(m'.aT n).buf=(m.aT n).buf) (hh:∀k,(m.aT n).held k=false):∀s,s<16->fv m' s=fv m s:=
 wZ h h' hn hoth hl (fun s v q=>by rw[hb];exact q) (fun s _ q=>by rw[hh s] at q;cases q)
theorem Cz (h:cZ N words m) (h':cZ N words m') (hn:n<N) (hoth:∀k,k≠n->m'.aT k=m.aT k) (hl:m'.aR=m.aR) (hb:(m'.aT n).buf=(m.aT n).buf) (hh:(m'.aT n).held=(m.aT n).held) (ho:(m'.aT n).old=(m.aT n).old) (h1:(m.aT n).pt.dn=false) (h2:(m'.aT n).pt.dn=false):∀s,s<16->fv m' s=fv m s:=
 wZ h h' hn hoth hl (fun s v q=>by rw[hb];exact q) (fun s _ q=>.inl ⟨by rw[hh];exact q,by simp[aY.says,h1,h2,ho]⟩)
end
section
variable {N n k M:Nat} {words C C':Int} {m m':AS} {a a':aY} {b:bJ} {rs:List (List Tx)} {l:List Tx} {x v:Int} {s s':HS} {cw:List bJ}
theorem y8 (m:AS) (n:Nat) (a:aY):(m.set n a).aT n=a:=by simp[AS.set,bS]
theorem OL (m:AS) (n:Nat) (a:aY) (k:Nat) (h:k≠n):(m.set n a).aT k=m.aT k:=by simp[AS.set,bS,h]
theorem eB.quiet (I:eB N words M m s cw) (L:cZ N words m) (hn:n<N) {a a':aY} (ha:m.aT n=a) {C':Int} (hC:m.clock<=C') (eF:d_ m.evs s cw C' M)
  (Sy:∀i,i<16->fv {m with clock:=C',aT:=upd m.aT n a'} i=fv m i) (how:∀x,iD x a'.owed=iD x a.owed) (ZC:a'.pt.pend=true->(a.pt.pend=true/\a'.new=a.new/\a'.log=a.log)\/a'.new=m.clock+1)
  (xX:a'.pt.nY=a.pt.nY) (hf:a'.fin=a.fin)
  (busy:∀j b,s.opn n=some j->s.aU[j]? =some b->rW a b->kY N m cw n a b->(Env n m {m with clock:=C',aT:=upd m.aT n a'})->rW a' b/\kY N {m with clock:=C',aT:=upd m.aT n a'} cw n a' b):
  eB N words M {m with clock:=C',aT:=upd m.aT n a'} s cw:=by
 have hth:∀k,({m with clock:=C',aT:=upd m.aT n a'}:AS).aT k=if k=n then a' else m.aT k:=fun k=>rfl
 have hnn:({m with clock:=C',aT:=upd m.aT n a'}:AS).aT n=a':=by rw[hth,if_pos rfl]
 have E:Env n m {m with clock:=C',aT:=upd m.aT n a'}:=⟨Sy,fun k hk=>by rw[hth,if_neg hk],hC,fun x=>by rw[hnn,ha];exact how x,fun q=>by rw[hnn] at q⊢;rw[ha];exact ZC q⟩;refine I.turn L E hn rfl eF (fun _ _=>rfl) (fun _ _=>rfl) (fun _ _ _ _=>rfl) (fun q=>?_) (fun q=>?_) (fun q=>?_) (fun b hb=>.inl hb)
 ·rw[hnn,hf] at q;exact I.live n hn (by rw[ha];exact q)
 ·rw[hnn,xX] at q;exact I.idle n hn (by rw[ha];exact q)
 ·rw[hnn,xX] at q;obtain⟨j,b,q1,q2,q3,q4⟩:=I.busy n hn (by rw[ha];exact q);rw[ha] at q3 q4;obtain⟨r1,r2⟩:=busy j b q1 q2 q3 q4 E;exact⟨j,b,q1,q2,by rw[hnn];exact r1,by rw[hnn];exact r2⟩
theorem afl (m:AS) (n:Nat) (a:aY):m.set n a={m with clock:=m.clock,aT:=upd m.aT n a}:=rfl
theorem eB.still (I:eB N words M m s cw) (L:cZ N words m) (hn:n<N) {a a':aY} (ha:m.aT n=a) (Sy:∀i,i<16->fv (m.set n a') i=fv m i) (how:∀x,iD x a'.owed=iD x a.owed) (ZC:a'.pt.pend=true->(a.pt.pend=true/\a'.new=a.new/\a'.log=a.log)\/a'.new=m.clock+1)
  (xX:a'.pt.nY=a.pt.nY) (hf:a'.fin=a.fin) (busy:∀b,rW a b->kY N m cw n a b->Env n m (m.set n a')->rW a' b/\kY N (m.set n a') cw n a' b):eB N words M (m.set n a') s cw:=by
 rw[afl] at Sy busy⊢;exact I.quiet L hn ha (Int.le_refl _) I.eF Sy how ZC xX hf (fun j b _ _ h1 h2 h3=>busy b h1 h2 h3)
theorem eB.finds (I:eB N words M m s cw) (hn:n<N) (hw:(m.aT n).pt≠ .wb) (hx:1<=x/\x<=words) (ho:∀k,k<N->k≠n->iD x (m.aT k).owed=none):uq (m.aT n).buf m.data x=CA cw x:=by
 rw[Rm];have e:=fG hw;cases hl:iD x (m.aT n).buf with
 |some v=>exact I.RQ n hn x v (by rw[e];exact hl)
 |none=>
  refine I.TV x hx.1 hx.2 (fun k hk=>?_);by_cases q:k=n
  ·subst q;rw[e];exact hl
  ·exact ho k hk q
section
theorem ac2 (I:eB N words M m s cw) (L:cZ N words m) (hn:n<N) (wf:∀l∈rs,∀o∈l,1<=o.at_/\o.at_<=words) (ha:m.aT n=a) (hfin:a.fin=0) (hp:a.pt= .JY) (L':cZ N words (m.act rs n)):eB N words M (m.act rs n) s cw:=by
 have HA:=L.th n hn;rw[ha] at HA;have hh:=HA.held;rw[hp] at hh;simp only at hh;rw[CG ha hp] at L'⊢;have hs:=cu a.x;have e0:a.owed=a.buf:=fG (by rw[hp];intro q;cases q);split at L'
 ·rename_i hc;rw[if_pos hc];exact I.still L hn ha (xh L L' hn (fun k hk=>OL _ _ _ _ hk) rfl (by rw[y8,ha]) (by rw[ha];exact hh)) (fun x=>by rw[e0];rfl) (fun q=>by cases q) (by rw[hp];rfl) rfl (fun b h1 h2 E=>⟨⟨h1.dx,h1.log,h1.rd⟩,trivial⟩)
 ·rename_i hc;rw[if_neg hc];simp only[not_or,Classical.not_not,Int.not_lt] at hc;obtain⟨f1,f2⟩:=L.seen hn hs (by rw[ha];exact hh _) (by rw[ha];exact hc.1);rw[ha] at f1;refine I.still L hn ha (xh L L' hn (fun k hk=>OL _ _ _ _ hk) rfl (by rw[y8,ha]) (by rw[ha];exact hh)) (fun x=>by rw[e0];rfl) (fun q=>by cases q) (by rw[hp];rfl) rfl (fun b h1 h2 E=>⟨⟨h1.dx,h1.log,h1.rd⟩,?_⟩);unfold kY at h2;rw[hp] at h2;refine⟨h2,?_,fun _ k hk hkn=>?_⟩
  ·rw[E.fv _ hs];show dF a.buf m.aR (bA a.x)/2<=fv m (bA a.x);rw[f1];exact Int.le_refl _
  ·rw[E.none];apply Classical.byContradiction;intro q;exact f2 k hk hkn (L.owes hk q).2
theorem ad9 (I:eB N words M m s cw) (L:cZ N words m) (hn:n<N) (wf:∀l∈rs,∀o∈l,1<=o.at_/\o.at_<=words) (ha:m.aT n=a) (hfin:a.fin=0) (hp:a.pt= .dat) (L':cZ N words (m.act rs n)):eB N words M (m.act rs n) s cw:=by
 have HA:=L.th n hn;rw[ha] at HA;have hh:=HA.held;have hx:=HA.x;rw[hp] at hh hx;simp only at hh hx;rw[CQ ha hp] at L'⊢;have hs:=cu a.x;have e0:a.owed=a.buf:=fG (by rw[hp];intro q;cases q);refine I.still L hn ha (xh L L' hn (fun k hk=>OL _ _ _ _ hk) rfl (by rw[y8,ha]) (by rw[ha];exact hh)) (fun x=>by rw[e0];rfl) (fun q=>by cases q) (by rw[hp];rfl) rfl (fun b h1 h2 E=>⟨⟨h1.dx,h1.log,h1.rd⟩,?_⟩);unfold kY at h2;rw[hp] at h2;refine⟨h2.1,?_,fun q=>?_⟩
 ·rw[E.fv _ hs];exact h2.2.1
 ·rw[E.fv _ hs] at q;have:=I.finds hn (by rw[ha,hp];intro q;cases q) hx (h2.2.2 q);rw[ha] at this;exact this
theorem aen (I:eB N words M m s cw) (L:cZ N words m) (hn:n<N) (wf:∀l∈rs,∀o∈l,1<=o.at_/\o.at_<=words) (ha:m.aT n=a) (hfin:a.fin=0) (hp:a.pt= .Dq) (L':cZ N words (m.act rs n)):eB N words M (m.act rs n) s cw:=by
 have HA:=L.th n hn;rw[ha] at HA;have hh:=HA.held;have hl1:=HA.l1;rw[hp] at hh hl1;simp only at hh hl1;rw[CX ha hp] at L'⊢;have hs:=cu a.x;have e0:a.owed=a.buf:=fG (by rw[hp];intro q;cases q);split at L'
 ·rename_i hc;rw[if_pos hc];obtain⟨f1,f2⟩:=L.seen hn hs (by rw[ha];exact hh _) (by rw[ha,hc];exact hl1.1);rw[ha,hc] at f1;refine I.still L hn ha (xh L L' hn (fun k hk=>OL _ _ _ _ hk) rfl (by rw[y8,ha]) (by rw[ha];exact hh)) (fun x=>by rw[e0];rfl) (fun q=>by cases q) (by rw[hp];rfl) rfl (fun b h1 h2 E=>⟨⟨h1.dx,h1.log,fun y hy=>?_⟩,?_⟩)
  ·show(a.reads|||1<<<bA a.x).testBit (bA y)=true;rw[wH,h1.rd y hy];rfl
  ·unfold kY at h2;rw[hp] at h2;refine⟨?_,.inr ⟨?_,fun k hk hpk hle q=>?_⟩⟩
   ·show sK b.done (CP cw a.dx) a.x=a.v;rw[h1.sK h2.1,h2.2.2 f1.symm];refine ZI (fun c hc hw=>?_);have:=I.R7 c hc a.x hw;omega
   ·show(a.reads|||1<<<bA a.x).testBit (bA a.x)=true;rw[wH];simp
   ·by_cases e:k=n
    ·subst e;rw[y8] at hpk;cases hpk
    ·rw[OL _ _ _ _ e] at hpk q;exact f2 k hk e (.inl ((L.th k hk).FH hpk q))
 ·rename_i hc;rw[if_neg hc];exact I.still L hn ha (xh L L' hn (fun k hk=>OL _ _ _ _ hk) rfl (by rw[y8,ha]) (by rw[ha];exact hh)) (fun x=>by rw[e0];rfl) (fun q=>by cases q) (by rw[hp];rfl) rfl (fun b h1 h2 E=>⟨⟨h1.dx,h1.log,h1.rd⟩,trivial⟩)
theorem Mc (I:eB N words M m s cw) (L:cZ N words m) (hn:n<N) (wf:∀l∈rs,∀o∈l,1<=o.at_/\o.at_<=words) (ha:m.aT n=a) (hfin:a.fin=0) (hd:a.pt.dn=false) (xX:a.pt.nY=true) (i:Nat) (L':cZ N words (m.set n (a.bZ i))):eB N words M (m.set n (a.bZ i)) s cw:=by
 have mv:=iR a i;obtain⟨t1,t2,t3,t4,t5⟩:=p8 (N:=N) (m:=m) (cw:=cw) (n:=n) (b:=⟨0,0,0,0,0,0,false,[]⟩) a i;have e0:a.owed=a.buf:=fG (by intro q;rw[q] at xX;cases xX);refine I.still L hn ha (Cz L L' hn (fun k hk=>OL _ _ _ _ hk) rfl (by rw[y8,ha,mv.buf]) (by rw[y8,ha,mv.held]) (by rw[y8,ha,mv.old]) (by rw[ha];exact hd) (by rw[y8];exact t4)) (fun x=>by rw[e0,fG t3,mv.buf]) (fun q=>by rw[t1] at q;cases q) (by rw[t2,xX]) mv.fin (fun b h1 h2 E=>⟨h1.QS mv,(p8 a i).2.2.2.2⟩)
theorem acT (I:eB N words M m s cw) (L:cZ N words m) (hn:n<N) (wf:∀l∈rs,∀o∈l,1<=o.at_/\o.at_<=words) (ha:m.aT n=a) (hfin:a.fin=0) (hp:a.pt= .Lx) (L':cZ N words (m.act rs n)):eB N words M (m.act rs n) s cw:=by
 rw[Cy ha hp] at L'⊢;split at L'
 ·rename_i hc;rw[if_pos hc];exact Mc I L hn wf ha hfin (by rw[hp];rfl) (by rw[hp];rfl) 0 L'
 ·rename_i hc;rw[if_neg hc];have e0:a.owed=a.buf:=fG (by rw[hp];intro q;cases q);exact I.still L hn ha (Cz L L' hn (fun k hk=>OL _ _ _ _ hk) rfl (by rw[y8,ha]) (by rw[y8,ha]) (by rw[y8,ha]) (by rw[ha,hp];rfl) (by rw[y8];rfl)) (fun x=>by rw[e0];rfl) (fun q=>by cases q) (by rw[hp];rfl) rfl (fun b h1 h2 E=>⟨⟨h1.dx,h1.log,h1.rd⟩,trivial⟩)
theorem adp (I:eB N words M m s cw) (L:cZ N words m) (hn:n<N) (wf:∀l∈rs,∀o∈l,1<=o.at_/\o.at_<=words) (ha:m.aT n=a) (hfin:a.fin=0) (hp:a.pt= .Kn) (L':cZ N words (m.act rs n)):eB N words M (m.act rs n) s cw:=by
 rw[CO ha hp] at L'⊢;have mv:=iR {a with buf:=a.buf++[gD.lock a.s (a.old a.s)],held:=upd a.held a.s false} (a.s+1);obtain⟨t1,t2,t3,t4,t5⟩:=p8 (N:=N) (m:=m) (cw:=cw) (n:=n) (b:=⟨0,0,0,0,0,0,false,[]⟩) {a with buf:=a.buf++[gD.lock a.s (a.old a.s)],held:=upd a.held a.s false} (a.s+1);have t6:∀(m:AS) (b:bJ),kY N m cw n ({a with buf:=a.buf++[gD.lock a.s (a.old a.s)],held:=upd a.held a.s false}.bZ (a.s+1)) b:=fun m b=>(p8 _ _).2.2.2.2
 generalize({a with buf:=a.buf++[gD.lock a.s (a.old a.s)],held:=upd a.held a.s false}.bZ (a.s+1):aY)=a' at mv t1 t2 t3 t4 t5 t6 L'⊢;have e0:a.owed=a.buf:=fG (by rw[hp];intro q;cases q);have hb:a'.buf=a.buf++[gD.lock a.s (a.old a.s)]:=mv.buf;refine I.still L hn ha (wZ L L' hn (fun k hk=>OL _ _ _ _ hk) rfl (fun i v q=>?_) (fun i hi q=>?_)) (fun x=>?_) (fun q=>by rw[t1] at q;cases q) (by rw[t2,hp];rfl) mv.fin (fun b h1 h2 E=>⟨⟨by rw[mv.dx];exact h1.dx,by rw[mv.log];exact h1.log,by rw[mv.reads];exact h1.rd⟩,t6 _ b⟩)
 ·rw[y8,hb];rw[ha] at q;exact List.mem_append_left _ q
 ·rw[y8,ha] at*;by_cases e:i=a.s
  ·subst e;exact .inr ⟨a.old a.s,by rw[hb];simp,by unfold aY.says;rw[hp];rfl⟩
  ·refine .inl ⟨?_,?_⟩
   ·rw[mv.held];simp only[bS];rw[if_neg e];exact q
   ·unfold aY.says;rw[t4,hp,mv.old];rfl
 ·rw[e0,fG t3,hb,pE];rfl
theorem aev (I:eB N words M m s cw) (L:cZ N words m) (hn:n<N) (wf:∀l∈rs,∀o∈l,1<=o.at_/\o.at_<=words) (ha:m.aT n=a) (hfin:a.fin=0) (hp:a.pt= .rel) (L':cZ N words (m.act rs n)):eB N words M (m.act rs n) s cw:=by
 rw[Cs ha hp] at L'⊢;have mv:=vT {a with buf:=a.buf++[gD.lock a.s (2*a.new)],held:=upd a.held a.s false} (a.s+1);obtain⟨t1,t2,t3⟩:=Jz {a with buf:=a.buf++[gD.lock a.s (2*a.new)],held:=upd a.held a.s false} (a.s+1);have t4:({a with buf:=a.buf++[gD.lock a.s (2*a.new)],held:=upd a.held a.s false}.iw (a.s+1)).pt.dn=true\/({a with buf:=a.buf++[gD.lock a.s (2*a.new)],held:=upd a.held a.s false}.iw (a.s+1)).pt= .out:=by
  unfold aY.iw;split
  ·exact .inl rfl
  ·exact .inr rfl
 generalize({a with buf:=a.buf++[gD.lock a.s (2*a.new)],held:=upd a.held a.s false}.iw (a.s+1):aY)=a' at mv t1 t2 t3 t4 L'⊢;have e0:a.owed=a.buf:=fG (by rw[hp];intro q;cases q);have hb:a'.buf=a.buf++[gD.lock a.s (2*a.new)]:=mv.buf;have Xe:=L'.th n hn;rw[y8] at Xe;refine I.still L hn ha (wZ L L' hn (fun k hk=>OL _ _ _ _ hk) rfl (fun i v q=>?_) (fun i hi q=>?_)) (fun x=>?_) (fun q=>by rw[t1] at q;cases q) (by rw[t2,hp];rfl) mv.fin (fun b h1 h2 E=>⟨⟨by rw[mv.dx];exact h1.dx,by rw[mv.log];exact h1.log,by rw[mv.reads];exact h1.rd⟩,?_⟩)
 ·rw[y8,hb];rw[ha] at q;exact List.mem_append_left _ q
 ·rw[y8,ha] at*;by_cases e:i=a.s
  ·subst e;refine .inr ⟨2*a.new,by rw[hb];simp,?_⟩;unfold aY.says;rw[hp];show 2*a.new/2=a.new;omega
  ·have hi2:a'.held i=true:=by
    rw[mv.held];simp only[bS];rw[if_neg e];exact q
   refine .inl ⟨hi2,?_⟩;unfold aY.says;rcases t4 with t4|t4
   ·rw[t4,hp,mv.new];rfl
   ·have:=Xe.held;rw[t4] at this;rw[this i] at hi2;cases hi2
 ·rw[e0,fG t3,hb,pE];rfl
 ·unfold kY;rcases t4 with t4|t4
  ·cases hq:a'.pt<;>rw[hq] at t4<;>first|trivial|cases t4
  ·rw[t4];trivial
theorem afy (I:eB N words M m s cw) (L:cZ N words m) (hn:n<N) (wf:∀l∈rs,∀o∈l,1<=o.at_/\o.at_<=words) (ha:m.aT n=a) (hfin:a.fin=0) (hp:a.pt= .wb) (L':cZ N words (m.act rs n)):eB N words M (m.act rs n) s cw:=by
 have HA:=L.th n hn;rw[ha] at HA;have hi:=HA.some;have hh:=HA.held;rw[hp] at hi hh;simp only at hi hh;have hc:=eO hi;have hdrop:a.log.drop a.i=a.log[a.i]::a.log.drop (a.i+1):=List.drop_eq_getElem_cons hi;generalize a.log[a.i]=c at hc hdrop;rw[GQ ha hp hc] at L'⊢;have mv:=BC {a with buf:=a.buf++[gD.dat c.1 c.2]} (a.i+1);have e0:a.owed=a.buf++(a.log.drop a.i).map (fun c=>gD.dat c.1 c.2):=by unfold aY.owed;rw[hp]
 have t0:({a with buf:=a.buf++[gD.dat c.1 c.2]}.kE (a.i+1)).owed=a.owed/\({a with buf:=a.buf++[gD.dat c.1 c.2]}.kE (a.i+1)).pt.pend=false/\({a with buf:=a.buf++[gD.dat c.1 c.2]}.kE (a.i+1)).pt.nY=false:=by
  unfold aY.kE;by_cases h:a.i+1<a.log.length
  ·rw[if_pos h];refine⟨?_,rfl,rfl⟩;rw[e0,hdrop];show(a.buf++[gD.dat c.1 c.2])++(a.log.drop (a.i+1)).map _=_;rw[List.map_cons,List.append_assoc];rfl
  ·rw[if_neg h];obtain⟨t1,t2,t3⟩:=Jz {a with buf:=a.buf++[gD.dat c.1 c.2]} 0;refine⟨?_,t1,t2⟩;rw[fG t3,(vT _ _).buf,e0,hdrop,List.drop_eq_nil_of_le (by omega)];rfl
 have t4:({a with buf:=a.buf++[gD.dat c.1 c.2]}.kE (a.i+1)).pt.dn=true\/({a with buf:=a.buf++[gD.dat c.1 c.2]}.kE (a.i+1)).pt= .out:=by
  unfold aY.kE aY.iw
  repeat' split
  all_goals first|exact .inl rfl|exact .inr rfl
 generalize({a with buf:=a.buf++[gD.dat c.1 c.2]}.kE (a.i+1):aY)=a' at mv t0 t4 L'⊢;obtain⟨t1,t2,t3⟩:=t0;have Xe:=L'.th n hn;rw[y8] at Xe;refine I.still L hn ha (wZ L L' hn (fun k hk=>OL _ _ _ _ hk) rfl (fun i v q=>?_) (fun i hi q=>?_)) (fun x=>by rw[t1]) (fun q=>by rw[t2] at q;cases q) (by rw[t3,hp];rfl) mv.fin (fun b h1 h2 E=>⟨⟨by rw[mv.dx];exact h1.dx,by rw[mv.log];exact h1.log,by rw[mv.reads];exact h1.rd⟩,?_⟩)
 ·rw[y8,mv.buf];rw[ha] at q;exact List.mem_append_left _ q
 ·rw[y8,ha] at*;have hi2:a'.held i=true:=by rw[mv.held];exact q
  refine .inl ⟨hi2,?_⟩;unfold aY.says;rcases t4 with t4|t4
  ·rw[t4,hp,mv.new];rfl
  ·have:=Xe.held;rw[t4] at this;rw[this i] at hi2;cases hi2
 ·unfold kY;rcases t4 with t4|t4
  ·cases hq:a'.pt<;>rw[hq] at t4<;>first|trivial|cases t4
  ·rw[t4];trivial
end
end
section
variable {N n k M:Nat} {words C C':Int} {m m':AS} {a a':aY} {b:bJ} {rs:List (List Tx)} {l:List Tx} {x v:Int} {s s':HS} {cw:List bJ}
theorem eB.event (I:eB N words M m s cw) (L:cZ N words m) (hn:n<N) {a a':aY} (ha:m.aT n=a) {ek ea eb:Int} (L':cZ N words ((m.set n a').tell n ek ea eb)) (bK:∀k,a.held k=false) (hbuf:a'.buf=a.buf) (hw:a.pt≠ .wb) (hw':a'.pt≠ .wb) (ZC:a'.pt.pend=false)
  (eF:d_ (m.evs++[⟨n,ek,ea,eb⟩]) s' cw m.clock M)
  (hend:∀k,k≠n->s'.ended k=s.ended k) (hop:∀k,k≠n->s'.opn k=s.opn k) (hat:∀k j,k≠n->s.opn k=some j->s'.aU[j]? =s.aU[j]?)
  (live:a'.fin=0->s'.ended n=false) (idle:a'.pt.nY=false->s'.opn n=none)
  (busy:a'.pt.nY=true->∃j b,s'.opn n=some j/\s'.aU[j]? =some b/\rW a' b/\∀m',kY N m' cw n a' b)
  (aaI:∀b∈s'.aU,b∈s.aU\/∀k,k<N->k≠n->(m.aT k).pt.pend=true->Behind (m.aT k).new b->∀y,I8 b.done y->¬Keys (m.aT k) y):eB N words M ((m.set n a').tell n ek ea eb) s' cw:=by
 have hth:∀k,((m.set n a').tell n ek ea eb).aT k=if k=n then a' else m.aT k:=fun k=>rfl
 have hnn:((m.set n a').tell n ek ea eb).aT n=a':=by rw[hth,if_pos rfl]
 have E:Env n m ((m.set n a').tell n ek ea eb):=⟨xh L L' hn (fun k hk=>by rw[hth,if_neg hk]) rfl (by rw[hnn,ha];exact hbuf) (by rw[ha];exact bK),fun k hk=>by rw[hth,if_neg hk],Int.le_refl _,fun x=>by rw[hnn,ha,fG hw,fG hw',hbuf],fun q=>by rw[hnn,ZC] at q;cases q⟩;refine I.turn L E hn rfl eF hend hop hat (by rw[hnn];exact live) (by rw[hnn];exact idle) (fun q=>?_) (fun b hb=>?_)
 ·rw[hnn] at q;obtain⟨j,b,q1,q2,q3,q4⟩:=busy q;exact⟨j,b,q1,q2,by rw[hnn];exact q3,by rw[hnn];exact q4 _⟩
 ·rcases aaI b hb with q|q
  ·exact .inl q
  ·refine .inr (fun k hk hp=>?_);have e:k≠n:=fun e=>by subst e;rw[hnn,ZC] at hp;cases hp
   rw[hth,if_neg e] at hp⊢;exact q k hk e hp
section
theorem uY (I:eB N words M m s cw) (L:cZ N words m) (hn:n<N) (hN:N<=4) (wf:∀l∈rs,∀o∈l,1<=o.at_/\o.at_<=words) (hM:(M:Int)=words+1) (ha:m.aT n=a) (hfin:a.fin=0):s.ended n=false:=I.live n hn (by rw[ha];exact hfin)
theorem aai (I:eB N words M m s cw) (L:cZ N words m) (hn:n<N) (hN:N<=4) (wf:∀l∈rs,∀o∈l,1<=o.at_/\o.at_<=words) (hM:(M:Int)=words+1) (ha:m.aT n=a) (hfin:a.fin=0) (hp:a.pt= .look) (L':cZ N words (m.act rs n)):∃s',eB N words M (m.act rs n) s' cw:=by
 have HA:=L.th n hn;rw[ha] at HA;have hh:=HA.held;rw[hp] at hh;simp only at hh;rw[z_ ha hp] at L'⊢;have mv:=jM {a with dx:=m.clock,reads:=0,log:=[],sum:=0,held:=fun _=>false,op:=0} (rs.getD a.row []);obtain⟨t1,t2,t3⟩:=qL {a with dx:=m.clock,reads:=0,log:=[],sum:=0,held:=fun _=>false,op:=0} (rs.getD a.row []);have ho:s.opn n=none:=I.idle n hn (by rw[ha,hp];rfl);have hlive:=uY I L hn hN wf hM ha hfin;have A0:rW {a with dx:=m.clock,reads:=0,log:=[],sum:=0,held:=fun _=>false,op:=0} (begun ⟨n,1,m.clock,0⟩ m.evs.length):=⟨rfl,iQ.nil,fun x hx=>absurd hx Pw⟩;have P0:∀m',kY N m' cw n ({a with dx:=m.clock,reads:=0,log:=[],sum:=0,held:=fun _=>false,op:=0}.di (rs.getD a.row [])) (begun ⟨n,1,m.clock,0⟩ m.evs.length):=fun m'=>kY.di A0
 refine⟨_,I.event L hn ha L' hh mv.buf (by rw[hp];intro q;cases q) t3 t1 (I.eF.begin hlive (by omega) ho) (fun _ _=>rfl) (fun k hk=>jG _ _ hk) (fun k j hk hj=>?_) (fun _=>hlive) (fun q=>by rw[t2] at q;cases q) (fun _=>⟨s.aU.length,_,gm _ _ _,by simp,A0.QS mv,P0⟩) (fun b hb=>?_)⟩
 ·obtain⟨c,hc, -⟩:=I.eF.kR hj;exact List.getElem?_append_left (bu.1 hc).1
 ·rcases List.mem_append.1 hb with hb|hb
  ·exact .inl hb
  ·rw[List.mem_singleton.1 hb];exact .inr (fun k _ _ _ _ y hy=>absurd hy Pw)
theorem afN (I:eB N words M m s cw) (L:cZ N words m) (hn:n<N) (hN:N<=4) (wf:∀l∈rs,∀o∈l,1<=o.at_/\o.at_<=words) (hM:(M:Int)=words+1) (ha:m.aT n=a) (hfin:a.fin=0) (hp:a.pt= .rd) (L':cZ N words (m.act rs n)):∃s',eB N words M (m.act rs n) s' cw:=by
 have HA:=L.th n hn;rw[ha] at HA;have hh:=HA.held;have hx:=HA.x;rw[hp] at hh hx;simp only at hh hx;rw[G7 ha hp] at L'⊢;have mv:=jM {a with op:=a.op+1,sum:=fV (a.sum+a.v)} (rs.getD a.row []);obtain⟨t1,t2,t3⟩:=qL {a with op:=a.op+1,sum:=fV (a.sum+a.v)} (rs.getD a.row []);have hlive:=uY I L hn hN wf hM ha hfin;obtain⟨j,b,q1,q2,q3,q4⟩:=I.busy n hn (by rw[ha,hp];rfl);rw[ha] at q3 q4;unfold kY at q4;rw[hp] at q4;simp only at q4;have qI:∀y,I8 (b.done++[⟨n,2,a.x,a.v⟩]) y->I8 b.done y\/y=a.x/\¬Keys a a.x:=fun y hy=>by
  rcases La hy with h|⟨-,h1,h2⟩
  ·exact .inl h
  ·subst h1;refine .inr ⟨rfl,fun hk=>?_⟩;obtain⟨e,he,h3,h4⟩:=(q3.writes a.x).2 hk;exact h2 e he h3 h4
 have A0:rW {a with op:=a.op+1,sum:=fV (a.sum+a.v)} (more ⟨n,2,a.x,a.v⟩ b):=⟨q3.dx,q3.log.read (by simp),fun y hy=>by
  rcases qI y hy with h|⟨rfl,h⟩
  ·exact q3.rd y h
  ·rcases q4.2 with h1|h1
   ·exact absurd h1 h
   ·exact h1.1⟩
 have eF:=I.eF.more hlive (by omega) q1 q2 (e:=⟨n,2,a.x,a.v⟩) rfl (.inl rfl) (by show 1<=a.x/\a.x<(M:Int);omega) (fun _=>by rw[q3.dx];exact q4.1);have P0:∀m',kY N m' cw n ({a with op:=a.op+1,sum:=fV (a.sum+a.v)}.di (rs.getD a.row [])) (more ⟨n,2,a.x,a.v⟩ b):=fun m'=>kY.di A0
 refine⟨_,I.event L hn ha L' hh mv.buf (by rw[hp];intro q;cases q) t3 t1 eF (fun _ _=>rfl) (fun _ _=>rfl) (fun k i hk hi=>kV (I.eF.other hk q1 hi)) (fun _=>hlive) (fun q=>by rw[t2] at q;cases q) (fun _=>⟨j,_,q1,sJ q2,A0.QS mv,P0⟩) (fun c hc=>?_)⟩;rcases fI q2 hc with rfl|hc
 ·refine .inr (fun k hk hkn hpk hz y hy=>?_);obtain⟨b',hb', -, -,hk0, -⟩:=I.eF.kR q1;rw[q2] at hb';cases hb';have hz':(m.aT k).new<=b.clock:=by
   rcases hz with hz|⟨h1, -⟩
   ·exact hz
   ·have:b.kind=1:=h1;omega
  rcases qI y hy with h|⟨rfl,h⟩
  ·exact I.snap k hk hpk b (bC q2) (.inl hz') y h
  ·rcases q4.2 with h1|h1
   ·exact absurd h1 h
   ·exact h1.2 k hk hpk (by rw[<-q3.dx];exact hz')
 ·exact .inl hc
theorem aga (I:eB N words M m s cw) (L:cZ N words m) (hn:n<N) (hN:N<=4) (wf:∀l∈rs,∀o∈l,1<=o.at_/\o.at_<=words) (hM:(M:Int)=words+1) (ha:m.aT n=a) (hfin:a.fin=0) (hp:a.pt= .wr) (L':cZ N words (m.act rs n)):∃s',eB N words M (m.act rs n) s' cw:=by
 have HA:=L.th n hn;rw[ha] at HA;have hh:=HA.held;have hx:=HA.x;rw[hp] at hh hx;simp only at hh hx;rw[Hy ha hp] at L'⊢;have mv:=jM {a with op:=a.op+1,log:=mK a.log a.x a.v} (rs.getD a.row []);obtain⟨t1,t2,t3⟩:=qL {a with op:=a.op+1,log:=mK a.log a.x a.v} (rs.getD a.row []);have hlive:=uY I L hn hN wf hM ha hfin;obtain⟨j,b,q1,q2,q3,q4⟩:=I.busy n hn (by rw[ha,hp];rfl);rw[ha] at q3;have qI:∀y,I8 (b.done++[⟨n,3,a.x,a.v⟩]) y->I8 b.done y:=fun y hy=>by
  rcases La hy with h|⟨h, -⟩
  ·exact h
  ·simp at h
 have A0:rW {a with op:=a.op+1,log:=mK a.log a.x a.v} (more ⟨n,3,a.x,a.v⟩ b):=⟨q3.dx,by
  show iQ (b.done++[⟨n,3,a.x,a.v⟩]) (mK a.log a.x a.v);unfold mK;split
  ·rename_i h;exact q3.log.set (e:=⟨n,3,a.x,a.v⟩) rfl h
  ·rename_i h;exact q3.log.more (e:=⟨n,3,a.x,a.v⟩) rfl h,fun y hy=>q3.rd y (qI y hy)⟩
 have eF:=I.eF.more hlive (by omega) q1 q2 (e:=⟨n,3,a.x,a.v⟩) rfl (.inr rfl) (by show 1<=a.x/\a.x<(M:Int);omega) (fun q=>by simp at q);have P0:∀m',kY N m' cw n ({a with op:=a.op+1,log:=mK a.log a.x a.v}.di (rs.getD a.row [])) (more ⟨n,3,a.x,a.v⟩ b):=fun m'=>kY.di A0
 refine⟨_,I.event L hn ha L' hh mv.buf (by rw[hp];intro q;cases q) t3 t1 eF (fun _ _=>rfl) (fun _ _=>rfl) (fun k i hk hi=>kV (I.eF.other hk q1 hi)) (fun _=>hlive) (fun q=>by rw[t2] at q;cases q) (fun _=>⟨j,_,q1,sJ q2,A0.QS mv,P0⟩) (fun c hc=>?_)⟩;rcases fI q2 hc with rfl|hc
 ·refine .inr (fun k hk hkn hpk hz y hy=>?_);obtain⟨b',hb', -, -,hk0, -⟩:=I.eF.kR q1;rw[q2] at hb';cases hb';have hz':(m.aT k).new<=b.clock:=by
   rcases hz with hz|⟨h1, -⟩
   ·exact hz
   ·have:b.kind=1:=h1;omega
  exact I.snap k hk hpk b (bC q2) (.inl hz') y (qI y hy)
 ·exact .inl hc
theorem GR (I:eB N words M m s cw) (L:cZ N words m) (hn:n<N) (hN:N<=4) (wf:∀l∈rs,∀o∈l,1<=o.at_/\o.at_<=words) (hM:(M:Int)=words+1) (ha:m.aT n=a) (hfin:a.fin=0) {j:Nat} (q1:s.opn n=some j) (q2:s.aU[j]? =some b) (q3:rW a b) (hhe:∀k,a.held k=false) {f:bJ->bJ} {e':Nat->Bool} {ek ea eb:Int} {p:Pt} {fin':Int} (hp:a.pt≠ .wb) (hp':p= .look\/p= .out\/p= .over) (L':cZ N words ((m.set n {a with pt:=p,fin:=fin'}).tell n ek ea eb))
  (eF:d_ (m.evs++[⟨n,ek,ea,eb⟩]) ⟨s.aU.modify j f,upd s.opn n none,e'⟩ cw m.clock M) (he:∀k,k≠n->e' k=s.ended k) (hl:fin'=0->e' n=false) (hd:(f b).done=b.done) (hb:∀q,Behind q (f b)->q<=b.clock):
  eB N words M ((m.set n {a with pt:=p,fin:=fin'}).tell n ek ea eb) ⟨s.aU.modify j f,upd s.opn n none,e'⟩ cw:=by
 have hpt:p≠ .wb/\p.pend=false/\p.nY=false:=by rcases hp' with rfl|rfl|rfl<;>exact⟨fun q=>(by cases q),rfl,rfl⟩
 refine I.event L hn ha L' hhe rfl hp hpt.1 hpt.2.1 eF he (fun k hk=>jG _ _ hk) (fun k i hk hi=>kV (I.eF.other hk q1 hi)) hl (fun _=>gm _ _ _) (fun q=>by rw[hpt.2.2] at q;cases q) (fun c hc=>?_);rcases fI q2 hc with rfl|hc
 ·refine .inr (fun k hk hkn hpk hz y hy=>?_);rw[hd] at hy;exact I.snap k hk hpk b (bC q2) (.inl (hb _ hz)) y hy
 ·exact .inl hc
theorem abu (I:eB N words M m s cw) (L:cZ N words m) (hn:n<N) (hN:N<=4) (wf:∀l∈rs,∀o∈l,1<=o.at_/\o.at_<=words) (hM:(M:Int)=words+1) (ha:m.aT n=a) (hfin:a.fin=0) (hp:a.pt= .full) (L':cZ N words (m.act rs n)):∃s',eB N words M (m.act rs n) s' cw:=by
 have HA:=L.th n hn;rw[ha] at HA;have hh:=HA.held;rw[hp] at hh;simp only at hh;rw[zA ha hp] at L'⊢;have hlive:=uY I L hn hN wf hM ha hfin;obtain⟨j,b,q1,q2,q3,q4⟩:=I.busy n hn (by rw[ha,hp];rfl);rw[ha] at q3;exact⟨_,GR I L hn hN wf hM ha hfin q1 q2 q3 hh (by rw[hp];intro q;cases q) (.inr (.inr rfl)) L' (I.eF.trap hlive (by omega) q1 6) (fun k hk=>jG _ _ hk) (fun q=>absurd q (by decide)) rfl (fun q hq=>by
  rcases hq with hq|⟨h1, -⟩
  ·exact hq
  ·simp[closed] at h1)⟩
theorem adQ (I:eB N words M m s cw) (L:cZ N words m) (hn:n<N) (hN:N<=4) (wf:∀l∈rs,∀o∈l,1<=o.at_/\o.at_<=words) (hM:(M:Int)=words+1) (ha:m.aT n=a) (hfin:a.fin=0) (hp:a.pt= .yz) (L':cZ N words (m.act rs n)):∃s',eB N words M (m.act rs n) s' cw:=by
 have HA:=L.th n hn;rw[ha] at HA;have hh:=HA.held;rw[hp] at hh;simp only at hh;rw[Cu ha hp] at L'⊢;have hlive:=uY I L hn hN wf hM ha hfin;obtain⟨j,b,q1,q2,q3,q4⟩:=I.busy n hn (by rw[ha,hp];rfl);rw[ha] at q3;exact⟨_,GR (p:=.look) (fin':=a.fin) I L hn hN wf hM ha hfin q1 q2 q3 hh (by rw[hp];intro q;cases q) (.inl rfl) L' (I.eF.abort hlive (by omega) q1) (fun k hk=>rfl) (fun _=>hlive) rfl (fun q hq=>by
  rcases hq with hq|⟨h1, -⟩
  ·exact hq
  ·simp[closed] at h1)⟩
theorem afP (I:eB N words M m s cw) (L:cZ N words m) (hn:n<N) (hN:N<=4) (wf:∀l∈rs,∀o∈l,1<=o.at_/\o.at_<=words) (hM:(M:Int)=words+1) (ha:m.aT n=a) (hfin:a.fin=0) (hp:a.pt= .ro) (L':cZ N words (m.act rs n)):∃s',eB N words M (m.act rs n) s' cw:=by
 have HA:=L.th n hn;rw[ha] at HA;have hh:=HA.held;have Qf:=HA.some;rw[hp] at hh Qf;simp only at hh Qf;rw[IM ha hp] at L'⊢;have hlive:=uY I L hn hN wf hM ha hfin;obtain⟨j,b,q1,q2,q3,q4⟩:=I.busy n hn (by rw[ha,hp];rfl);rw[ha] at q3;have eF:=I.eF.reader hlive (by omega) q1 q2 (fun e he h3=>by
  obtain⟨c,hc, -⟩:=q3.log.keys e he h3;rw[Qf] at hc;cases hc)
 rw[q3.dx] at eF;exact⟨_,GR (p:=.out) (fin':=a.fin) I L hn hN wf hM ha hfin q1 q2 q3 hh (by rw[hp];intro q;cases q) (.inr (.inl rfl)) L' eF (fun k hk=>rfl) (fun _=>hlive) rfl (fun q hq=>by
  rcases hq with hq|⟨-,h1, -⟩
  ·exact hq
  ·simp[bW] at h1)⟩
theorem acO (I:eB N words M m s cw) (L:cZ N words m) (hn:n<N) (hN:N<=4) (wf:∀l∈rs,∀o∈l,1<=o.at_/\o.at_<=words) (hM:(M:Int)=words+1) (ha:m.aT n=a) (hfin:a.fin=0) (hp:a.pt= .out) (L':cZ N words (m.act rs n)):∃s',eB N words M (m.act rs n) s' cw:=by
 have HA:=L.th n hn;rw[ha] at HA;have hh:=HA.held;rw[hp] at hh;simp only at hh;rw[Cv ha hp] at L'⊢;have hlive:=uY I L hn hN wf hM ha hfin;have ho:s.opn n=none:=I.idle n hn (by rw[ha,hp];rfl);have mv:=yF {a with row:=a.row+1,out:=a.out++[a.sum]} rs;obtain⟨t1,t2,t3⟩:=JZ {a with row:=a.row+1,out:=a.out++[a.sum]} rs;exact⟨_,I.event L hn ha L' hh mv.buf (by rw[hp];intro q;cases q) t3 t1 (I.eF.outer (DJ (by omega) hlive ho)) (fun _ _=>rfl) (fun _ _=>rfl) (fun _ _ _ _=>rfl) (fun _=>hlive) (fun _=>ho) (fun q=>by rw[t2] at q;cases q) (fun b hb=>.inl hb)⟩
theorem aaL (I:eB N words M m s cw) (L:cZ N words m) (hn:n<N) (hN:N<=4) (wf:∀l∈rs,∀o∈l,1<=o.at_/\o.at_<=words) (hM:(M:Int)=words+1) (ha:m.aT n=a) (hfin:a.fin=0) (hp:a.pt= .halt) (L':cZ N words (m.act rs n)):∃s',eB N words M (m.act rs n) s' cw:=by
 have HA:=L.th n hn;rw[ha] at HA;have hh:=HA.held;rw[hp] at hh;simp only at hh;rw[Aa ha hp] at L'⊢;have hlive:=uY I L hn hN wf hM ha hfin;have ho:s.opn n=none:=I.idle n hn (by rw[ha,hp];rfl);exact⟨_,I.event L hn ha L' hh rfl (by rw[hp];intro q;cases q) (fun q=>by cases q) rfl (I.eF.outer (EJ (by omega) hlive ho)) (fun k hk=>jG _ _ hk) (fun _ _=>rfl) (fun _ _ _ _=>rfl) (fun q=>absurd q (show ¬(1:Int)=0 by decide)) (fun _=>ho) (fun q=>by cases q) (fun b hb=>.inl hb)⟩
theorem abN (I:eB N words M m s cw) (L:cZ N words m) (hn:n<N) (hN:N<=4) (wf:∀l∈rs,∀o∈l,1<=o.at_/\o.at_<=words) (hM:(M:Int)=words+1) (ha:m.aT n=a) (hfin:a.fin=0) (hp:a.pt= .vO) (L':cZ N words (m.act rs n)):eB N words M (m.act rs n) s cw:=by
 rw[yZ ha hp] at L'⊢;have mv:=vV {a with new:=m.clock+1} 0;obtain⟨t1,t2,t3,t4⟩:=zF {a with new:=m.clock+1} 0;have e0:a.owed=a.buf:=fG (by rw[hp];intro q;cases q);have key:∀b,rW a b->∀m',kY N m' cw n ({a with new:=m.clock+1}.dV 0) b:=fun b h1 m'=>by
  unfold aY.dV;cases hx:oO (fun k=>a.reads.testBit k) 0 with
  |some i=>
   obtain⟨-,r1,r2,r3⟩:=nG hx;intro x hx1 hx2;have:=h1.rd x hx1;rw[r3 _ (Nat.zero_le _) hx2] at this;cases this
  |none=>
   intro x hx1;have:=h1.rd x hx1;rw[pg hx _ (Nat.zero_le _) (cu x)] at this;cases this
 generalize({a with new:=m.clock+1}.dV 0:aY)=a' at mv t1 t2 t3 t4 key L'⊢;have hnn:({m with clock:=m.clock+1,aT:=upd m.aT n a'}:AS).aT n=a':=gm _ _ _;show eB N words M {m with clock:=m.clock+1,aT:=upd m.aT n a'} s cw;refine I.quiet L hn ha (by omega) I.eF.clock (Cz L L' hn (fun k hk=>jG _ _ hk) rfl (by rw[hnn,ha,mv.buf]) (by rw[hnn,ha,mv.held]) (by rw[hnn,ha,mv.old]) (by rw[ha,hp];rfl) (by rw[hnn];exact t4)) (fun x=>by rw[e0,fG t3,mv.buf]) (fun _=>.inr mv.new) (by rw[t2,hp];rfl) mv.fin (fun j b _ _ h1 h2 E=>⟨⟨by rw[mv.dx];exact h1.dx,by rw[mv.log];exact h1.log,by rw[mv.reads];exact h1.rd⟩,key b h1 _⟩)
theorem acU (I:eB N words M m s cw) (L:cZ N words m) (hn:n<N) (hN:N<=4) (wf:∀l∈rs,∀o∈l,1<=o.at_/\o.at_<=words) (hM:(M:Int)=words+1) (ha:m.aT n=a) (hfin:a.fin=0) (hp:a.pt= .CR) (hb:a.buf=[]) (L':cZ N words (m.act rs n)):eB N words M (m.act rs n) s cw:=by
 have HA:=L.th n hn;rw[ha] at HA;have hh:=HA.held;have hl1:=HA.l1;rw[hp] at hh hl1;simp only at hh hl1;rw[CS ha hp] at L'⊢;split at L'
 ·rename_i hc;rw[if_pos hc];have mv:=Cx {a with held:=upd a.held a.s true,old:=upd a.old a.s a.l1} (a.s+1);have tp:∀m' b,kY N m' cw n ({a with held:=upd a.held a.s true,old:=upd a.old a.s a.l1}.eu (a.s+1)) b:=fun m' b=>(Ba _ _).2.2.2.2
  obtain⟨t1,t2,t3,t4, -⟩:=Ba (N:=N) (m:=m) (cw:=cw) (n:=n) (b:=⟨0,0,0,0,0,0,false,[]⟩) {a with held:=upd a.held a.s true,old:=upd a.old a.s a.l1} (a.s+1);have e0:a.owed=a.buf:=fG (by rw[hp];intro q;cases q);generalize({a with held:=upd a.held a.s true,old:=upd a.old a.s a.l1}.eu (a.s+1):aY)=a' at mv t1 t2 t3 t4 tp L'⊢;obtain⟨nX,hns,hhk⟩:=hh;have hno:a.held a.s=false:=by rw[hhk];simp
  have hth:∀k,(({m with aR:=upd m.aR a.s (2*n+1)}:AS).set n a').aT k=if k=n then a' else m.aT k:=fun k=>rfl
  have hnn:(({m with aR:=upd m.aR a.s (2*n+1)}:AS).set n a').aT n=a':=by rw[hth,if_pos rfl]
  have Sy:∀i,i<16->fv (({m with aR:=upd m.aR a.s (2*n+1)}:AS).set n a') i=fv m i:=by
   intro i hi;by_cases e:i=a.s
   ·subst e;rw[L'.kg hn hi (by rw[hnn,mv.held];simp[bS]),hnn,su (by rw[hc];exact hl1.1),hc];unfold aY.says;rw[t4,mv.old];simp[bS]
   ·have hlk:(({m with aR:=upd m.aR a.s (2*n+1)}:AS).set n a').aR i=m.aR i:=by simp[AS.set,bS,e]
    rcases L.zM hi with⟨q1,q2,q3⟩|⟨k,hk,q1,q2⟩
    ·rw[q2,su (by rw[hlk];exact q1),hlk]
    ·by_cases e2:k=n
     ·subst e2;rcases q1 with q1|⟨v,q1⟩
      ·rw[L.kg hk hi q1];rw[ha] at q1⊢;rw[L'.kg hk hi (by rw[hnn,mv.held];simp only[bS];rw[if_neg e];exact q1),hnn];unfold aY.says;rw[t4,mv.old,hp];simp only[bS];rw[if_neg e];rfl
      ·rw[ha,hb] at q1;simp at q1
     ·rcases q1 with q1|⟨v,q1⟩
      ·rw[L.kg hk hi q1,L'.kg hk hi (by rw[hth,if_neg e2];exact q1),hth,if_neg e2]
      ·rw[L.o9 hk hi q1,L'.o9 hk hi (by rw[hth,if_neg e2];exact q1)]
  have E:Env n m (({m with aR:=upd m.aR a.s (2*n+1)}:AS).set n a'):=⟨Sy,fun k hk=>by rw[hth,if_neg hk],Int.le_refl _,fun x=>by rw[hnn,ha,e0,fG t3,mv.buf],fun q=>by rw[hnn,t1] at q;cases q⟩;refine I.turn L E hn rfl I.eF (fun _ _=>rfl) (fun _ _=>rfl) (fun _ _ _ _=>rfl) (fun q=>?_) (fun q=>?_) (fun q=>?_) (fun b hb=>.inl hb)
  ·exact I.live n hn (by rw[ha];exact hfin)
  ·rw[hnn,t2] at q;cases q
  ·obtain⟨j,b,q1,q2,q3,q4⟩:=I.busy n hn (by rw[ha,hp];rfl);rw[ha] at q3;exact⟨j,b,q1,q2,by rw[hnn];exact⟨by rw[mv.dx];exact q3.dx,by rw[mv.log];exact q3.log,by rw[mv.reads];exact q3.rd⟩,by rw[hnn];exact tp _ b⟩
 ·rename_i hc;rw[if_neg hc];exact Mc I L hn wf ha hfin (by rw[hp];rfl) (by rw[hp];rfl) 0 L'
theorem Y8 (I:eB N words M m s cw) (L:cZ N words m) (hn:n<N) (hN:N<=4) (wf:∀l∈rs,∀o∈l,1<=o.at_/\o.at_<=words) (hM:(M:Int)=words+1) (ha:m.aT n=a) (hfin:a.fin=0) (hp:a.pt= .Gb) (L':cZ N words (m.set n (a.dV (a.s+1)))) (hv:∀b,rW a b->∀x,I8 b.done x->bA x=a.s->Vd N m cw n a x):eB N words M (m.set n (a.dV (a.s+1))) s cw:=by
 have mv:=vV a (a.s+1);obtain⟨t1,t2,t3,t4⟩:=zF a (a.s+1);have e0:a.owed=a.buf:=fG (by rw[hp];intro q;cases q);have key:∀b,rW a b->(∀x,I8 b.done x->bA x<a.s->Vd N m cw n a x)->kY N m cw n (a.dV (a.s+1)) b:=fun b h1 h2=>by
  have hle:∀x,I8 b.done x->bA x<a.s+1->Vd N m cw n a x:=fun x hx hs=>by
   by_cases e:bA x=a.s
   ·exact hv b h1 x hx e
   ·exact h2 x hx (by omega)
  unfold aY.dV;cases hx:oO (fun k=>a.reads.testBit k) (a.s+1) with
  |some i=>
   obtain⟨r0,r1,r2,r3⟩:=nG hx;intro x hx1 hx2;by_cases e:bA x<a.s+1
   ·exact hle x hx1 e
   ·have:=h1.rd x hx1;rw[r3 _ (by omega) hx2] at this;cases this
  |none=>
   intro x hx1;by_cases e:bA x<a.s+1
   ·exact hle x hx1 e
   ·have:=h1.rd x hx1;rw[pg hx _ (by omega) (cu x)] at this;cases this
 have Xe:=L'.th n hn;rw[y8] at Xe;generalize a.dV (a.s+1)=a' at mv t1 t2 t3 t4 key L' Xe⊢;refine I.still L hn ha (Cz L L' hn (fun k hk=>OL _ _ _ _ hk) rfl (by rw[y8,ha,mv.buf]) (by rw[y8,ha,mv.held]) (by rw[y8,ha,mv.old]) (by rw[ha,hp];rfl) (by rw[y8];exact t4)) (fun x=>by rw[e0,fG t3,mv.buf]) (fun _=>.inl ⟨by rw[hp];rfl,mv.new,mv.log⟩) (by rw[t2,hp];rfl) mv.fin (fun b h1 h2 E=>⟨h1.QS mv,?_⟩);unfold kY at h2;rw[hp] at h2;exact(key b h1 h2).env E Xe
theorem ads (I:eB N words M m s cw) (L:cZ N words m) (hn:n<N) (hN:N<=4) (wf:∀l∈rs,∀o∈l,1<=o.at_/\o.at_<=words) (hM:(M:Int)=words+1) (ha:m.aT n=a) (hfin:a.fin=0) (hp:a.pt= .Gb) (L':cZ N words (m.act rs n)):eB N words M (m.act rs n) s cw:=by
 have HA:=L.th n hn;rw[ha] at HA;have hsm:=HA.some;have hb:=HA.bare (by rw[hp];rfl);have bK:=HA.held;rw[hp] at hsm bK;simp only at hsm bK;have hs:=hsm.2.1;rw[CV ha hp] at L'⊢;have un:cZ N words (m.set n (a.bZ 0))->eB N words M (m.set n (a.bZ 0)) s cw:=fun q=>Mc I L hn wf ha hfin (by rw[hp];rfl) (by rw[hp];rfl) 0 q
 have pn:∀k,k<N->k≠n->¬(m.aT k).has a.s->∀x,bA x=a.s->(m.aT k).pt.pend=true->¬Keys (m.aT k) x:=fun k hk _ q x hx hpk hkx=>q (.inl (by rw[<-hx];exact(L.th k hk).FH hpk hkx))
 by_cases h1:dF a.buf m.aR a.s%2=0
 ·rw[if_pos h1] at L'⊢;by_cases h2:a.dx<dF a.buf m.aR a.s/2
  ·rw[if_pos h2] at L'⊢;exact un L'
  ·rw[if_neg h2] at L'⊢;refine Y8 I L hn hN wf hM ha hfin hp L' (fun b q1 x q2 q3=>?_);have hno:(m.aT n).held a.s=false:=by
    cases hh:(m.aT n).held a.s with
    |false=>rfl
    |true=>
     have:=(L.own n hn a.s hs).2 (.inl hh);rw[hb] at h1;have e1:dF [] m.aR a.s=m.aR a.s:=rfl;rw[e1] at h1;omega
   obtain⟨f1,f2⟩:=L.seen hn hs hno (by rw[ha];exact h1);rw[ha] at f1;refine⟨fun c hc hw _=>?_,fun k hk hkn hpk _=>pn k hk hkn (f2 k hk hkn) x q3 hpk⟩;have:=I.R7 c hc x hw;rw[q3] at this;omega
 ·rw[if_neg h1] at L'⊢;by_cases h2:dF a.buf m.aR a.s=2*n+1
  ·rw[if_pos h2] at L'⊢;by_cases h3:a.dx<a.old a.s/2
   ·rw[if_pos h3] at L'⊢;exact un L'
   ·rw[if_neg h3] at L'⊢;refine Y8 I L hn hN wf hM ha hfin hp L' (fun b q1 x q2 q3=>?_);have hown:m.aR a.s=2*n+1:=by
     rw[hb] at h2;exact h2
    have hhas:=(L.own n hn a.s hs).1 hown;have hhe:(m.aT n).held a.s=true:=by
     rcases hhas with q|⟨v,q⟩
     ·exact q
     ·rw[ha,hb] at q;simp at q
    have f1:=L.kg hn hs hhe;rw[ha] at f1;unfold aY.says at f1;rw[hp] at f1;refine⟨fun c hc hw _=>?_,fun k hk hkn hpk _=>pn k hk hkn (fun q=>hkn (L.one hk hn hs q hhas)) x q3 hpk⟩;have h5:=I.R7 c hc x hw;rw[q3,f1] at h5;have h6:c.place<=a.old a.s/2:=h5;omega
  ·rw[if_neg h2] at L'⊢;exact un L'
end
end
section
variable {N n k M:Nat} {words C C':Int} {m m':AS} {a a':aY} {b:bJ} {rs:List (List Tx)} {l:List Tx} {x v:Int} {s s':HS} {cw:List bJ}
theorem Oh {c1 c2:Int} (hc:c1<=c2) (h:∀a∈cw,mh a x->a.place<=c2->a.place<=c1):CP cw c2 x=CP cw c1 x:=by
 have h1:CP (cw.filter (fun a=>decide (a.place<=c2))) c1 x=CA (cw.filter (fun a=>decide (a.place<=c2))) x:=ZI (fun a ha hw=>by
  rw[List.mem_filter] at ha;exact h a ha.1 hw (by simpa using ha.2))
 have h2:CP (cw.filter (fun a=>decide (a.place<=c2))) c1=CP cw c1:=by
  unfold CP;rw[List.filter_filter];congr 2
  funext a
  by_cases q:a.place<=c1
  ·simp[q];omega
  ·simp[q]
 rw[h2] at h1;exact h1.symm
section
theorem acB (I:eB N words M m s cw) (L:cZ N words m) (hn:n<N) (hN:N<=4) (wf:∀l∈rs,∀o∈l,1<=o.at_/\o.at_<=words) (hM:(M:Int)=words+1) (ha:m.aT n=a) (hfin:a.fin=0) (hp:a.pt= .Hu) (L':cZ N words (m.act rs n)):∃s' O4,eB N words M (m.act rs n) s' O4:=by
 have HA:=L.th n hn;rw[ha] at HA;have bK:=HA.held;have hne:=HA.some;have hnew:=HA.new;have hold:=HA.old;have hb:=HA.bare (by rw[hp];rfl);rw[hp] at bK hne hnew hold;simp only at bK hne hnew;rw[Cr ha hp] at L'⊢;have hlive:=uY I L hn hN wf hM ha hfin;obtain⟨j,b,q1,q2,q3,q4⟩:=I.busy n hn (by rw[ha,hp];rfl);rw[ha] at q3 q4;unfold kY at q4;rw[hp] at q4;simp only at q4;obtain⟨p1,p2⟩:=I.ZO n hn (by rw[ha,hp];rfl);have p3:=I.snap n hn (by rw[ha,hp];rfl);rw[ha] at p1 p2 p3;have hpos:0<a.log.length:=List.length_pos_iff.2 hne;have e1:a.kE 0={a with pt:=.wb,i:=0}:=by unfold aY.kE;rw[if_pos hpos]
 rw[e1] at L'⊢;obtain⟨b',hb', -, -,hk0,hp0,hw0,hb1,hb2⟩:=I.eF.kR q1;rw[q2] at hb';cases hb';have okb:=I.eF.nY b (bC q2);have hread:rX b.done (CP cw (a.new - 1)):=EL _ okb.rd (fun x hx=>by
  rw[q3.dx];refine(Oh (by omega) (fun c hc hw hcl=>?_)).symm;exact(q4 x hx).1 c hc hw (by omega))
 have eF:=I.eF.writer hlive (by omega) q1 q2 (p:=a.new) (by rw[q3.dx];exact hnew.1) hnew.2 p1 hread (fun c hc hz y hy hw=>p3 c hc hz y hy ((q3.writes y).1 hw));obtain⟨X,hX⟩:∃X,X=bW ⟨n,7,a.new,1⟩ m.evs.length b:=⟨_,rfl⟩;have NW:X.place=a.new:=by rw[hX];rfl
 have R9:∀y,mh X y↔Keys a y:=fun y=>by rw[hX,<-q3.writes y];exact Iff.rfl
 rw[<-hX] at eF;have hth:∀k,((m.set n {a with pt:=.wb,i:=0}).tell n 7 a.new 1).aT k=if k=n then {a with pt:=.wb,i:=0} else m.aT k:=fun k=>rfl
 have hnn:((m.set n {a with pt:=.wb,i:=0}).tell n 7 a.new 1).aT n={a with pt:=.wb,i:=0}:=by rw[hth,if_pos rfl]
 generalize hm':(m.set n {a with pt:=.wb,i:=0}).tell n 7 a.new 1=m' at L' hth hnn⊢;have hdat:m'.data=m.data:=by rw[<-hm'];rfl
 have hlk:m'.aR=m.aR:=by rw[<-hm'];rfl
 have hck:m'.clock=m.clock:=by rw[<-hm'];rfl
 have hev:m'.evs=m.evs++[⟨n,7,a.new,1⟩]:=by rw[<-hm'];rfl
 have hkh:∀x,Keys a x->a.held (bA x)=true:=fun x ⟨c,hc,hcx⟩=>by rw[bK];exact t_.2 ⟨c,hc,by rw[hcx]⟩
 have XM:∀i,i<16->a.held i=true->fv m' i=a.new/\fv m i=a.old i/2/\a.old i/2<a.new:=fun i hi hh=>by
  refine⟨?_,?_,(hold i hh).2.2.2 rfl⟩
  ·rw[L'.kg hn hi (by rw[hnn];exact hh),hnn];rfl
  ·rw[L.kg hn hi (by rw[ha];exact hh),ha];unfold aY.says;rw[hp];rfl
 have afa:∀i,i<16->a.held i=false->fv m' i=fv m i:=fun i hi hh=>by
  rcases L.zM hi with⟨r1,r2,r3⟩|⟨k,hk,r1,r2⟩
  ·rw[r2,su (by rw[hlk];exact r1),hlk]
  ·by_cases e:k=n
   ·subst e;rcases r1 with r1|⟨v,r1⟩
    ·rw[ha,hh] at r1;cases r1
    ·rw[ha,hb] at r1;simp at r1
   ·rcases r1 with r1|⟨v,r1⟩
    ·rw[L.kg hk hi r1,L'.kg hk hi (by rw[hth,if_neg e];exact r1),hth,if_neg e]
    ·rw[L.o9 hk hi r1,L'.o9 hk hi (by rw[hth,if_neg e];exact r1)]
 have OI:∀i,i<16->fv m i<=fv m' i:=fun i hi=>by
  cases hh:a.held i with
  |true=>have:=XM i hi hh;omega
  |false=>rw[afa i hi hh];exact Int.le_refl _
 have how:({a with pt:=.wb,i:=0}:aY).owed=a.log.map (fun c=>gD.dat c.1 c.2):=by
  unfold aY.owed;simp[hb]
 have hown:a.owed=[]:=by rw[fG (by rw[hp];intro q;cases q),hb]
 have hlast:∀x,¬Keys a x->iD x (a.log.map (fun c=>gD.dat c.1 c.2))=none:=fun x hx=>Fs (fun c hc q=>hx ⟨c,hc,q⟩)
 have hother:∀k,k<N->k≠n->∀x,iD x (m.aT k).owed≠none->¬Keys a x:=fun k hk hkn x hx hka=>hkn (L.one hk hn (cu x) (L.owes hk hx).2 (.inl (by rw[ha];exact hkh x hka)))
 have Tk:∀x,Keys a x->∀f,CA (uP X cw) x=look a.log f x:=fun x hx f=>by
  rw[RJ (fun c hc hw=>?_) ((R9 x).2 hx) f]
  ·rw[hX];exact q3.log.sK f x
  ·have h1:=I.R7 c hc x hw;have h2:=XM _ (cu x) (hkh x hx);rw[NW];omega
 have hcn:∀x,¬Keys a x->CA (uP X cw) x=CA cw x:=fun x hx=>PO I.eF.inc (fun q=>hx ((R9 x).1 q))
 refine⟨_,_,⟨by rw[hev,hck];exact eF,fun k hk hf=>?_,fun k hk hq=>?_,fun k hk hq=>?_,fun x h1 h2 h3=>?_,fun k hk x v hv=>?_,fun c hc x hx=>?_,fun k hk hq=>?_,fun k hk hq c hc hz y hy=>?_⟩⟩
 ·by_cases e:k=n
  ·subst e;exact hlive
  ·rw[hth,if_neg e] at hf;exact I.live k hk hf
 ·by_cases e:k=n
  ·subst e;exact gm _ _ _
  ·rw[hth,if_neg e] at hq;show upd s.opn n none k=none;rw[jG _ _ e];exact I.idle k hk hq
 ·by_cases e:k=n
  ·subst e;rw[hnn] at hq;cases hq
  ·rw[hth,if_neg e] at hq⊢;obtain⟨i,c,r1,r2,r3,r4⟩:=I.busy k hk hq;refine⟨i,c,by show upd s.opn n none k=_;rw[jG _ _ e];exact r1,by rw[show(⟨s.aU.modify j (bW ⟨n,7,a.new,1⟩ m.evs.length),upd s.opn n none,s.ended⟩:HS).aU=s.aU.modify j (bW ⟨n,7,a.new,1⟩ m.evs.length) from rfl,kV (I.eF.other e q1 r1)];exact r2,r3,?_⟩;have hAk:=L.th k hk;have ahw:=hAk.new;unfold kY at r4⊢;have hvd:∀x,(m.aT k).pt.pend=true->Vd N m cw k (m.aT k) x->Vd N m' (uP X cw) k (m.aT k) x:=fun x hpk hv=>by
    refine⟨fun d hd hw hlt=>?_,fun i hi hik hpi hlt=>?_⟩
    ·rcases(zI X cw d).1 hd with rfl|hd
     ·exact absurd ((R9 x).1 hw) (by
       have:=hv.2 n hn (fun q=>e q.symm) (by rw[ha,hp];rfl) (by rw[ha,<-NW];exact hlt);rw[ha] at this;exact this)
     ·exact hv.1 d hd hw hlt
    ·by_cases e2:i=n
     ·subst e2;rw[hnn] at hpi;cases hpi
     ·rw[hth,if_neg e2] at hpi hlt⊢;exact hv.2 i hi hik hpi hlt
   have hsame:∀x,(m.aT k).l1/2<=fv m (bA x)->(m.aT k).l1/2=fv m' (bA x)->(m.aT k).l1/2=fv m (bA x)/\¬Keys a x:=fun x h1 h2=>by
    have h3:=OI _ (cu x);refine⟨by omega,fun hka=>?_⟩;have h4:=XM _ (cu x) (hkh x hka);omega
   cases hpk:(m.aT k).pt<;>rw[hpk] at r4<;>simp only at r4⊢
   ·refine⟨?_,r4.2.imp id (fun⟨u1,u2⟩=>⟨u1,fun i hi hpi hle=>?_⟩)⟩
    ·rcases r4.2 with u|⟨u1,u2⟩
     ·obtain⟨e3,he3,h31,h32⟩:=(r3.writes _).2 u;rw[<-r4.1];exact Iy _ _ _ ⟨e3,he3,h31,h32⟩
     ·rw[<-r4.1];refine Mx _ ?_;by_cases hlt:(m.aT k).dx<X.place
      ·rw[uA I.eF.inc hlt]
      ·refine AV I.eF.inc _ (fun q=>?_);have:=u2 n hn (by rw[ha,hp];rfl) (by rw[ha,<-NW];omega);rw[ha] at this;exact this ((R9 _).1 q)
    ·by_cases e2:i=n
     ·subst e2;rw[hnn] at hpi;cases hpi
     ·rw[hth,if_neg e2] at hpi hle⊢;exact u2 i hi hpi hle
   ·exact r4
   ·refine⟨r4.1,Int.le_trans r4.2.1 (OI _ (cu _)),fun u i hi hik=>?_⟩;obtain⟨u1,u2⟩:=hsame _ r4.2.1 u;by_cases e2:i=n
    ·subst e2;rw[hnn,how];exact hlast _ u2
    ·rw[hth,if_neg e2];exact r4.2.2 u1 i hi hik
   ·refine⟨r4.1,Int.le_trans r4.2.1 (OI _ (cu _)),fun u=>?_⟩;obtain⟨u1,u2⟩:=hsame _ r4.2.1 u;rw[hcn _ u2];exact r4.2.2 u1
   ·exact fun x hx hs=>hvd x (by rw[hpk];rfl) (r4 x hx hs)
   ·exact fun x hx=>hvd x (by rw[hpk];rfl) (r4 x hx)
 ·have hk0:¬Keys a x:=fun⟨c,hc,hcx⟩=>by
   have:=h3 n hn;rw[hnn,how,<-hcx,KP HA.uJ hc] at this;cases this
  rw[hdat,hcn x hk0];refine I.TV x h1 h2 (fun k hk=>?_);by_cases e:k=n
  ·subst e;rw[ha,hown];rfl
  ·have:=h3 k hk;rw[hth,if_neg e] at this;exact this
 ·by_cases e:k=n
  ·subst e;rw[hnn,how] at hv;by_cases hka:Keys a x
   ·obtain⟨c,hc,rfl⟩:=hka;rw[KP HA.uJ hc] at hv;cases hv;rw[Tk c.1 ⟨c,hc,rfl⟩ (fun _=>0),qV (uR HA.uJ) hc]
   ·rw[hlast x hka] at hv;cases hv
  ·rw[hth,if_neg e] at hv;rw[hcn x (hother k hk e x (by rw[hv];simp))];exact I.RQ k hk x v hv
 ·have nX:=cu x;rcases(zI X cw c).1 hc with rfl|hc
  ·rw[(XM _ nX (hkh x ((R9 x).1 hx))).1,NW];exact Int.le_refl _
  ·exact Int.le_trans (I.R7 c hc x hx) (OI _ nX)
 ·have e:k≠n:=fun e=>by subst e;rw[hnn] at hq;cases hq
  rw[hth,if_neg e] at hq⊢;refine⟨fun c hc=>?_,fun i hi hik hpi=>?_⟩
  ·rcases(zI X cw c).1 hc with rfl|hc
   ·rw[NW];exact fun q=>p2 k hk e hq q.symm
   ·exact(I.ZO k hk hq).1 c hc
  ·have e2:i≠n:=fun e2=>by subst e2;rw[hnn] at hpi;cases hpi
   rw[hth,if_neg e2] at hpi⊢;exact(I.ZO k hk hq).2 i hi hik hpi
 ·have e:k≠n:=fun e=>by subst e;rw[hnn] at hq;cases hq
  rw[hth,if_neg e] at hq hz⊢;rcases fI q2 hc with rfl|hc
  ·have hz':(m.aT k).new<=b.clock\/(m.aT k).new<a.new:=by
    rcases hz with hz|⟨-, -,hz⟩
    ·exact .inl hz
    ·exact .inr hz
   rcases hz' with hz'|hz'
   ·exact I.snap k hk hq b (bC q2) (.inl hz') y hy
   ·exact(q4 y hy).2 k hk e hq hz'
  ·exact I.snap k hk hq c hc hz y hy
end
theorem eB.flush (I:eB N words M m s cw) (L:cZ N words m) (hn:n<N):eB N words M (m.flush n) s cw:=by
 have L':=L.flush hn;have Sy:=VL L hn;obtain⟨a,ha⟩:∃a,m.aT n=a:=⟨_,rfl⟩;unfold AS.flush at L' Sy⊢;rw[ha] at L' Sy⊢;cases hb:a.buf with
 |nil=>exact I
 |cons e r=>
  rw[hb] at L' Sy;have I5:∀(m':AS),(∀k,m'.aT k=if k=n then {a with buf:=r} else m.aT k)->m'.evs=m.evs->m'.clock=m.clock->(∀i,i<16->fv m' i=fv m i)->
    (∀x,1<=x->x<=words->(∀k,k<N->iD x (m'.aT k).owed=none)->m'.data x=CA cw x)->eB N words M m' s cw:=by
   intro m' hth hev hck hf hmem;have hnn:m'.aT n={a with buf:=r}:=by rw[hth,if_pos rfl]
   have how:∀x v,iD x ({a with buf:=r}:aY).owed=some v->iD x a.owed=some v:=fun x v hv=>by
    have e2:a.owed=e::({a with buf:=r}:aY).owed:=by
     unfold aY.owed;cases a.pt<;>simp[hb]
    rw[e2,rG,hv]
   have hnone:∀k x,iD x (m.aT k).owed=none->iD x (m'.aT k).owed=none:=fun k x hx=>by
    rw[hth];split
    ·rename_i e2;subst e2;cases hl:iD x ({a with buf:=r}:aY).owed with
     |none=>rfl
     |some v=>rw[ha,how x v hl] at hx;cases hx
    ·exact hx
   have hpn:∀k,(m'.aT k).pt=(m.aT k).pt/\(m'.aT k).new=(m.aT k).new/\(m'.aT k).log=(m.aT k).log/\(m'.aT k).fin=(m.aT k).fin:=fun k=>by
    rw[hth];split
    ·rename_i e2;subst e2;rw[ha];exact⟨rfl,rfl,rfl,rfl⟩
    ·exact⟨rfl,rfl,rfl,rfl⟩
   have hky:∀k x,Keys (m'.aT k) x↔Keys (m.aT k) x:=fun k x=>Ad (hpn k).2.2.1
   have hvd:∀k c x,Vd N m cw k c x->Vd N m' cw k c x:=fun k c x hv=>⟨hv.1,fun i hi hik hpi hlt=>by
    rw[(hpn i).1] at hpi;rw[(hpn i).2.1] at hlt;rw[hky];exact hv.2 i hi hik hpi hlt⟩
   have hpt:∀k c d,kY N m cw k c d->kY N m' cw k c d:=fun k c d h=>by
    unfold kY at h⊢;cases hq:c.pt<;>rw[hq] at h<;>simp only at h⊢
    ·refine⟨h.1,h.2.imp id (fun⟨q1,q2⟩=>⟨q1,fun i hi hpi hle=>?_⟩)⟩;rw[(hpn i).1] at hpi;rw[(hpn i).2.1] at hle;rw[hky];exact q2 i hi hpi hle
    ·exact h
    ·rw[hf _ (cu _)];exact⟨h.1,h.2.1,fun q i hi hik=>hnone i _ (h.2.2 q i hi hik)⟩
    ·rw[hf _ (cu _)];exact h
    ·exact fun x hx hs=>hvd k c x (h x hx hs)
    ·exact fun x hx=>hvd k c x (h x hx)
   refine⟨by rw[hev,hck];exact I.eF,fun k hk hq=>I.live k hk (by rw[<-(hpn k).2.2.2];exact hq),fun k hk hq=>I.idle k hk (by rw[<-(hpn k).1];exact hq),fun k hk hq=>?_,hmem,fun k hk x v hv=>?_,fun c hc x hx=>by rw[hf _ (cu _)];exact I.R7 c hc x hx,fun k hk hq=>?_,fun k hk hq c hc hz y hy=>?_⟩
   ·obtain⟨i,c,r1,r2,r3,r4⟩:=I.busy k hk (by rw[<-(hpn k).1];exact hq);refine⟨i,c,r1,r2,?_,?_⟩
    ·rw[hth];split
     ·rename_i e2;subst e2;rw[ha] at r3;exact⟨r3.dx,r3.log,r3.rd⟩
     ·exact r3
    ·have:=hpt k _ _ r4;rw[hth];split
     ·rename_i e2;subst e2;rw[ha] at this;exact this
     ·exact this
   ·rw[hth] at hv;split at hv
    ·rename_i e2;subst e2;exact I.RQ k hk x v (by rw[ha];exact how x v hv)
    ·exact I.RQ k hk x v hv
   ·rw[(hpn k).1] at hq;rw[(hpn k).2.1];refine⟨(I.ZO k hk hq).1,fun i hi hik hpi=>?_⟩;rw[(hpn i).1] at hpi;rw[(hpn i).2.1];exact(I.ZO k hk hq).2 i hi hik hpi
   ·rw[(hpn k).1] at hq;rw[(hpn k).2.1] at hz;rw[hky];exact I.snap k hk hq c hc hz y hy
  have e2:a.owed=e::({a with buf:=r}:aY).owed:=by
   unfold aY.owed;cases a.pt<;>simp[hb]
  cases e with
  |dat y w=>
   refine I5 _ (fun k=>rfl) rfl rfl Sy (fun x h1 h2 h3=>?_);show(if x=y then w else m.data x)=_;have Zg:=h3 n hn;have hnn:(({m with data:=fun z=>if z=y then w else m.data z}:AS).set n {a with buf:=r}).aT n={a with buf:=r}:=y8 _ _ _;rw[hnn] at Zg;by_cases hxy:x=y
   ·subst hxy;rw[if_pos rfl];refine I.RQ n hn x w ?_;rw[ha,e2,rG,Zg];simp[yj]
   ·rw[if_neg hxy];refine I.TV x h1 h2 (fun k hk=>?_);by_cases q:k=n
    ·subst q;rw[ha,e2,rG,Zg];simp[yj];exact fun q=>hxy q.symm
    ·have:=h3 k hk;rw[OL _ _ _ _ q] at this;exact this
  |lock i w=>
   refine I5 _ (fun k=>rfl) rfl rfl Sy (fun x h1 h2 h3=>I.TV x h1 h2 (fun k hk=>?_));by_cases q:k=n
   ·subst q;have Zg:=h3 k hk;rw[y8] at Zg;rw[ha,e2,rG,Zg];rfl
   ·have:=h3 k hk;rw[OL _ _ _ _ q] at this;exact this
theorem eB.act (I:eB N words M m s cw) (L:cZ N words m) (hn:n<N) (hN:N<=4) (wf:∀l∈rs,∀o∈l,1<=o.at_/\o.at_<=words) (hM:(M:Int)=words+1) (hfin:(m.aT n).fin=0) (hbare:(m.aT n).bare):cZ N words (m.act rs n)/\∃s' O4,eB N words M (m.act rs n) s' O4:=by
 have L':=L.act (rs:=rs) hn hfin hbare wf;refine⟨L',?_⟩;obtain⟨a,ha⟩:∃a,m.aT n=a:=⟨_,rfl⟩;rw[ha] at hfin hbare;cases hp:a.pt with
 |look=>obtain⟨s',h⟩:=aai I L hn hN wf hM ha hfin hp L';exact⟨s',cw,h⟩
 |rd=>obtain⟨s',h⟩:=afN I L hn hN wf hM ha hfin hp L';exact⟨s',cw,h⟩
 |JY=>exact⟨s,cw,ac2 I L hn wf ha hfin hp L'⟩
 |dat=>exact⟨s,cw,ad9 I L hn wf ha hfin hp L'⟩
 |Dq=>exact⟨s,cw,aen I L hn wf ha hfin hp L'⟩
 |wr=>obtain⟨s',h⟩:=aga I L hn hN wf hM ha hfin hp L';exact⟨s',cw,h⟩
 |full=>obtain⟨s',h⟩:=abu I L hn hN wf hM ha hfin hp L';exact⟨s',cw,h⟩
 |ro=>obtain⟨s',h⟩:=afP I L hn hN wf hM ha hfin hp L';exact⟨s',cw,h⟩
 |Lx=>exact⟨s,cw,acT I L hn wf ha hfin hp L'⟩
 |CR=>exact⟨s,cw,acU I L hn hN wf hM ha hfin hp (hbare (.inl hp)) L'⟩
 |vO=>exact⟨s,cw,abN I L hn hN wf hM ha hfin hp L'⟩
 |Gb=>exact⟨s,cw,ads I L hn hN wf hM ha hfin hp L'⟩
 |Hu=>exact acB I L hn hN wf hM ha hfin hp L'
 |wb=>exact⟨s,cw,afy I L hn wf ha hfin hp L'⟩
 |rel=>exact⟨s,cw,aev I L hn wf ha hfin hp L'⟩
 |Kn=>exact⟨s,cw,adp I L hn wf ha hfin hp L'⟩
 |yz=>obtain⟨s',h⟩:=adQ I L hn hN wf hM ha hfin hp L';exact⟨s',cw,h⟩
 |out=>obtain⟨s',h⟩:=acO I L hn hN wf hM ha hfin hp L';exact⟨s',cw,h⟩
 |halt=>obtain⟨s',h⟩:=aaL I L hn hN wf hM ha hfin hp L';exact⟨s',cw,h⟩
 |over=>rw[zn ha hp];exact⟨s,cw,I⟩
end
section
structure LS where
 pc:Nat
 r0:Int
 r1:Int
 r2:Int
 r3:Int
 r4:Int
 r5:Int
 r6:Int
 r7:Int
 pv:Int->Int
def LS.get (s:LS):Nat->Int
 |0=>s.r0|1=>s.r1|2=>s.r2|3=>s.r3|4=>s.r4|5=>s.r5|6=>s.r6|7=>s.r7|_=>0
def LS.put (s:LS):Nat->Int->LS
 |0,v=>⟨s.pc+1,v,s.r1,s.r2,s.r3,s.r4,s.r5,s.r6,s.r7,s.pv⟩
 |1,v=>⟨s.pc+1,s.r0,v,s.r2,s.r3,s.r4,s.r5,s.r6,s.r7,s.pv⟩
 |2,v=>⟨s.pc+1,s.r0,s.r1,v,s.r3,s.r4,s.r5,s.r6,s.r7,s.pv⟩
 |3,v=>⟨s.pc+1,s.r0,s.r1,s.r2,v,s.r4,s.r5,s.r6,s.r7,s.pv⟩
 |4,v=>⟨s.pc+1,s.r0,s.r1,s.r2,s.r3,v,s.r5,s.r6,s.r7,s.pv⟩
 |5,v=>⟨s.pc+1,s.r0,s.r1,s.r2,s.r3,s.r4,v,s.r6,s.r7,s.pv⟩
 |6,v=>⟨s.pc+1,s.r0,s.r1,s.r2,s.r3,s.r4,s.r5,v,s.r7,s.pv⟩
 |7,v=>⟨s.pc+1,s.r0,s.r1,s.r2,s.r3,s.r4,s.r5,s.r6,v,s.pv⟩
 |_,_=>s
theorem aF (s:LS) (v:Int):s.put 0 v=⟨s.pc+1,v,s.r1,s.r2,s.r3,s.r4,s.r5,s.r6,s.r7,s.pv⟩:=rfl
theorem aJ (s:LS) (v:Int):s.put 1 v=⟨s.pc+1,s.r0,v,s.r2,s.r3,s.r4,s.r5,s.r6,s.r7,s.pv⟩:=rfl
theorem aC (s:LS) (v:Int):s.put 2 v=⟨s.pc+1,s.r0,s.r1,v,s.r3,s.r4,s.r5,s.r6,s.r7,s.pv⟩:=rfl
theorem aD (s:LS) (v:Int):s.put 3 v=⟨s.pc+1,s.r0,s.r1,s.r2,v,s.r4,s.r5,s.r6,s.r7,s.pv⟩:=rfl
theorem aA (s:LS) (v:Int):s.put 4 v=⟨s.pc+1,s.r0,s.r1,s.r2,s.r3,v,s.r5,s.r6,s.r7,s.pv⟩:=rfl
theorem aK (s:LS) (v:Int):s.put 5 v=⟨s.pc+1,s.r0,s.r1,s.r2,s.r3,s.r4,v,s.r6,s.r7,s.pv⟩:=rfl
theorem aM (s:LS) (v:Int):s.put 6 v=⟨s.pc+1,s.r0,s.r1,s.r2,s.r3,s.r4,s.r5,v,s.r7,s.pv⟩:=rfl
theorem aG (s:LS):s.get 0=s.r0:=rfl
theorem ax (s:LS):s.get 1=s.r1:=rfl
theorem ay (s:LS):s.get 2=s.r2:=rfl
theorem aH (s:LS):s.get 3=s.r3:=rfl
theorem aI (s:LS):s.get 4=s.r4:=rfl
theorem aL (s:LS):s.get 5=s.r5:=rfl
theorem aN (s:LS):s.get 6=s.r6:=rfl
theorem az (s:LS):s.get 7=s.r7:=rfl
def LS.at (s:LS) (q:Nat):LS:=⟨q,s.r0,s.r1,s.r2,s.r3,s.r4,s.r5,s.r6,s.r7,s.pv⟩
def zB (f:Int->Int) (a v:Int):Int->Int:=fun x=>if x=a then v else f x
theorem gP (f:Int->Int) (a v:Int):zB f a v a=v:=if_pos rfl
theorem bn (f:Int->Int) {a v x:Int} (h:x≠a):zB f a v x=f x:=if_neg h
def LS.aW (s:LS) (x v:Int):LS:=⟨s.pc+1,s.r0,s.r1,s.r2,s.r3,s.r4,s.r5,s.r6,s.r7,zB s.pv x v⟩
inductive WO (lo hi:Int):bR->LS->LS->Prop
 |set {c b d n:Int} {a:Nat} {s:LS}:a<8->WO lo hi ⟨1,c,a,b,d,n⟩ s (s.put a n)
 |move {c d n:Int} {a b:Nat} {s:LS}:a<8->b<8->WO lo hi ⟨2,c,a,b,d,n⟩ s (s.put a (s.get b))
 |oN {c d n v:Int} {a b:Nat} {s:LS}:a<8->b<8->gX c (s.get a) (s.get b)=some v->WO lo hi ⟨3,c,a,b,d,n⟩ s (s.put a v)
 |load {c d n x:Int} {a b:Nat} {s:LS}:a<8->b<8->fV (s.get b+n)=x->lo<=x->x<hi->WO lo hi ⟨4,c,a,b,d,n⟩ s (s.put a (s.pv x))
 |store {c d n x:Int} {a b:Nat} {s:LS}:a<8->b<8->fV (s.get a+n)=x->lo<=x->x<hi->WO lo hi ⟨5,c,a,b,d,n⟩ s (s.aW x (s.get b))
 |jump {c a b d:Int} {q:Nat} {s:LS}:WO lo hi ⟨6,c,a,b,d,(q:Int)⟩ s (s.at q)
 |zero {c b d:Int} {a q:Nat} {s:LS}:a<8->s.get a=0->WO lo hi ⟨7,c,a,b,d,(q:Int)⟩ s (s.at q)
 |more {c b d n:Int} {a:Nat} {s:LS}:a<8->s.get a≠0->WO lo hi ⟨7,c,a,b,d,n⟩ s (s.at (s.pc+1))
inductive eT (code:List bR) (lo hi:Int) (Q:LS->Prop):Nat->LS->Prop
 |here {k:Nat} {s:LS}:Q s->eT code lo hi Q k s
 |step {k:Nat} {s s':LS} {o:bR}:code[s.pc]? =some o->WO lo hi o s s'->eT code lo hi Q k s'->eT code lo hi Q (k+1) s
variable {code:List bR} {lo hi:Int} {Q R:LS->Prop} {k j:Nat} {s s':LS}
theorem eT.le (h:eT code lo hi Q k s):∀{j:Nat},k<=j->eT code lo hi Q j s:=by
 induction h with
 |here hq=>intro j _;exact .here hq
 |step hc hl _ ih=>
  intro j hj;obtain⟨i,rfl⟩:∃i,j=i+1:=⟨j - 1,by omega⟩;exact .step hc hl (ih (by omega))
theorem eT.mono (h:eT code lo hi Q k s) (hq:∀s,Q s->R s):eT code lo hi R k s:=by
 induction h with
 |here h=>exact .here (hq _ h)
 |step hc hl _ ih=>exact .step hc hl ih
def Seg (code:List bR) (p:Nat) (l:List bR):Prop:=∀(i:Nat) (o:bR),l[i]? =some o->code[p+i]? =some o
theorem Seg.left {p:Nat} {l m:List bR} (h:Seg code p (l++m)):Seg code p l:=fun i o ho=>h i o (by rw[List.getElem?_append_left (bu.1 ho).1];exact ho)
theorem Seg.right {p:Nat} {l m:List bR} (h:Seg code p (l++m)) {n:Nat} (hn:l.length=n):Seg code (p+n) m:=fun i o ho=>by
 rw[Nat.add_assoc];exact h (n+i) o (by rw[List.getElem?_append_right (by omega),hn,Nat.add_sub_cancel_left];exact ho)
theorem Seg.self (l:List bR):Seg l 0 l:=fun i o ho=>by rw[Nat.zero_add];exact ho
def MT.ls (lo hi:Int) (m:MM) (t:MT):LS:=⟨t.at_.toNat,t.reg 0,t.reg 1,t.reg 2,t.reg 3,t.reg 4,t.reg 5,t.reg 6,t.reg 7,fun a=>if lo<=a/\a<hi then m.found t a else 0⟩
theorem gL (q:List (Int×Int)) (x v a:Int):ku (q++[(x,v)]) a=if a=x then some v else ku q a:=by
 unfold ku;rw[List.reverse_append,List.reverse_singleton,List.singleton_append,List.find?_cons];by_cases h:a=x
 ·subst h;simp
 ·rw[if_neg h];have:((x,v).1==a)=false:=by simp;exact fun e=>h e.symm
  rw[this]
theorem eight {P:Nat->Prop} (h0:P 0) (h1:P 1) (h2:P 2) (h3:P 3) (h4:P 4) (h5:P 5) (h6:P 6) (h7:P 7):∀a,a<8->P a:=by
 intro a ha;have:a=0\/a=1\/a=2\/a=3\/a=4\/a=5\/a=6\/a=7:=by omega
 rcases this with rfl|rfl|rfl|rfl|rfl|rfl|rfl|rfl<;>assumption
theorem Ue {m:MM} {t:MT}:∀a,a<8->(t.ls lo hi m).get a=t.reg a:=eight rfl rfl rfl rfl rfl rfl rfl rfl
theorem Kw {m:MM} {t:MT} {a:Nat} (h:a<8):t.r (a:Int)=(t.ls lo hi m).get a:=by rw[Ue a h];rfl
theorem sw {m m':MM} {t:MT} (h0:0<=t.at_) (hm:m'.mem=m.mem) (v:Int):∀a:Nat,a<8->(t.goes (a:Int) v).ls lo hi m'=(t.ls lo hi m).put a v:=by
 have hpc:(t.at_+1).toNat=t.at_.toNat+1:=by omega
 have hf:∀(a:Nat) x,m'.found (t.goes (a:Int) v) x=m.found t x:=fun a x=>by unfold MM.found MM.at;rw[hm];rfl
 apply eight<;>(simp only[MT.ls,hf];simp only[MT.goes,LS.put,hpc];simp[bS])
structure Kept (t t':MT):Prop where
 code:t'.code=t.code
 out:t'.out=t.out
 fin:t'.fin=t.fin
theorem TB {m:MM} {n:Nat} {t:MT} {o:bR} (h0:0<=t.at_) (hlo:0<=lo) (hhi:hi<=m.mem.length) (hc:t.code[t.at_.toNat]? =some o) (hl:WO lo hi o (t.ls lo hi m) s'):
  (m.go n t=(false,m)/\64<=t.wait.length)\/∃t',m.go n t=(true,m.put n t')/\t'.ls lo hi (m.put n t')=s'/\0<=t'.at_/\Kept t t'/\(t'.wait=t.wait\/∃x v,lo<=x/\x<hi/\t'.wait=t.wait++[(x,v)]):=by
 have hcode:(if t.at_<0 then none else t.code[t.at_.toNat]?)=some o:=by rw[if_neg (by omega)];exact hc
 have hpc:(t.at_+1).toNat=t.at_.toNat+1:=by omega
 unfold MM.go;rw[hcode];simp only;cases hl with
 |@set c b d n a _ ha=>
  right
  refine⟨t.goes _ _,?_,sw h0 rfl _ a ha,by simp only[MT.goes];omega,⟨rfl,rfl,rfl⟩,.inl rfl⟩;simp[MT.word,MT.waits,MM.act]
 |@move c d n a b _ ha hb=>
  right
  refine⟨t.goes _ _,?_,sw h0 rfl _ a ha,by simp only[MT.goes];omega,⟨rfl,rfl,rfl⟩,.inl rfl⟩;rw[<-Kw hb];simp[MT.word,MT.waits,MM.act]
 |@oN c d n v a b _ ha hb hv=>
  right
  refine⟨t.goes _ v,?_,sw h0 rfl _ a ha,by simp only[MT.goes];omega,⟨rfl,rfl,rfl⟩,.inl rfl⟩;rw[<-Kw ha,<-Kw hb] at hv;simp[MT.word,MT.waits,MM.act,hv]
 |@load c d n x a b _ ha hb hx h1 h2=>
  right
  have hhas:m.has x=true:=by simp only[MM.has,decide_eq_true_eq];omega
  rw[<-Kw hb] at hx;have hpv:(t.ls lo hi m).pv x=m.found t x:=if_pos ⟨h1,h2⟩;refine⟨t.goes _ (m.found t x),?_,by rw[hpv];exact sw h0 rfl _ a ha,by simp only[MT.goes];omega,⟨rfl,rfl,rfl⟩,.inl rfl⟩;simp[MT.word,MT.waits,MM.act,hx,hhas]
 |@store c d n x a b _ ha hb hx h1 h2=>
  have hhas:m.has x=true:=by simp only[MM.has,decide_eq_true_eq];omega
  rw[<-Kw ha] at hx;by_cases hf:64<=t.wait.length
  ·left
   refine⟨?_,hf⟩;simp[MT.word,MT.waits,hx,hhas,hf]
  ·right
   refine⟨{t.next with wait:=t.wait++[(x,t.r b)]},?_,?_,by simp only[MT.next];omega,⟨rfl,rfl,rfl⟩,.inr ⟨x,_,h1,h2,rfl⟩⟩
   ·simp[MT.word,MT.waits,MM.act,hx,hhas,hf]
   ·rw[<-Kw hb];simp only[MT.ls,MT.next,hpc,LS.aW];congr 1
    funext y
    simp only[zB];unfold MM.found;simp only[gL];by_cases hy:y=x
    ·subst hy;rw[if_pos ⟨h1,h2⟩,if_pos rfl,if_pos rfl];rfl
    ·rw[if_neg hy,if_neg hy];rfl
 |@jump c a b d q=>
  right
  refine⟨{t with at_:=(q:Int)},?_,rfl,by simp,⟨rfl,rfl,rfl⟩,.inl rfl⟩;simp[MT.word,MT.waits,MM.act]
 |@zero c b d a q _ ha hz=>
  right
  rw[<-Kw ha] at hz;refine⟨{t with at_:=(q:Int)},?_,rfl,by simp,⟨rfl,rfl,rfl⟩,.inl rfl⟩;simp[MT.word,MT.waits,MM.act,hz]
 |@more c b d n a _ ha hz=>
  right
  rw[<-Kw ha] at hz;refine⟨{t with at_:=t.at_+1},?_,?_,by simp only;omega,⟨rfl,rfl,rfl⟩,.inl rfl⟩
  ·simp[MT.word,MT.waits,MM.act,hz]
  ·simp only[MT.ls,hpc];rfl
end
theorem Iu {P:Program} (w:World) (t ty:TypeId) (base:Nat) (e:TypeId) (i:TypeInfo) (z:Value) (size bytes:Nat) (ht:P.underlying t=some (.slice e)) (hi:P.info? e=some i) (hz:i.zero=some z)
  (hsize:i.size=size) (hby:i.bytes=bytes) (hzs:z.cells.size=size) (hsz:0<size)
  (v:Value) (n:Nat) (xs:List Value) (hown:w.ownsRow base e size v n xs)
  (ad:Addr) (m c:Nat) (hm:0<m) (news:List Value) (hl:news.length=m*size) (hnews:∀j u,news[j]? =some u->w.cell? (ad.add j)=some u) (h1:∀u∈news,u.oneCell'=true)
  (h63:n+m<=maxLen) (hbytes:(n+m)*bytes<=140737488355328) (hbase:base<=w.heap.size):
  ∃ao cp w',(Builtin.append_ #[t,t] ty #[v,.slice (some ad) m c]).run P w= .ok (.slice ao (n+m) cp) w'/\w'.ownsRow base e size (.slice ao (n+m) cp) (n+m) (xs++news)/\
   (∀g,(Value.slice ao (n+m) cp).ownBlock=some g->v.ownBlock=some g\/w.heap.size<=g)/\w.grownBy w' v.ownBlock:=by
 rcases hown.2 with⟨rfl,rfl⟩|⟨g,cap,cur,rfl,hbg,hg,hnc,hcm,hcs,htake⟩
 ·obtain rfl:xs=[]:=List.eq_nil_of_length_eq_zero (by simpa using hown.1);obtain⟨v',w',hrun,r1,r2,_⟩:=run_append_own (P:=P) w w.heap.size t ty e i z size bytes ht hi hz hsize hby hzs hsz (.slice none 0 0) 0 [] (World.ownsRow_nil w _ e size) ad m c news hl hnews h1 h63 hbytes (aB _);obtain⟨ao,cp,rfl⟩:=aS r1;have r1':=r1;rcases r1.2 with⟨hv,h0⟩|⟨g',cap',cur',hv,_⟩
  ·omega
  ·simp only[Value.slice.injEq] at hv;obtain⟨rfl, -,rfl⟩:=hv;rw[Nat.zero_add] at*;exact⟨_,_,w',hrun,bY r1' hbase,fun g hg=>.inr (r1'.lt g hg).1,yJ r2⟩
 ·by_cases hroom:n+m<=cap
  ·obtain⟨w',hrun,r1,r2⟩:=run_append_fits (P:=P) w base t ty e i size ht hi hsize g n cap xs hown ad m c news hl hnews h1 hroom;exact⟨_,_,w',hrun,r1,fun g' hg'=>.inl hg',r2⟩
  ·obtain⟨v',w',hrun,r1,r2⟩:=run_append_arg_grows (P:=P) w t ty e i z size bytes ht hi hz hsize hby hzs hsz ⟨g,0,none⟩ n cap xs hown.1 (hown.cells (g:=g) rfl) ad m c news hl hnews (by omega) h63 hbytes;obtain⟨ao,cp,rfl⟩:=aS r1;rcases r1.2 with⟨hv,h0⟩|⟨g',cap',cur',hv,_⟩
   ·omega
   ·simp only[Value.slice.injEq] at hv;obtain⟨rfl, -,rfl⟩:=hv;exact⟨_,_,w',hrun,bY r1 hbase,fun g hg=>.inr (r1.lt g hg).1,yJ r2⟩
theorem ji {P:Program} {ops:Array Oper} {o:Oper} {a:Act} {w:World} {K:Act->World->Prop} {Q:Exit->Act->World->Prop} {E:Prop}
  (hg:o.guard=none) (s x:Operand) (t:TypeId) (hop:o.op=Op.call {callee:=Callee.builtin Builtin.append,args:=#[s,x],argTypes:=#[t,t]})
  (base:Nat) (e:TypeId) (i:TypeInfo) (z:Value) (size bytes:Nat) (ht:P.underlying t=some (.slice e)) (hi:P.info? e=some i) (hz:i.zero=some z)
  (hsize:i.size=size) (hby:i.bytes=bytes) (hzs:z.cells.size=size) (hsz:0<size)
  (v:Value) (n:Nat) (xs:List Value) (hs:a.eval s=v) (hown:w.ownsRow base e size v n xs)
  (ad:Addr) (m c:Nat) (hm:0<m) (news:List Value) (hx:a.eval x= .slice (some ad) m c) (hl:news.length=m*size) (hnews:∀j u,news[j]? =some u->w.cell? (ad.add j)=some u) (h1:∀u∈news,u.oneCell'=true)
  (h63:n+m<=maxLen) (hbytes:(n+m)*bytes<=140737488355328) (hbase:base<=w.heap.size)
  (hK:∀ao cp w',w'.ownsRow base e size (.slice ao (n+m) cp) (n+m) (xs++news)->(∀g,(Value.slice ao (n+m) cp).ownBlock=some g->v.ownBlock=some g\/w.heap.size<=g)->w.grownBy w' v.ownBlock->K (a.put o.dst (.slice ao (n+m) cp)) w'):
  if Region.wanted o (yielded ops a.tmps)=true then Oper.wp P o a w K Q else E:=by
 have hw:Region.wanted o (yielded ops a.tmps)=true:=by simp[Region.wanted,hg]
 rw[if_pos hw];obtain⟨ao,cp,w',hrun,r1,r2,r3⟩:=Iu (P:=P) w t o.type base e i z size bytes ht hi hz hsize hby hzs hsz v n xs hown ad m c hm news hl hnews h1 h63 hbytes hbase;unfold Oper.wp;simp[execOp,hop,resolve,invoke,builtin,hs,hx,hrun,Result.andThen];exact hK ao cp w' r1 r2 r3
end Go.Proofs.YtopdcjimpdalpaaGreat

import Derived.Test.YtopdcjimpdalpaaGreatQ07
import Derived.Test.YtopdcjimpdalpaaGreatQ08
import Derived.Deep.RegionLawGrows
import Derived.BigRegion
namespace Go.Proofs.YtopdcjimpdalpaaGreat
open Go.RowKit
set_option linter.all false
set_option maxHeartbeats 1000000
section
variable {N n k M:Nat} {words C C':Int} {m m':AS} {a a':aO} {b:bV} {rs:List (List Tx)} {l:List Tx} {x v:Int} {s s':HS} {cw:List bV}
def Keys (a:aO) (x:Int):Prop:=∃c∈a.log,c.1=x
structure qX (a:aO) (b:bV):Prop where
 bX:b.clock=a.bX
 log:oI b.done a.log
 rd:∀x,GY b.done x->a.reads.testBit (aV x)=true
theorem qX.writes (h:qX a b) (x:Int):lK b x↔Keys a x:=by
 constructor
 ·rintro⟨e,he,h1,rfl⟩;exact h.log.keys e he h1
 ·rintro⟨c,hc,rfl⟩;obtain⟨e,he,h1,h2⟩:=h.log.evs c hc;exact⟨e,he,h1,h2⟩
theorem qX.wN (h:qX a b) (hn:¬Keys a x) (f:Int->Int):Go.Proofs.YtopdcjimpdalpaaGreat.wN b.done f x=f x:=by
 rw[h.log.wN,sV (fun c hc q=>hn ⟨c,hc,q⟩)]
theorem qX.Qm (h:qX a b) (e:Mv a a'):qX a' b:=⟨by rw[e.bX];exact h.bX,by rw[e.log];exact h.log,by rw[e.reads];exact h.rd⟩
def Vd (N:Nat) (m:AS) (cw:List bV) (n:Nat) (a:aO) (x:Int):Prop:=
 (∀c∈cw,lK c x->c.place<a.new->c.place<=a.bX)/\∀k,k<N->k≠n->(m.aM k).pt.pend=true->(m.aM k).new<a.new->¬Keys (m.aM k) x
def kH (N:Nat) (m:AS) (cw:List bV) (n:Nat) (a:aO) (b:bV):Prop:=match a.pt with
 |.Bz=>¬Keys a a.x
 |.dat=>¬Keys a a.x/\a.l1/2<=fv m (aV a.x)/\(a.l1/2=fv m (aV a.x)->∀k,k<N->k≠n->gZ a.x (m.aM k).owed=none)
 |.ym=>¬Keys a a.x/\a.l1/2<=fv m (aV a.x)/\(a.l1/2=fv m (aV a.x)->a.v=CA cw a.x)
 |.rd=>wN b.done (CP cw a.bX) a.x=a.v/\(Keys a a.x\/a.reads.testBit (aV a.x)=true/\∀k,k<N->(m.aM k).pt.pend=true->(m.aM k).new<=a.bX->¬Keys (m.aM k) a.x)
 |.Bc=>∀x,GY b.done x->aV x<a.s->Vd N m cw n a x
 |.BM=>∀x,GY b.done x->Vd N m cw n a x
 |_=>True
def Behind (p:Int) (b:bV):Prop:=p<=b.clock\/b.kind=1/\b.writer=true/\p<b.place
structure dP (N:Nat) (words:Int) (M:Nat) (m:AS) (s:HS) (cw:List bV):Prop where
 eu:eY m.evs s cw m.clock M
 live:∀n,n<N->(m.aM n).fin=0->s.ended n=false
 idle:∀n,n<N->(m.aM n).pt.oQ=false->s.opn n=none
 busy:∀n,n<N->(m.aM n).pt.oQ=true->∃j b,s.opn n=some j/\s.bu[j]? =some b/\qX (m.aM n) b/\kH N m cw n (m.aM n) b
 TL:∀x,1<=x->x<=words->(∀n,n<N->gZ x (m.aM n).owed=none)->m.data x=CA cw x
 Pg:∀n,n<N->∀x v,gZ x (m.aM n).owed=some v->v=CA cw x
 M6:∀c∈cw,∀x,lK c x->c.place<=fv m (aV x)
 YK:∀n,n<N->(m.aM n).pt.pend=true->(∀c∈cw,c.place≠(m.aM n).new)/\∀k,k<N->k≠n->(m.aM k).pt.pend=true->(m.aM k).new≠(m.aM n).new
 snap:∀n,n<N->(m.aM n).pt.pend=true->∀b∈s.bu,Behind (m.aM n).new b->∀y,GY b.done y->¬Keys (m.aM n) y
theorem vP.He (h:vP words C a) (hp:a.pt.pend=true):a.bX<a.new/\a.new<=C:=by
 have h1:=h.new;cases hq:a.pt<;>rw[hq] at hp h1<;>first|(simp[Pt.pend] at hp;done)|exact h1
theorem vP.ES (h:vP words C a) (hp:a.pt.pend=true) {x:Int} (hx:Keys a x):a.held (aV x)=true:=by
 have h1:=h.held;obtain⟨c,hc,rfl⟩:=hx;cases hq:a.pt<;>rw[hq] at hp h1<;>first|(simp[Pt.pend] at hp;done)|(rw[h1];exact qh.2 ⟨c,hc,rfl⟩)
structure Env (n:Nat) (m m':AS):Prop where
 fv:∀s,s<16->Go.Proofs.YtopdcjimpdalpaaGreat.fv m' s=Go.Proofs.YtopdcjimpdalpaaGreat.fv m s
 mZ:∀k,k≠n->m'.aM k=m.aM k
 bX:m.clock<=m'.clock
 owed:∀x,gZ x (m'.aM n).owed=gZ x (m.aM n).owed
 pend:(m'.aM n).pt.pend=true->((m.aM n).pt.pend=true/\(m'.aM n).new=(m.aM n).new/\(m'.aM n).log=(m.aM n).log)\/(m'.aM n).new=m.clock+1
theorem Env.none (E:Env n m m') (k:Nat) (x:Int):gZ x (m'.aM k).owed=gZ x (m.aM k).owed:=by
 by_cases e:k=n
 ·subst e;exact E.owed x
 ·rw[E.mZ k e]
theorem Env.Jf (E:Env n m m') {k:Nat} (h:(m'.aM k).pt.pend=true):((m.aM k).pt.pend=true/\(m'.aM k).new=(m.aM k).new/\(m'.aM k).log=(m.aM k).log)\/k=n/\(m'.aM k).new=m.clock+1:=by
 by_cases e:k=n
 ·subst e;rcases E.pend h with q|q
  ·exact .inl q
  ·exact .inr ⟨rfl,q⟩
 ·rw[E.mZ k e] at h⊢;exact .inl ⟨h,rfl,rfl⟩
theorem yX (h:a'.log=a.log):Keys a' x↔Keys a x:=by unfold Keys;rw[h]
theorem kH.env (E:Env n m m') (hA:vP words m.clock a) (h:kH N m cw k a b):kH N m' cw k a b:=by
 unfold kH at h⊢;have hnew:=hA.new;have hvd:∀x,a.new<=m.clock->Vd N m cw k a x->Vd N m' cw k a x:=fun x hle hv=>⟨hv.1,fun i hi hik hp hlt=>by
  rcases E.Jf hp with⟨q1,q2,q3⟩|⟨-,q⟩
  ·rw[q2] at hlt;rw[yX q3];exact hv.2 i hi hik q1 hlt
  ·omega⟩
 cases hp:a.pt<;>rw[hp] at h hnew<;>simp only at h hnew⊢
 ·refine⟨h.1,h.2.imp id (fun⟨q1,q2⟩=>⟨q1,fun i hi hp hle=>?_⟩)⟩;rcases E.Jf hp with⟨r1,r2,r3⟩|⟨-,q⟩
  ·rw[r2] at hle;rw[yX r3];exact q2 i hi r1 hle
  ·have:=hA.bX.2;omega
 ·exact h
 ·rw[E.fv _ (bO _)];exact⟨h.1,h.2.1,fun q i hi hik=>by rw[E.none];exact h.2.2 q i hi hik⟩
 ·rw[E.fv _ (bO _)];exact h
 ·exact fun x hx hs=>hvd x hnew.2 (h x hx hs)
 ·exact fun x hx=>hvd x hnew.2 (h x hx)
theorem dP.turn (I:dP N words M m s cw) (L:bS N words m) (E:Env n m m') (hn:n<N) (hd:m'.data=m.data) (eu:eY m'.evs s' cw m'.clock M)
  (hend:∀k,k≠n->s'.ended k=s.ended k) (hop:∀k,k≠n->s'.opn k=s.opn k) (hat:∀k j,k≠n->s.opn k=some j->s'.bu[j]? =s.bu[j]?)
  (live:(m'.aM n).fin=0->s'.ended n=false) (idle:(m'.aM n).pt.oQ=false->s'.opn n=none)
  (busy:(m'.aM n).pt.oQ=true->∃j b,s'.opn n=some j/\s'.bu[j]? =some b/\qX (m'.aM n) b/\kH N m' cw n (m'.aM n) b)
  (XY:∀b∈s'.bu,b∈s.bu\/∀k,k<N->(m'.aM k).pt.pend=true->Behind (m'.aM k).new b->∀y,GY b.done y->¬Keys (m'.aM k) y):dP N words M m' s' cw:=by
 have hle:=I.eu.Xn;refine⟨eu,fun k hk hf=>?_,fun k hk hp=>?_,fun k hk hp=>?_,fun x h1 h2 h3=>?_,fun k hk x v hv=>?_,fun c hc x hx=>?_,fun k hk hp=>?_,fun k hk hp b hb hz y hy=>?_⟩
 ·by_cases e:k=n
  ·subst e;exact live hf
  ·rw[hend k e];rw[E.mZ k e] at hf;exact I.live k hk hf
 ·by_cases e:k=n
  ·subst e;exact idle hp
  ·rw[hop k e];rw[E.mZ k e] at hp;exact I.idle k hk hp
 ·by_cases e:k=n
  ·subst e;exact busy hp
  ·rw[E.mZ k e] at hp⊢;obtain⟨j,b,q1,q2,q3,q4⟩:=I.busy k hk hp;exact⟨j,b,by rw[hop k e];exact q1,by rw[hat k j e q1];exact q2,q3,q4.env E (L.th k hk)⟩
 ·rw[hd];exact I.TL x h1 h2 (fun k hk=>by rw[<-E.none];exact h3 k hk)
 ·rw[E.none] at hv;exact I.Pg k hk x v hv
 ·rw[E.fv _ (bO _)];exact I.M6 c hc x hx
 ·rcases E.Jf hp with⟨q1,q2,q3⟩|⟨rfl,q⟩
  ·refine⟨fun c hc=>by rw[q2];exact(I.YK k hk q1).1 c hc,fun i hi hik hpi=>?_⟩;rcases E.Jf hpi with⟨r1,r2,r3⟩|⟨-,r⟩
   ·rw[q2,r2];exact(I.YK k hk q1).2 i hi hik r1
   ·rw[q2,r];have:=((L.th k hk).He q1).2;omega
  ·refine⟨fun c hc=>by have:=hle c hc;omega,fun i hi hik hpi=>?_⟩;rw[E.mZ i hik] at hpi⊢;have:=((L.th i hi).He hpi).2;omega
 ·rcases XY b hb with hb1|hb1
  ·rcases E.Jf hp with⟨q1,q2,q3⟩|⟨rfl,q⟩
   ·rw[q2] at hz;rw[yX q3];exact I.snap k hk q1 b hb1 hz y hy
   ·exfalso;have ok:=I.eu.oQ b hb1;rcases hz with hz|⟨h1,h2,h3⟩
    ·have:=ok.clock1;omega
    ·have:=(ok.writer h1 h2).2.1;omega
  ·exact hb1 k hk hp hz y hy
theorem kH.bL (h:qX a b):kH N m cw n (a.bL l) b:=by
 unfold aO.bL;cases l[a.op]? with
 |none=>
  simp only;by_cases he:a.log=[]
  ·rw[if_pos he];trivial
  ·rw[if_neg he];unfold aO.cu;split<;>trivial
 |some o=>
  simp only;by_cases hk:o.kind=2
  ·rw[if_pos hk];cases hp:a.log[place a.log o.at_]? with
   |some c=>
    have hc:=ow hp;refine⟨?_,.inl ⟨c,hc.1,hc.2⟩⟩;show wN b.done _ o.at_=c.2;rw[h.log.wN];unfold look;rw[hp]
   |none=>
    show ¬Keys _ _;rintro⟨c,hc,q⟩;exact t_ hp c hc q
  ·rw[if_neg hk];split<;>trivial
theorem qf (a:aO) (l:List Tx):(a.bL l).pt.pend=false/\(a.bL l).pt.oQ=true/\(a.bL l).pt≠ .wb:=by
 unfold aO.bL aO.cu
 repeat' split
 all_goals exact⟨rfl,rfl,fun q=>by cases q⟩
theorem o_ (a:aO) (i:Nat):(a.bJ i).pt.pend=false/\(a.bJ i).pt.oQ=true/\(a.bJ i).pt≠ .wb/\(a.bJ i).pt.dn=false/\kH N m cw n (a.bJ i) b:=by
 unfold aO.bJ;split<;>exact⟨rfl,rfl,fun q=>(by cases q),rfl,trivial⟩
theorem zT (a:aO) (i:Nat):(a.cu i).pt.pend=false/\(a.cu i).pt.oQ=true/\(a.cu i).pt≠ .wb/\(a.cu i).pt.dn=false/\kH N m cw n (a.cu i) b:=by
 unfold aO.cu;split<;>exact⟨rfl,rfl,fun q=>(by cases q),rfl,trivial⟩
theorem yK (a:aO) (i:Nat):(a.cz i).pt.pend=true/\(a.cz i).pt.oQ=true/\(a.cz i).pt≠ .wb/\(a.cz i).pt.dn=false:=by
 unfold aO.cz;split<;>exact⟨rfl,rfl,fun q=>(by cases q),rfl⟩
theorem Ia (a:aO) (i:Nat):(a.dV i).pt.pend=false/\(a.dV i).pt.oQ=false/\(a.dV i).pt≠ .wb:=by
 unfold aO.dV;split<;>exact⟨rfl,rfl,fun q=>by cases q⟩
theorem Iz (a:aO) (rs:List (List Tx)):(a.fu rs).pt.pend=false/\(a.fu rs).pt.oQ=false/\(a.fu rs).pt≠ .wb:=by
 unfold aO.fu;split<;>exact⟨rfl,rfl,fun q=>by cases q⟩
theorem wI (h:bS N words m) (h':bS N words m') (hn:n<N) (hoth:∀k,k≠n->m'.aM k=m.aM k) (hl:m'.aN=m.aN) (hb:(m'.aM n).buf=(m.aM n).buf) (hh:∀k,(m.aM n).held k=false):∀s,s<16->fv m' s=fv m s:=
 wK h h' hn hoth hl (fun s v q=>by rw[hb];exact q) (fun s _ q=>by rw[hh s] at q;cases q)
theorem Bw (h:bS N words m) (h':bS N words m') (hn:n<N) (hoth:∀k,k≠n->m'.aM k=m.aM k) (hl:m'.aN=m.aN) (hb:(m'.aM n).buf=(m.aM n).buf) (hh:(m'.aM n).held=(m.aM n).held) (ho:(m'.aM n).old=(m.aM n).old) (h1:(m.aM n).pt.dn=false) (h2:(m'.aM n).pt.dn=false):∀s,s<16->fv m' s=fv m s:=
 wK h h' hn hoth hl (fun s v q=>by rw[hb];exact q) (fun s _ q=>.inl ⟨by rw[hh];exact q,by simp[aO.says,h1,h2,ho]⟩)
end
section
variable {N n k M:Nat} {words C C':Int} {m m':AS} {a a':aO} {b:bV} {rs:List (List Tx)} {l:List Tx} {x v:Int} {s s':HS} {cw:List bV}
theorem yI (m:AS) (n:Nat) (a:aO):(m.set n a).aM n=a:=by simp[AS.set,bN]
theorem Nk (m:AS) (n:Nat) (a:aO) (k:Nat) (h:k≠n):(m.set n a).aM k=m.aM k:=by simp[AS.set,bN,h]
theorem dP.quiet (I:dP N words M m s cw) (L:bS N words m) (hn:n<N) {a a':aO} (ha:m.aM n=a) {C':Int} (hC:m.clock<=C') (eu:eY m.evs s cw C' M)
  (QA:∀i,i<16->fv {m with clock:=C',aM:=upd m.aM n a'} i=fv m i) (how:∀x,gZ x a'.owed=gZ x a.owed) (Xb:a'.pt.pend=true->(a.pt.pend=true/\a'.new=a.new/\a'.log=a.log)\/a'.new=m.clock+1)
  (zP:a'.pt.oQ=a.pt.oQ) (hf:a'.fin=a.fin)
  (busy:∀j b,s.opn n=some j->s.bu[j]? =some b->qX a b->kH N m cw n a b->(Env n m {m with clock:=C',aM:=upd m.aM n a'})->qX a' b/\kH N {m with clock:=C',aM:=upd m.aM n a'} cw n a' b):
  dP N words M {m with clock:=C',aM:=upd m.aM n a'} s cw:=by
 have hth:∀k,({m with clock:=C',aM:=upd m.aM n a'}:AS).aM k=if k=n then a' else m.aM k:=fun k=>rfl
 have hnn:({m with clock:=C',aM:=upd m.aM n a'}:AS).aM n=a':=by rw[hth,if_pos rfl]
 have E:Env n m {m with clock:=C',aM:=upd m.aM n a'}:=⟨QA,fun k hk=>by rw[hth,if_neg hk],hC,fun x=>by rw[hnn,ha];exact how x,fun q=>by rw[hnn] at q⊢;rw[ha];exact Xb q⟩;refine I.turn L E hn rfl eu (fun _ _=>rfl) (fun _ _=>rfl) (fun _ _ _ _=>rfl) (fun q=>?_) (fun q=>?_) (fun q=>?_) (fun b hb=>.inl hb)
 ·rw[hnn,hf] at q;exact I.live n hn (by rw[ha];exact q)
 ·rw[hnn,zP] at q;exact I.idle n hn (by rw[ha];exact q)
 ·rw[hnn,zP] at q;obtain⟨j,b,q1,q2,q3,q4⟩:=I.busy n hn (by rw[ha];exact q);rw[ha] at q3 q4;obtain⟨r1,r2⟩:=busy j b q1 q2 q3 q4 E;exact⟨j,b,q1,q2,by rw[hnn];exact r1,by rw[hnn];exact r2⟩
theorem aci (m:AS) (n:Nat) (a:aO):m.set n a={m with clock:=m.clock,aM:=upd m.aM n a}:=rfl
theorem dP.still (I:dP N words M m s cw) (L:bS N words m) (hn:n<N) {a a':aO} (ha:m.aM n=a) (QA:∀i,i<16->fv (m.set n a') i=fv m i) (how:∀x,gZ x a'.owed=gZ x a.owed) (Xb:a'.pt.pend=true->(a.pt.pend=true/\a'.new=a.new/\a'.log=a.log)\/a'.new=m.clock+1)
  (zP:a'.pt.oQ=a.pt.oQ) (hf:a'.fin=a.fin) (busy:∀b,qX a b->kH N m cw n a b->Env n m (m.set n a')->qX a' b/\kH N (m.set n a') cw n a' b):dP N words M (m.set n a') s cw:=by
 rw[aci] at QA busy⊢;exact I.quiet L hn ha (Int.le_refl _) I.eu QA how Xb zP hf (fun j b _ _ h1 h2 h3=>busy b h1 h2 h3)
theorem dP.finds (I:dP N words M m s cw) (hn:n<N) (hw:(m.aM n).pt≠ .wb) (hx:1<=x/\x<=words) (ho:∀k,k<N->k≠n->gZ x (m.aM k).owed=none):sU (m.aM n).buf m.data x=CA cw x:=by
 rw[Qp];have e:=eP hw;cases hl:gZ x (m.aM n).buf with
 |some v=>exact I.Pg n hn x v (by rw[e];exact hl)
 |none=>
  refine I.TL x hx.1 hx.2 (fun k hk=>?_);by_cases q:k=n
  ·subst q;rw[e];exact hl
  ·exact ho k hk q
section
theorem ZY (I:dP N words M m s cw) (L:bS N words m) (hn:n<N) (wf:∀l∈rs,∀o∈l,1<=o.at_/\o.at_<=words) (ha:m.aM n=a) (hfin:a.fin=0) (hp:a.pt= .Bz) (L':bS N words (m.act rs n)):dP N words M (m.act rs n) s cw:=by
 have HA:=L.th n hn;rw[ha] at HA;have hh:=HA.held;rw[hp] at hh;simp only at hh;rw[uo ha hp] at L'⊢;have hs:=bO a.x;have e0:a.owed=a.buf:=eP (by rw[hp];intro q;cases q);split at L'
 ·rename_i hc;rw[if_pos hc];exact I.still L hn ha (wI L L' hn (fun k hk=>Nk _ _ _ _ hk) rfl (by rw[yI,ha]) (by rw[ha];exact hh)) (fun x=>by rw[e0];rfl) (fun q=>by cases q) (by rw[hp];rfl) rfl (fun b h1 h2 E=>⟨⟨h1.bX,h1.log,h1.rd⟩,trivial⟩)
 ·rename_i hc;rw[if_neg hc];simp only[not_or,Classical.not_not,Int.not_lt] at hc;obtain⟨f1,f2⟩:=L.seen hn hs (by rw[ha];exact hh _) (by rw[ha];exact hc.1);rw[ha] at f1;refine I.still L hn ha (wI L L' hn (fun k hk=>Nk _ _ _ _ hk) rfl (by rw[yI,ha]) (by rw[ha];exact hh)) (fun x=>by rw[e0];rfl) (fun q=>by cases q) (by rw[hp];rfl) rfl (fun b h1 h2 E=>⟨⟨h1.bX,h1.log,h1.rd⟩,?_⟩);unfold kH at h2;rw[hp] at h2;refine⟨h2,?_,fun _ k hk hkn=>?_⟩
  ·rw[E.fv _ hs];show dh a.buf m.aN (aV a.x)/2<=fv m (aV a.x);rw[f1];exact Int.le_refl _
  ·rw[E.none];apply Classical.byContradiction;intro q;exact f2 k hk hkn (L.owes hk q).2
theorem ZE (I:dP N words M m s cw) (L:bS N words m) (hn:n<N) (wf:∀l∈rs,∀o∈l,1<=o.at_/\o.at_<=words) (ha:m.aM n=a) (hfin:a.fin=0) (hp:a.pt= .dat) (L':bS N words (m.act rs n)):dP N words M (m.act rs n) s cw:=by
 have HA:=L.th n hn;rw[ha] at HA;have hh:=HA.held;have hx:=HA.x;rw[hp] at hh hx;simp only at hh hx;rw[uy ha hp] at L'⊢;have hs:=bO a.x;have e0:a.owed=a.buf:=eP (by rw[hp];intro q;cases q);refine I.still L hn ha (wI L L' hn (fun k hk=>Nk _ _ _ _ hk) rfl (by rw[yI,ha]) (by rw[ha];exact hh)) (fun x=>by rw[e0];rfl) (fun q=>by cases q) (by rw[hp];rfl) rfl (fun b h1 h2 E=>⟨⟨h1.bX,h1.log,h1.rd⟩,?_⟩);unfold kH at h2;rw[hp] at h2;refine⟨h2.1,?_,fun q=>?_⟩
 ·rw[E.fv _ hs];exact h2.2.1
 ·rw[E.fv _ hs] at q;have:=I.finds hn (by rw[ha,hp];intro q;cases q) hx (h2.2.2 q);rw[ha] at this;exact this
theorem ZH (I:dP N words M m s cw) (L:bS N words m) (hn:n<N) (wf:∀l∈rs,∀o∈l,1<=o.at_/\o.at_<=words) (ha:m.aM n=a) (hfin:a.fin=0) (hp:a.pt= .ym) (L':bS N words (m.act rs n)):dP N words M (m.act rs n) s cw:=by
 have HA:=L.th n hn;rw[ha] at HA;have hh:=HA.held;have hl1:=HA.l1;rw[hp] at hh hl1;simp only at hh hl1;rw[uz ha hp] at L'⊢;have hs:=bO a.x;have e0:a.owed=a.buf:=eP (by rw[hp];intro q;cases q);split at L'
 ·rename_i hc;rw[if_pos hc];obtain⟨f1,f2⟩:=L.seen hn hs (by rw[ha];exact hh _) (by rw[ha,hc];exact hl1.1);rw[ha,hc] at f1;refine I.still L hn ha (wI L L' hn (fun k hk=>Nk _ _ _ _ hk) rfl (by rw[yI,ha]) (by rw[ha];exact hh)) (fun x=>by rw[e0];rfl) (fun q=>by cases q) (by rw[hp];rfl) rfl (fun b h1 h2 E=>⟨⟨h1.bX,h1.log,fun y hy=>?_⟩,?_⟩)
  ·show(a.reads|||1<<<aV a.x).testBit (aV y)=true;rw[ry,h1.rd y hy];rfl
  ·unfold kH at h2;rw[hp] at h2;refine⟨?_,.inr ⟨?_,fun k hk hpk hle q=>?_⟩⟩
   ·show wN b.done (CP cw a.bX) a.x=a.v;rw[h1.wN h2.1,h2.2.2 f1.symm];refine WL (fun c hc hw=>?_);have:=I.M6 c hc a.x hw;omega
   ·show(a.reads|||1<<<aV a.x).testBit (aV a.x)=true;rw[ry];simp
   ·by_cases e:k=n
    ·subst e;rw[yI] at hpk;cases hpk
    ·rw[Nk _ _ _ _ e] at hpk q;exact f2 k hk e (.inl ((L.th k hk).ES hpk q))
 ·rename_i hc;rw[if_neg hc];exact I.still L hn ha (wI L L' hn (fun k hk=>Nk _ _ _ _ hk) rfl (by rw[yI,ha]) (by rw[ha];exact hh)) (fun x=>by rw[e0];rfl) (fun q=>by cases q) (by rw[hp];rfl) rfl (fun b h1 h2 E=>⟨⟨h1.bX,h1.log,h1.rd⟩,trivial⟩)
theorem Kk (I:dP N words M m s cw) (L:bS N words m) (hn:n<N) (wf:∀l∈rs,∀o∈l,1<=o.at_/\o.at_<=words) (ha:m.aM n=a) (hfin:a.fin=0) (hd:a.pt.dn=false) (zP:a.pt.oQ=true) (i:Nat) (L':bS N words (m.set n (a.bJ i))):dP N words M (m.set n (a.bJ i)) s cw:=by
 have mv:=dD a i;obtain⟨t1,t2,t3,t4,t5⟩:=o_ (N:=N) (m:=m) (cw:=cw) (n:=n) (b:=⟨0,0,0,0,0,0,false,[]⟩) a i;have e0:a.owed=a.buf:=eP (by intro q;rw[q] at zP;cases zP);refine I.still L hn ha (Bw L L' hn (fun k hk=>Nk _ _ _ _ hk) rfl (by rw[yI,ha,mv.buf]) (by rw[yI,ha,mv.held]) (by rw[yI,ha,mv.old]) (by rw[ha];exact hd) (by rw[yI];exact t4)) (fun x=>by rw[e0,eP t3,mv.buf]) (fun q=>by rw[t1] at q;cases q) (by rw[t2,zP]) mv.fin (fun b h1 h2 E=>⟨h1.Qm mv,(o_ a i).2.2.2.2⟩)
theorem aax (I:dP N words M m s cw) (L:bS N words m) (hn:n<N) (wf:∀l∈rs,∀o∈l,1<=o.at_/\o.at_<=words) (ha:m.aM n=a) (hfin:a.fin=0) (hp:a.pt= .Eg) (L':bS N words (m.act rs n)):dP N words M (m.act rs n) s cw:=by
 rw[uB ha hp] at L'⊢;split at L'
 ·rename_i hc;rw[if_pos hc];exact Kk I L hn wf ha hfin (by rw[hp];rfl) (by rw[hp];rfl) 0 L'
 ·rename_i hc;rw[if_neg hc];have e0:a.owed=a.buf:=eP (by rw[hp];intro q;cases q);exact I.still L hn ha (Bw L L' hn (fun k hk=>Nk _ _ _ _ hk) rfl (by rw[yI,ha]) (by rw[yI,ha]) (by rw[yI,ha]) (by rw[ha,hp];rfl) (by rw[yI];rfl)) (fun x=>by rw[e0];rfl) (fun q=>by cases q) (by rw[hp];rfl) rfl (fun b h1 h2 E=>⟨⟨h1.bX,h1.log,h1.rd⟩,trivial⟩)
theorem ZR (I:dP N words M m s cw) (L:bS N words m) (hn:n<N) (wf:∀l∈rs,∀o∈l,1<=o.at_/\o.at_<=words) (ha:m.aM n=a) (hfin:a.fin=0) (hp:a.pt= .DK) (L':bS N words (m.act rs n)):dP N words M (m.act rs n) s cw:=by
 rw[tY ha hp] at L'⊢;have mv:=dD {a with buf:=a.buf++[fF.lock a.s (a.old a.s)],held:=upd a.held a.s false} (a.s+1);obtain⟨t1,t2,t3,t4,t5⟩:=o_ (N:=N) (m:=m) (cw:=cw) (n:=n) (b:=⟨0,0,0,0,0,0,false,[]⟩) {a with buf:=a.buf++[fF.lock a.s (a.old a.s)],held:=upd a.held a.s false} (a.s+1);have t6:∀(m:AS) (b:bV),kH N m cw n ({a with buf:=a.buf++[fF.lock a.s (a.old a.s)],held:=upd a.held a.s false}.bJ (a.s+1)) b:=fun m b=>(o_ _ _).2.2.2.2
 generalize({a with buf:=a.buf++[fF.lock a.s (a.old a.s)],held:=upd a.held a.s false}.bJ (a.s+1):aO)=a' at mv t1 t2 t3 t4 t5 t6 L'⊢;have e0:a.owed=a.buf:=eP (by rw[hp];intro q;cases q);have hb:a'.buf=a.buf++[fF.lock a.s (a.old a.s)]:=mv.buf;refine I.still L hn ha (wK L L' hn (fun k hk=>Nk _ _ _ _ hk) rfl (fun i v q=>?_) (fun i hi q=>?_)) (fun x=>?_) (fun q=>by rw[t1] at q;cases q) (by rw[t2,hp];rfl) mv.fin (fun b h1 h2 E=>⟨⟨by rw[mv.bX];exact h1.bX,by rw[mv.log];exact h1.log,by rw[mv.reads];exact h1.rd⟩,t6 _ b⟩)
 ·rw[yI,hb];rw[ha] at q;exact List.mem_append_left _ q
 ·rw[yI,ha] at*;by_cases e:i=a.s
  ·subst e;exact .inr ⟨a.old a.s,by rw[hb];simp,by unfold aO.says;rw[hp];rfl⟩
  ·refine .inl ⟨?_,?_⟩
   ·rw[mv.held];simp only[bN];rw[if_neg e];exact q
   ·unfold aO.says;rw[t4,hp,mv.old];rfl
 ·rw[e0,eP t3,hb,nY];rfl
theorem aa2 (I:dP N words M m s cw) (L:bS N words m) (hn:n<N) (wf:∀l∈rs,∀o∈l,1<=o.at_/\o.at_<=words) (ha:m.aM n=a) (hfin:a.fin=0) (hp:a.pt= .rel) (L':bS N words (m.act rs n)):dP N words M (m.act rs n) s cw:=by
 rw[uI ha hp] at L'⊢;have mv:=pq {a with buf:=a.buf++[fF.lock a.s (2*a.new)],held:=upd a.held a.s false} (a.s+1);obtain⟨t1,t2,t3⟩:=Ia {a with buf:=a.buf++[fF.lock a.s (2*a.new)],held:=upd a.held a.s false} (a.s+1);have t4:({a with buf:=a.buf++[fF.lock a.s (2*a.new)],held:=upd a.held a.s false}.dV (a.s+1)).pt.dn=true\/({a with buf:=a.buf++[fF.lock a.s (2*a.new)],held:=upd a.held a.s false}.dV (a.s+1)).pt= .out:=by
  unfold aO.dV;split
  ·exact .inl rfl
  ·exact .inr rfl
 generalize({a with buf:=a.buf++[fF.lock a.s (2*a.new)],held:=upd a.held a.s false}.dV (a.s+1):aO)=a' at mv t1 t2 t3 t4 L'⊢;have e0:a.owed=a.buf:=eP (by rw[hp];intro q;cases q);have hb:a'.buf=a.buf++[fF.lock a.s (2*a.new)]:=mv.buf;have Ja:=L'.th n hn;rw[yI] at Ja;refine I.still L hn ha (wK L L' hn (fun k hk=>Nk _ _ _ _ hk) rfl (fun i v q=>?_) (fun i hi q=>?_)) (fun x=>?_) (fun q=>by rw[t1] at q;cases q) (by rw[t2,hp];rfl) mv.fin (fun b h1 h2 E=>⟨⟨by rw[mv.bX];exact h1.bX,by rw[mv.log];exact h1.log,by rw[mv.reads];exact h1.rd⟩,?_⟩)
 ·rw[yI,hb];rw[ha] at q;exact List.mem_append_left _ q
 ·rw[yI,ha] at*;by_cases e:i=a.s
  ·subst e;refine .inr ⟨2*a.new,by rw[hb];simp,?_⟩;unfold aO.says;rw[hp];show 2*a.new/2=a.new;omega
  ·have hi2:a'.held i=true:=by
    rw[mv.held];simp only[bN];rw[if_neg e];exact q
   refine .inl ⟨hi2,?_⟩;unfold aO.says;rcases t4 with t4|t4
   ·rw[t4,hp,mv.new];rfl
   ·have:=Ja.held;rw[t4] at this;rw[this i] at hi2;cases hi2
 ·rw[e0,eP t3,hb,nY];rfl
 ·unfold kH;rcases t4 with t4|t4
  ·cases hq:a'.pt<;>rw[hq] at t4<;>first|trivial|cases t4
  ·rw[t4];trivial
theorem acS (I:dP N words M m s cw) (L:bS N words m) (hn:n<N) (wf:∀l∈rs,∀o∈l,1<=o.at_/\o.at_<=words) (ha:m.aM n=a) (hfin:a.fin=0) (hp:a.pt= .wb) (L':bS N words (m.act rs n)):dP N words M (m.act rs n) s cw:=by
 have HA:=L.th n hn;rw[ha] at HA;have hi:=HA.some;have hh:=HA.held;rw[hp] at hi hh;simp only at hi hh;have hc:=dZ hi;have hdrop:a.log.drop a.i=a.log[a.i]::a.log.drop (a.i+1):=List.drop_eq_getElem_cons hi;generalize a.log[a.i]=c at hc hdrop;rw[xJ ha hp hc] at L'⊢;have mv:=o8 {a with buf:=a.buf++[fF.dat c.1 c.2]} (a.i+1);have e0:a.owed=a.buf++(a.log.drop a.i).map (fun c=>fF.dat c.1 c.2):=by unfold aO.owed;rw[hp]
 have t0:({a with buf:=a.buf++[fF.dat c.1 c.2]}.iB (a.i+1)).owed=a.owed/\({a with buf:=a.buf++[fF.dat c.1 c.2]}.iB (a.i+1)).pt.pend=false/\({a with buf:=a.buf++[fF.dat c.1 c.2]}.iB (a.i+1)).pt.oQ=false:=by
  unfold aO.iB;by_cases h:a.i+1<a.log.length
  ·rw[if_pos h];refine⟨?_,rfl,rfl⟩;rw[e0,hdrop];show(a.buf++[fF.dat c.1 c.2])++(a.log.drop (a.i+1)).map _=_;rw[List.map_cons,List.append_assoc];rfl
  ·rw[if_neg h];obtain⟨t1,t2,t3⟩:=Ia {a with buf:=a.buf++[fF.dat c.1 c.2]} 0;refine⟨?_,t1,t2⟩;rw[eP t3,(pq _ _).buf,e0,hdrop,List.drop_eq_nil_of_le (by omega)];rfl
 have t4:({a with buf:=a.buf++[fF.dat c.1 c.2]}.iB (a.i+1)).pt.dn=true\/({a with buf:=a.buf++[fF.dat c.1 c.2]}.iB (a.i+1)).pt= .out:=by
  unfold aO.iB aO.dV
  repeat' split
  all_goals first|exact .inl rfl|exact .inr rfl
 generalize({a with buf:=a.buf++[fF.dat c.1 c.2]}.iB (a.i+1):aO)=a' at mv t0 t4 L'⊢;obtain⟨t1,t2,t3⟩:=t0;have Ja:=L'.th n hn;rw[yI] at Ja;refine I.still L hn ha (wK L L' hn (fun k hk=>Nk _ _ _ _ hk) rfl (fun i v q=>?_) (fun i hi q=>?_)) (fun x=>by rw[t1]) (fun q=>by rw[t2] at q;cases q) (by rw[t3,hp];rfl) mv.fin (fun b h1 h2 E=>⟨⟨by rw[mv.bX];exact h1.bX,by rw[mv.log];exact h1.log,by rw[mv.reads];exact h1.rd⟩,?_⟩)
 ·rw[yI,mv.buf];rw[ha] at q;exact List.mem_append_left _ q
 ·rw[yI,ha] at*;have hi2:a'.held i=true:=by rw[mv.held];exact q
  refine .inl ⟨hi2,?_⟩;unfold aO.says;rcases t4 with t4|t4
  ·rw[t4,hp,mv.new];rfl
  ·have:=Ja.held;rw[t4] at this;rw[this i] at hi2;cases hi2
 ·unfold kH;rcases t4 with t4|t4
  ·cases hq:a'.pt<;>rw[hq] at t4<;>first|trivial|cases t4
  ·rw[t4];trivial
end
end
section
variable {N n k M:Nat} {words C C':Int} {m m':AS} {a a':aO} {b:bV} {rs:List (List Tx)} {l:List Tx} {x v:Int} {s s':HS} {cw:List bV}
theorem dP.event (I:dP N words M m s cw) (L:bS N words m) (hn:n<N) {a a':aO} (ha:m.aM n=a) {ek ea eb:Int} (L':bS N words ((m.set n a').tell n ek ea eb)) (aY:∀k,a.held k=false) (hbuf:a'.buf=a.buf) (hw:a.pt≠ .wb) (hw':a'.pt≠ .wb) (Xb:a'.pt.pend=false)
  (eu:eY (m.evs++[⟨n,ek,ea,eb⟩]) s' cw m.clock M)
  (hend:∀k,k≠n->s'.ended k=s.ended k) (hop:∀k,k≠n->s'.opn k=s.opn k) (hat:∀k j,k≠n->s.opn k=some j->s'.bu[j]? =s.bu[j]?)
  (live:a'.fin=0->s'.ended n=false) (idle:a'.pt.oQ=false->s'.opn n=none)
  (busy:a'.pt.oQ=true->∃j b,s'.opn n=some j/\s'.bu[j]? =some b/\qX a' b/\∀m',kH N m' cw n a' b)
  (XY:∀b∈s'.bu,b∈s.bu\/∀k,k<N->k≠n->(m.aM k).pt.pend=true->Behind (m.aM k).new b->∀y,GY b.done y->¬Keys (m.aM k) y):dP N words M ((m.set n a').tell n ek ea eb) s' cw:=by
 have hth:∀k,((m.set n a').tell n ek ea eb).aM k=if k=n then a' else m.aM k:=fun k=>rfl
 have hnn:((m.set n a').tell n ek ea eb).aM n=a':=by rw[hth,if_pos rfl]
 have E:Env n m ((m.set n a').tell n ek ea eb):=⟨wI L L' hn (fun k hk=>by rw[hth,if_neg hk]) rfl (by rw[hnn,ha];exact hbuf) (by rw[ha];exact aY),fun k hk=>by rw[hth,if_neg hk],Int.le_refl _,fun x=>by rw[hnn,ha,eP hw,eP hw',hbuf],fun q=>by rw[hnn,Xb] at q;cases q⟩;refine I.turn L E hn rfl eu hend hop hat (by rw[hnn];exact live) (by rw[hnn];exact idle) (fun q=>?_) (fun b hb=>?_)
 ·rw[hnn] at q;obtain⟨j,b,q1,q2,q3,q4⟩:=busy q;exact⟨j,b,q1,q2,by rw[hnn];exact q3,by rw[hnn];exact q4 _⟩
 ·rcases XY b hb with q|q
  ·exact .inl q
  ·refine .inr (fun k hk hp=>?_);have e:k≠n:=fun e=>by subst e;rw[hnn,Xb] at hp;cases hp
   rw[hth,if_neg e] at hp⊢;exact q k hk e hp
section
theorem uJ (I:dP N words M m s cw) (L:bS N words m) (hn:n<N) (hN:N<=4) (wf:∀l∈rs,∀o∈l,1<=o.at_/\o.at_<=words) (hM:(M:Int)=words+1) (ha:m.aM n=a) (hfin:a.fin=0):s.ended n=false:=I.live n hn (by rw[ha];exact hfin)
theorem X4 (I:dP N words M m s cw) (L:bS N words m) (hn:n<N) (hN:N<=4) (wf:∀l∈rs,∀o∈l,1<=o.at_/\o.at_<=words) (hM:(M:Int)=words+1) (ha:m.aM n=a) (hfin:a.fin=0) (hp:a.pt= .look) (L':bS N words (m.act rs n)):∃s',dP N words M (m.act rs n) s' cw:=by
 have HA:=L.th n hn;rw[ha] at HA;have hh:=HA.held;rw[hp] at hh;simp only at hh;rw[qF ha hp] at L'⊢;have mv:=cB {a with bX:=m.clock,reads:=0,log:=[],sum:=0,held:=fun _=>false,op:=0} (rs.getD a.row []);obtain⟨t1,t2,t3⟩:=qf {a with bX:=m.clock,reads:=0,log:=[],sum:=0,held:=fun _=>false,op:=0} (rs.getD a.row []);have ho:s.opn n=none:=I.idle n hn (by rw[ha,hp];rfl);have hlive:=uJ I L hn hN wf hM ha hfin;have A0:qX {a with bX:=m.clock,reads:=0,log:=[],sum:=0,held:=fun _=>false,op:=0} (begun ⟨n,1,m.clock,0⟩ m.evs.length):=⟨rfl,oI.nil,fun x hx=>absurd hx MS⟩;have P0:∀m',kH N m' cw n ({a with bX:=m.clock,reads:=0,log:=[],sum:=0,held:=fun _=>false,op:=0}.bL (rs.getD a.row [])) (begun ⟨n,1,m.clock,0⟩ m.evs.length):=fun m'=>kH.bL A0
 refine⟨_,I.event L hn ha L' hh mv.buf (by rw[hp];intro q;cases q) t3 t1 (I.eu.begin hlive (by omega) ho) (fun _ _=>rfl) (fun k hk=>jm _ _ hk) (fun k j hk hj=>?_) (fun _=>hlive) (fun q=>by rw[t2] at q;cases q) (fun _=>⟨s.bu.length,_,fG _ _ _,by simp,A0.Qm mv,P0⟩) (fun b hb=>?_)⟩
 ·obtain⟨c,hc, -⟩:=I.eu.j_ hj;exact List.getElem?_append_left (bE.1 hc).1
 ·rcases List.mem_append.1 hb with hb|hb
  ·exact .inl hb
  ·rw[List.mem_singleton.1 hb];exact .inr (fun k _ _ _ _ y hy=>absurd hy MS)
theorem acw (I:dP N words M m s cw) (L:bS N words m) (hn:n<N) (hN:N<=4) (wf:∀l∈rs,∀o∈l,1<=o.at_/\o.at_<=words) (hM:(M:Int)=words+1) (ha:m.aM n=a) (hfin:a.fin=0) (hp:a.pt= .rd) (L':bS N words (m.act rs n)):∃s',dP N words M (m.act rs n) s' cw:=by
 have HA:=L.th n hn;rw[ha] at HA;have hh:=HA.held;have hx:=HA.x;rw[hp] at hh hx;simp only at hh hx;rw[xV ha hp] at L'⊢;have mv:=cB {a with op:=a.op+1,sum:=fq (a.sum+a.v)} (rs.getD a.row []);obtain⟨t1,t2,t3⟩:=qf {a with op:=a.op+1,sum:=fq (a.sum+a.v)} (rs.getD a.row []);have hlive:=uJ I L hn hN wf hM ha hfin;obtain⟨j,b,q1,q2,q3,q4⟩:=I.busy n hn (by rw[ha,hp];rfl);rw[ha] at q3 q4;unfold kH at q4;rw[hp] at q4;simp only at q4;have JP:∀y,GY (b.done++[⟨n,2,a.x,a.v⟩]) y->GY b.done y\/y=a.x/\¬Keys a a.x:=fun y hy=>by
  rcases Jl hy with h|⟨-,h1,h2⟩
  ·exact .inl h
  ·subst h1;refine .inr ⟨rfl,fun hk=>?_⟩;obtain⟨e,he,h3,h4⟩:=(q3.writes a.x).2 hk;exact h2 e he h3 h4
 have A0:qX {a with op:=a.op+1,sum:=fq (a.sum+a.v)} (more ⟨n,2,a.x,a.v⟩ b):=⟨q3.bX,q3.log.read (by simp),fun y hy=>by
  rcases JP y hy with h|⟨rfl,h⟩
  ·exact q3.rd y h
  ·rcases q4.2 with h1|h1
   ·exact absurd h1 h
   ·exact h1.1⟩
 have eu:=I.eu.more hlive (by omega) q1 q2 (e:=⟨n,2,a.x,a.v⟩) rfl (.inl rfl) (by show 1<=a.x/\a.x<(M:Int);omega) (fun _=>by rw[q3.bX];exact q4.1);have P0:∀m',kH N m' cw n ({a with op:=a.op+1,sum:=fq (a.sum+a.v)}.bL (rs.getD a.row [])) (more ⟨n,2,a.x,a.v⟩ b):=fun m'=>kH.bL A0
 refine⟨_,I.event L hn ha L' hh mv.buf (by rw[hp];intro q;cases q) t3 t1 eu (fun _ _=>rfl) (fun _ _=>rfl) (fun k i hk hi=>kF (I.eu.other hk q1 hi)) (fun _=>hlive) (fun q=>by rw[t2] at q;cases q) (fun _=>⟨j,_,q1,rF q2,A0.Qm mv,P0⟩) (fun c hc=>?_)⟩;rcases eU q2 hc with rfl|hc
 ·refine .inr (fun k hk hkn hpk hz y hy=>?_);obtain⟨b',hb', -, -,hk0, -⟩:=I.eu.j_ q1;rw[q2] at hb';cases hb';have hz':(m.aM k).new<=b.clock:=by
   rcases hz with hz|⟨h1, -⟩
   ·exact hz
   ·have:b.kind=1:=h1;omega
  rcases JP y hy with h|⟨rfl,h⟩
  ·exact I.snap k hk hpk b (bA q2) (.inl hz') y h
  ·rcases q4.2 with h1|h1
   ·exact absurd h1 h
   ·exact h1.2 k hk hpk (by rw[<-q3.bX];exact hz')
 ·exact .inl hc
theorem adw (I:dP N words M m s cw) (L:bS N words m) (hn:n<N) (hN:N<=4) (wf:∀l∈rs,∀o∈l,1<=o.at_/\o.at_<=words) (hM:(M:Int)=words+1) (ha:m.aM n=a) (hfin:a.fin=0) (hp:a.pt= .wr) (L':bS N words (m.act rs n)):∃s',dP N words M (m.act rs n) s' cw:=by
 have HA:=L.th n hn;rw[ha] at HA;have hh:=HA.held;have hx:=HA.x;rw[hp] at hh hx;simp only at hh hx;rw[xR ha hp] at L'⊢;have mv:=cB {a with op:=a.op+1,log:=kz a.log a.x a.v} (rs.getD a.row []);obtain⟨t1,t2,t3⟩:=qf {a with op:=a.op+1,log:=kz a.log a.x a.v} (rs.getD a.row []);have hlive:=uJ I L hn hN wf hM ha hfin;obtain⟨j,b,q1,q2,q3,q4⟩:=I.busy n hn (by rw[ha,hp];rfl);rw[ha] at q3;have JP:∀y,GY (b.done++[⟨n,3,a.x,a.v⟩]) y->GY b.done y:=fun y hy=>by
  rcases Jl hy with h|⟨h, -⟩
  ·exact h
  ·simp at h
 have A0:qX {a with op:=a.op+1,log:=kz a.log a.x a.v} (more ⟨n,3,a.x,a.v⟩ b):=⟨q3.bX,by
  show oI (b.done++[⟨n,3,a.x,a.v⟩]) (kz a.log a.x a.v);unfold kz;split
  ·rename_i h;exact q3.log.set (e:=⟨n,3,a.x,a.v⟩) rfl h
  ·rename_i h;exact q3.log.more (e:=⟨n,3,a.x,a.v⟩) rfl h,fun y hy=>q3.rd y (JP y hy)⟩
 have eu:=I.eu.more hlive (by omega) q1 q2 (e:=⟨n,3,a.x,a.v⟩) rfl (.inr rfl) (by show 1<=a.x/\a.x<(M:Int);omega) (fun q=>by simp at q);have P0:∀m',kH N m' cw n ({a with op:=a.op+1,log:=kz a.log a.x a.v}.bL (rs.getD a.row [])) (more ⟨n,3,a.x,a.v⟩ b):=fun m'=>kH.bL A0
 refine⟨_,I.event L hn ha L' hh mv.buf (by rw[hp];intro q;cases q) t3 t1 eu (fun _ _=>rfl) (fun _ _=>rfl) (fun k i hk hi=>kF (I.eu.other hk q1 hi)) (fun _=>hlive) (fun q=>by rw[t2] at q;cases q) (fun _=>⟨j,_,q1,rF q2,A0.Qm mv,P0⟩) (fun c hc=>?_)⟩;rcases eU q2 hc with rfl|hc
 ·refine .inr (fun k hk hkn hpk hz y hy=>?_);obtain⟨b',hb', -, -,hk0, -⟩:=I.eu.j_ q1;rw[q2] at hb';cases hb';have hz':(m.aM k).new<=b.clock:=by
   rcases hz with hz|⟨h1, -⟩
   ·exact hz
   ·have:b.kind=1:=h1;omega
  exact I.snap k hk hpk b (bA q2) (.inl hz') y (JP y hy)
 ·exact .inl hc
theorem Gr (I:dP N words M m s cw) (L:bS N words m) (hn:n<N) (hN:N<=4) (wf:∀l∈rs,∀o∈l,1<=o.at_/\o.at_<=words) (hM:(M:Int)=words+1) (ha:m.aM n=a) (hfin:a.fin=0) {j:Nat} (q1:s.opn n=some j) (q2:s.bu[j]? =some b) (q3:qX a b) (hhe:∀k,a.held k=false) {f:bV->bV} {e':Nat->Bool} {ek ea eb:Int} {p:Pt} {fin':Int} (hp:a.pt≠ .wb) (hp':p= .look\/p= .out\/p= .over) (L':bS N words ((m.set n {a with pt:=p,fin:=fin'}).tell n ek ea eb))
  (eu:eY (m.evs++[⟨n,ek,ea,eb⟩]) ⟨s.bu.modify j f,upd s.opn n none,e'⟩ cw m.clock M) (he:∀k,k≠n->e' k=s.ended k) (hl:fin'=0->e' n=false) (hd:(f b).done=b.done) (hb:∀q,Behind q (f b)->q<=b.clock):
  dP N words M ((m.set n {a with pt:=p,fin:=fin'}).tell n ek ea eb) ⟨s.bu.modify j f,upd s.opn n none,e'⟩ cw:=by
 have hpt:p≠ .wb/\p.pend=false/\p.oQ=false:=by rcases hp' with rfl|rfl|rfl<;>exact⟨fun q=>(by cases q),rfl,rfl⟩
 refine I.event L hn ha L' hhe rfl hp hpt.1 hpt.2.1 eu he (fun k hk=>jm _ _ hk) (fun k i hk hi=>kF (I.eu.other hk q1 hi)) hl (fun _=>fG _ _ _) (fun q=>by rw[hpt.2.2] at q;cases q) (fun c hc=>?_);rcases eU q2 hc with rfl|hc
 ·refine .inr (fun k hk hkn hpk hz y hy=>?_);rw[hd] at hy;exact I.snap k hk hpk b (bA q2) (.inl (hb _ hz)) y hy
 ·exact .inl hc
theorem XP (I:dP N words M m s cw) (L:bS N words m) (hn:n<N) (hN:N<=4) (wf:∀l∈rs,∀o∈l,1<=o.at_/\o.at_<=words) (hM:(M:Int)=words+1) (ha:m.aM n=a) (hfin:a.fin=0) (hp:a.pt= .full) (L':bS N words (m.act rs n)):∃s',dP N words M (m.act rs n) s' cw:=by
 have HA:=L.th n hn;rw[ha] at HA;have hh:=HA.held;rw[hp] at hh;simp only at hh;rw[yU ha hp] at L'⊢;have hlive:=uJ I L hn hN wf hM ha hfin;obtain⟨j,b,q1,q2,q3,q4⟩:=I.busy n hn (by rw[ha,hp];rfl);rw[ha] at q3;exact⟨_,Gr I L hn hN wf hM ha hfin q1 q2 q3 hh (by rw[hp];intro q;cases q) (.inr (.inr rfl)) L' (I.eu.trap hlive (by omega) q1 6) (fun k hk=>jm _ _ hk) (fun q=>absurd q (by decide)) rfl (fun q hq=>by
  rcases hq with hq|⟨h1, -⟩
  ·exact hq
  ·simp[closed] at h1)⟩
theorem aas (I:dP N words M m s cw) (L:bS N words m) (hn:n<N) (hN:N<=4) (wf:∀l∈rs,∀o∈l,1<=o.at_/\o.at_<=words) (hM:(M:Int)=words+1) (ha:m.aM n=a) (hfin:a.fin=0) (hp:a.pt= .u6) (L':bS N words (m.act rs n)):∃s',dP N words M (m.act rs n) s' cw:=by
 have HA:=L.th n hn;rw[ha] at HA;have hh:=HA.held;rw[hp] at hh;simp only at hh;rw[uw ha hp] at L'⊢;have hlive:=uJ I L hn hN wf hM ha hfin;obtain⟨j,b,q1,q2,q3,q4⟩:=I.busy n hn (by rw[ha,hp];rfl);rw[ha] at q3;exact⟨_,Gr (p:=.look) (fin':=a.fin) I L hn hN wf hM ha hfin q1 q2 q3 hh (by rw[hp];intro q;cases q) (.inl rfl) L' (I.eu.abort hlive (by omega) q1) (fun k hk=>rfl) (fun _=>hlive) rfl (fun q hq=>by
  rcases hq with hq|⟨h1, -⟩
  ·exact hq
  ·simp[closed] at h1)⟩
theorem acm (I:dP N words M m s cw) (L:bS N words m) (hn:n<N) (hN:N<=4) (wf:∀l∈rs,∀o∈l,1<=o.at_/\o.at_<=words) (hM:(M:Int)=words+1) (ha:m.aM n=a) (hfin:a.fin=0) (hp:a.pt= .ro) (L':bS N words (m.act rs n)):∃s',dP N words M (m.act rs n) s' cw:=by
 have HA:=L.th n hn;rw[ha] at HA;have hh:=HA.held;have OL:=HA.some;rw[hp] at hh OL;simp only at hh OL;rw[xL ha hp] at L'⊢;have hlive:=uJ I L hn hN wf hM ha hfin;obtain⟨j,b,q1,q2,q3,q4⟩:=I.busy n hn (by rw[ha,hp];rfl);rw[ha] at q3;have eu:=I.eu.reader hlive (by omega) q1 q2 (fun e he h3=>by
  obtain⟨c,hc, -⟩:=q3.log.keys e he h3;rw[OL] at hc;cases hc)
 rw[q3.bX] at eu;exact⟨_,Gr (p:=.out) (fin':=a.fin) I L hn hN wf hM ha hfin q1 q2 q3 hh (by rw[hp];intro q;cases q) (.inr (.inl rfl)) L' eu (fun k hk=>rfl) (fun _=>hlive) rfl (fun q hq=>by
  rcases hq with hq|⟨-,h1, -⟩
  ·exact hq
  ·simp[dW] at h1)⟩
theorem aau (I:dP N words M m s cw) (L:bS N words m) (hn:n<N) (hN:N<=4) (wf:∀l∈rs,∀o∈l,1<=o.at_/\o.at_<=words) (hM:(M:Int)=words+1) (ha:m.aM n=a) (hfin:a.fin=0) (hp:a.pt= .out) (L':bS N words (m.act rs n)):∃s',dP N words M (m.act rs n) s' cw:=by
 have HA:=L.th n hn;rw[ha] at HA;have hh:=HA.held;rw[hp] at hh;simp only at hh;rw[uh ha hp] at L'⊢;have hlive:=uJ I L hn hN wf hM ha hfin;have ho:s.opn n=none:=I.idle n hn (by rw[ha,hp];rfl);have mv:=vk {a with row:=a.row+1,out:=a.out++[a.sum]} rs;obtain⟨t1,t2,t3⟩:=Iz {a with row:=a.row+1,out:=a.out++[a.sum]} rs;exact⟨_,I.event L hn ha L' hh mv.buf (by rw[hp];intro q;cases q) t3 t1 (I.eu.outer (CG (by omega) hlive ho)) (fun _ _=>rfl) (fun _ _=>rfl) (fun _ _ _ _=>rfl) (fun _=>hlive) (fun _=>ho) (fun q=>by rw[t2] at q;cases q) (fun b hb=>.inl hb)⟩
theorem X3 (I:dP N words M m s cw) (L:bS N words m) (hn:n<N) (hN:N<=4) (wf:∀l∈rs,∀o∈l,1<=o.at_/\o.at_<=words) (hM:(M:Int)=words+1) (ha:m.aM n=a) (hfin:a.fin=0) (hp:a.pt= .halt) (L':bS N words (m.act rs n)):∃s',dP N words M (m.act rs n) s' cw:=by
 have HA:=L.th n hn;rw[ha] at HA;have hh:=HA.held;rw[hp] at hh;simp only at hh;rw[qM ha hp] at L'⊢;have hlive:=uJ I L hn hN wf hM ha hfin;have ho:s.opn n=none:=I.idle n hn (by rw[ha,hp];rfl);exact⟨_,I.event L hn ha L' hh rfl (by rw[hp];intro q;cases q) (fun q=>by cases q) rfl (I.eu.outer (Dz (by omega) hlive ho)) (fun k hk=>jm _ _ hk) (fun _ _=>rfl) (fun _ _ _ _=>rfl) (fun q=>absurd q (show ¬(1:Int)=0 by decide)) (fun _=>ho) (fun q=>by cases q) (fun b hb=>.inl hb)⟩
theorem Ym (I:dP N words M m s cw) (L:bS N words m) (hn:n<N) (hN:N<=4) (wf:∀l∈rs,∀o∈l,1<=o.at_/\o.at_<=words) (hM:(M:Int)=words+1) (ha:m.aM n=a) (hfin:a.fin=0) (hp:a.pt= .qG) (L':bS N words (m.act rs n)):dP N words M (m.act rs n) s cw:=by
 rw[qJ ha hp] at L'⊢;have mv:=kg {a with new:=m.clock+1} 0;obtain⟨t1,t2,t3,t4⟩:=yK {a with new:=m.clock+1} 0;have e0:a.owed=a.buf:=eP (by rw[hp];intro q;cases q);have key:∀b,qX a b->∀m',kH N m' cw n ({a with new:=m.clock+1}.cz 0) b:=fun b h1 m'=>by
  unfold aO.cz;cases hx:nS (fun k=>a.reads.testBit k) 0 with
  |some i=>
   obtain⟨-,r1,r2,r3⟩:=jc hx;intro x hx1 hx2;have:=h1.rd x hx1;rw[r3 _ (Nat.zero_le _) hx2] at this;cases this
  |none=>
   intro x hx1;have:=h1.rd x hx1;rw[nV hx _ (Nat.zero_le _) (bO x)] at this;cases this
 generalize({a with new:=m.clock+1}.cz 0:aO)=a' at mv t1 t2 t3 t4 key L'⊢;have hnn:({m with clock:=m.clock+1,aM:=upd m.aM n a'}:AS).aM n=a':=fG _ _ _;show dP N words M {m with clock:=m.clock+1,aM:=upd m.aM n a'} s cw;refine I.quiet L hn ha (by omega) I.eu.clock (Bw L L' hn (fun k hk=>jm _ _ hk) rfl (by rw[hnn,ha,mv.buf]) (by rw[hnn,ha,mv.held]) (by rw[hnn,ha,mv.old]) (by rw[ha,hp];rfl) (by rw[hnn];exact t4)) (fun x=>by rw[e0,eP t3,mv.buf]) (fun _=>.inr mv.new) (by rw[t2,hp];rfl) mv.fin (fun j b _ _ h1 h2 E=>⟨⟨by rw[mv.bX];exact h1.bX,by rw[mv.log];exact h1.log,by rw[mv.reads];exact h1.rd⟩,key b h1 _⟩)
theorem abB (I:dP N words M m s cw) (L:bS N words m) (hn:n<N) (hN:N<=4) (wf:∀l∈rs,∀o∈l,1<=o.at_/\o.at_<=words) (hM:(M:Int)=words+1) (ha:m.aM n=a) (hfin:a.fin=0) (hp:a.pt= .zw) (hb:a.buf=[]) (L':bS N words (m.act rs n)):dP N words M (m.act rs n) s cw:=by
 have HA:=L.th n hn;rw[ha] at HA;have hh:=HA.held;have hl1:=HA.l1;rw[hp] at hh hl1;simp only at hh hl1;rw[tX ha hp] at L'⊢;split at L'
 ·rename_i hc;rw[if_pos hc];have mv:=qb {a with held:=upd a.held a.s true,old:=upd a.old a.s a.l1} (a.s+1);have tp:∀m' b,kH N m' cw n ({a with held:=upd a.held a.s true,old:=upd a.old a.s a.l1}.cu (a.s+1)) b:=fun m' b=>(zT _ _).2.2.2.2
  obtain⟨t1,t2,t3,t4, -⟩:=zT (N:=N) (m:=m) (cw:=cw) (n:=n) (b:=⟨0,0,0,0,0,0,false,[]⟩) {a with held:=upd a.held a.s true,old:=upd a.old a.s a.l1} (a.s+1);have e0:a.owed=a.buf:=eP (by rw[hp];intro q;cases q);generalize({a with held:=upd a.held a.s true,old:=upd a.old a.s a.l1}.cu (a.s+1):aO)=a' at mv t1 t2 t3 t4 tp L'⊢;obtain⟨lQ,hns,hhk⟩:=hh;have hno:a.held a.s=false:=by rw[hhk];simp
  have hth:∀k,(({m with aN:=upd m.aN a.s (2*n+1)}:AS).set n a').aM k=if k=n then a' else m.aM k:=fun k=>rfl
  have hnn:(({m with aN:=upd m.aN a.s (2*n+1)}:AS).set n a').aM n=a':=by rw[hth,if_pos rfl]
  have QA:∀i,i<16->fv (({m with aN:=upd m.aN a.s (2*n+1)}:AS).set n a') i=fv m i:=by
   intro i hi;by_cases e:i=a.s
   ·subst e;rw[L'.jJ hn hi (by rw[hnn,mv.held];simp[bN]),hnn,qZ (by rw[hc];exact hl1.1),hc];unfold aO.says;rw[t4,mv.old];simp[bN]
   ·have hlk:(({m with aN:=upd m.aN a.s (2*n+1)}:AS).set n a').aN i=m.aN i:=by simp[AS.set,bN,e]
    rcases L.yR hi with⟨q1,q2,q3⟩|⟨k,hk,q1,q2⟩
    ·rw[q2,qZ (by rw[hlk];exact q1),hlk]
    ·by_cases e2:k=n
     ·subst e2;rcases q1 with q1|⟨v,q1⟩
      ·rw[L.jJ hk hi q1];rw[ha] at q1⊢;rw[L'.jJ hk hi (by rw[hnn,mv.held];simp only[bN];rw[if_neg e];exact q1),hnn];unfold aO.says;rw[t4,mv.old,hp];simp only[bN];rw[if_neg e];rfl
      ·rw[ha,hb] at q1;simp at q1
     ·rcases q1 with q1|⟨v,q1⟩
      ·rw[L.jJ hk hi q1,L'.jJ hk hi (by rw[hth,if_neg e2];exact q1),hth,if_neg e2]
      ·rw[L.oh hk hi q1,L'.oh hk hi (by rw[hth,if_neg e2];exact q1)]
  have E:Env n m (({m with aN:=upd m.aN a.s (2*n+1)}:AS).set n a'):=⟨QA,fun k hk=>by rw[hth,if_neg hk],Int.le_refl _,fun x=>by rw[hnn,ha,e0,eP t3,mv.buf],fun q=>by rw[hnn,t1] at q;cases q⟩;refine I.turn L E hn rfl I.eu (fun _ _=>rfl) (fun _ _=>rfl) (fun _ _ _ _=>rfl) (fun q=>?_) (fun q=>?_) (fun q=>?_) (fun b hb=>.inl hb)
  ·exact I.live n hn (by rw[ha];exact hfin)
  ·rw[hnn,t2] at q;cases q
  ·obtain⟨j,b,q1,q2,q3,q4⟩:=I.busy n hn (by rw[ha,hp];rfl);rw[ha] at q3;exact⟨j,b,q1,q2,by rw[hnn];exact⟨by rw[mv.bX];exact q3.bX,by rw[mv.log];exact q3.log,by rw[mv.reads];exact q3.rd⟩,by rw[hnn];exact tp _ b⟩
 ·rename_i hc;rw[if_neg hc];exact Kk I L hn wf ha hfin (by rw[hp];rfl) (by rw[hp];rfl) 0 L'
theorem WH (I:dP N words M m s cw) (L:bS N words m) (hn:n<N) (hN:N<=4) (wf:∀l∈rs,∀o∈l,1<=o.at_/\o.at_<=words) (hM:(M:Int)=words+1) (ha:m.aM n=a) (hfin:a.fin=0) (hp:a.pt= .Bc) (L':bS N words (m.set n (a.cz (a.s+1)))) (hv:∀b,qX a b->∀x,GY b.done x->aV x=a.s->Vd N m cw n a x):dP N words M (m.set n (a.cz (a.s+1))) s cw:=by
 have mv:=kg a (a.s+1);obtain⟨t1,t2,t3,t4⟩:=yK a (a.s+1);have e0:a.owed=a.buf:=eP (by rw[hp];intro q;cases q);have key:∀b,qX a b->(∀x,GY b.done x->aV x<a.s->Vd N m cw n a x)->kH N m cw n (a.cz (a.s+1)) b:=fun b h1 h2=>by
  have hle:∀x,GY b.done x->aV x<a.s+1->Vd N m cw n a x:=fun x hx hs=>by
   by_cases e:aV x=a.s
   ·exact hv b h1 x hx e
   ·exact h2 x hx (by omega)
  unfold aO.cz;cases hx:nS (fun k=>a.reads.testBit k) (a.s+1) with
  |some i=>
   obtain⟨r0,r1,r2,r3⟩:=jc hx;intro x hx1 hx2;by_cases e:aV x<a.s+1
   ·exact hle x hx1 e
   ·have:=h1.rd x hx1;rw[r3 _ (by omega) hx2] at this;cases this
  |none=>
   intro x hx1;by_cases e:aV x<a.s+1
   ·exact hle x hx1 e
   ·have:=h1.rd x hx1;rw[nV hx _ (by omega) (bO x)] at this;cases this
 have Ja:=L'.th n hn;rw[yI] at Ja;generalize a.cz (a.s+1)=a' at mv t1 t2 t3 t4 key L' Ja⊢;refine I.still L hn ha (Bw L L' hn (fun k hk=>Nk _ _ _ _ hk) rfl (by rw[yI,ha,mv.buf]) (by rw[yI,ha,mv.held]) (by rw[yI,ha,mv.old]) (by rw[ha,hp];rfl) (by rw[yI];exact t4)) (fun x=>by rw[e0,eP t3,mv.buf]) (fun _=>.inl ⟨by rw[hp];rfl,mv.new,mv.log⟩) (by rw[t2,hp];rfl) mv.fin (fun b h1 h2 E=>⟨h1.Qm mv,?_⟩);unfold kH at h2;rw[hp] at h2;exact(key b h1 h2).env E Ja
theorem ZW (I:dP N words M m s cw) (L:bS N words m) (hn:n<N) (hN:N<=4) (wf:∀l∈rs,∀o∈l,1<=o.at_/\o.at_<=words) (hM:(M:Int)=words+1) (ha:m.aM n=a) (hfin:a.fin=0) (hp:a.pt= .Bc) (L':bS N words (m.act rs n)):dP N words M (m.act rs n) s cw:=by
 have HA:=L.th n hn;rw[ha] at HA;have hsm:=HA.some;have hb:=HA.bare (by rw[hp];rfl);have aY:=HA.held;rw[hp] at hsm aY;simp only at hsm aY;have hs:=hsm.2.1;rw[uN ha hp] at L'⊢;have un:bS N words (m.set n (a.bJ 0))->dP N words M (m.set n (a.bJ 0)) s cw:=fun q=>Kk I L hn wf ha hfin (by rw[hp];rfl) (by rw[hp];rfl) 0 q
 have pn:∀k,k<N->k≠n->¬(m.aM k).has a.s->∀x,aV x=a.s->(m.aM k).pt.pend=true->¬Keys (m.aM k) x:=fun k hk _ q x hx hpk hkx=>q (.inl (by rw[<-hx];exact(L.th k hk).ES hpk hkx))
 by_cases h1:dh a.buf m.aN a.s%2=0
 ·rw[if_pos h1] at L'⊢;by_cases h2:a.bX<dh a.buf m.aN a.s/2
  ·rw[if_pos h2] at L'⊢;exact un L'
  ·rw[if_neg h2] at L'⊢;refine WH I L hn hN wf hM ha hfin hp L' (fun b q1 x q2 q3=>?_);have hno:(m.aM n).held a.s=false:=by
    cases hh:(m.aM n).held a.s with
    |false=>rfl
    |true=>
     have:=(L.own n hn a.s hs).2 (.inl hh);rw[hb] at h1;have e1:dh [] m.aN a.s=m.aN a.s:=rfl;rw[e1] at h1;omega
   obtain⟨f1,f2⟩:=L.seen hn hs hno (by rw[ha];exact h1);rw[ha] at f1;refine⟨fun c hc hw _=>?_,fun k hk hkn hpk _=>pn k hk hkn (f2 k hk hkn) x q3 hpk⟩;have:=I.M6 c hc x hw;rw[q3] at this;omega
 ·rw[if_neg h1] at L'⊢;by_cases h2:dh a.buf m.aN a.s=2*n+1
  ·rw[if_pos h2] at L'⊢;by_cases h3:a.bX<a.old a.s/2
   ·rw[if_pos h3] at L'⊢;exact un L'
   ·rw[if_neg h3] at L'⊢;refine WH I L hn hN wf hM ha hfin hp L' (fun b q1 x q2 q3=>?_);have hown:m.aN a.s=2*n+1:=by
     rw[hb] at h2;exact h2
    have hhas:=(L.own n hn a.s hs).1 hown;have hhe:(m.aM n).held a.s=true:=by
     rcases hhas with q|⟨v,q⟩
     ·exact q
     ·rw[ha,hb] at q;simp at q
    have f1:=L.jJ hn hs hhe;rw[ha] at f1;unfold aO.says at f1;rw[hp] at f1;refine⟨fun c hc hw _=>?_,fun k hk hkn hpk _=>pn k hk hkn (fun q=>hkn (L.one hk hn hs q hhas)) x q3 hpk⟩;have h5:=I.M6 c hc x hw;rw[q3,f1] at h5;have h6:c.place<=a.old a.s/2:=h5;omega
  ·rw[if_neg h2] at L'⊢;exact un L'
end
end
section
variable {N n k M:Nat} {words C C':Int} {m m':AS} {a a':aO} {b:bV} {rs:List (List Tx)} {l:List Tx} {x v:Int} {s s':HS} {cw:List bV}
theorem Md {c1 c2:Int} (hc:c1<=c2) (h:∀a∈cw,lK a x->a.place<=c2->a.place<=c1):CP cw c2 x=CP cw c1 x:=by
 have h1:CP (cw.filter (fun a=>decide (a.place<=c2))) c1 x=CA (cw.filter (fun a=>decide (a.place<=c2))) x:=WL (fun a ha hw=>by
  rw[List.mem_filter] at ha;exact h a ha.1 hw (by simpa using ha.2))
 have h2:CP (cw.filter (fun a=>decide (a.place<=c2))) c1=CP cw c1:=by
  unfold CP;rw[List.filter_filter];congr 2
  funext a
  by_cases q:a.place<=c1
  ·simp[q];omega
  ·simp[q]
 rw[h2] at h1;exact h1.symm
section
theorem aa9 (I:dP N words M m s cw) (L:bS N words m) (hn:n<N) (hN:N<=4) (wf:∀l∈rs,∀o∈l,1<=o.at_/\o.at_<=words) (hM:(M:Int)=words+1) (ha:m.aM n=a) (hfin:a.fin=0) (hp:a.pt= .BM) (L':bS N words (m.act rs n)):∃s' cw',dP N words M (m.act rs n) s' cw':=by
 have HA:=L.th n hn;rw[ha] at HA;have aY:=HA.held;have hne:=HA.some;have hnew:=HA.new;have hold:=HA.old;have hb:=HA.bare (by rw[hp];rfl);rw[hp] at aY hne hnew hold;simp only at aY hne hnew;rw[uP ha hp] at L'⊢;have hlive:=uJ I L hn hN wf hM ha hfin;obtain⟨j,b,q1,q2,q3,q4⟩:=I.busy n hn (by rw[ha,hp];rfl);rw[ha] at q3 q4;unfold kH at q4;rw[hp] at q4;simp only at q4;obtain⟨p1,p2⟩:=I.YK n hn (by rw[ha,hp];rfl);have p3:=I.snap n hn (by rw[ha,hp];rfl);rw[ha] at p1 p2 p3;have hpos:0<a.log.length:=List.length_pos_iff.2 hne;have e1:a.iB 0={a with pt:=.wb,i:=0}:=by unfold aO.iB;rw[if_pos hpos]
 rw[e1] at L'⊢;obtain⟨b',hb', -, -,hk0,hp0,hw0,hb1,hb2⟩:=I.eu.j_ q1;rw[q2] at hb';cases hb';have okb:=I.eu.oQ b (bA q2);have hread:wY b.done (CP cw (a.new - 1)):=B_ _ okb.rd (fun x hx=>by
  rw[q3.bX];refine(Md (by omega) (fun c hc hw hcl=>?_)).symm;exact(q4 x hx).1 c hc hw (by omega))
 have eu:=I.eu.writer hlive (by omega) q1 q2 (p:=a.new) (by rw[q3.bX];exact hnew.1) hnew.2 p1 hread (fun c hc hz y hy hw=>p3 c hc hz y hy ((q3.writes y).1 hw));obtain⟨X,hX⟩:∃X,X=dW ⟨n,7,a.new,1⟩ m.evs.length b:=⟨_,rfl⟩;have ZZ:X.place=a.new:=by rw[hX];rfl
 have hXw:∀y,lK X y↔Keys a y:=fun y=>by rw[hX,<-q3.writes y];exact Iff.rfl
 rw[<-hX] at eu;have hth:∀k,((m.set n {a with pt:=.wb,i:=0}).tell n 7 a.new 1).aM k=if k=n then {a with pt:=.wb,i:=0} else m.aM k:=fun k=>rfl
 have hnn:((m.set n {a with pt:=.wb,i:=0}).tell n 7 a.new 1).aM n={a with pt:=.wb,i:=0}:=by rw[hth,if_pos rfl]
 generalize hm':(m.set n {a with pt:=.wb,i:=0}).tell n 7 a.new 1=m' at L' hth hnn⊢;have hdat:m'.data=m.data:=by rw[<-hm'];rfl
 have hlk:m'.aN=m.aN:=by rw[<-hm'];rfl
 have hck:m'.clock=m.clock:=by rw[<-hm'];rfl
 have hev:m'.evs=m.evs++[⟨n,7,a.new,1⟩]:=by rw[<-hm'];rfl
 have hkh:∀x,Keys a x->a.held (aV x)=true:=fun x ⟨c,hc,hcx⟩=>by rw[aY];exact qh.2 ⟨c,hc,by rw[hcx]⟩
 have Ve:∀i,i<16->a.held i=true->fv m' i=a.new/\fv m i=a.old i/2/\a.old i/2<a.new:=fun i hi hh=>by
  refine⟨?_,?_,(hold i hh).2.2.2 rfl⟩
  ·rw[L'.jJ hn hi (by rw[hnn];exact hh),hnn];rfl
  ·rw[L.jJ hn hi (by rw[ha];exact hh),ha];unfold aO.says;rw[hp];rfl
 have adR:∀i,i<16->a.held i=false->fv m' i=fv m i:=fun i hi hh=>by
  rcases L.yR hi with⟨r1,r2,r3⟩|⟨k,hk,r1,r2⟩
  ·rw[r2,qZ (by rw[hlk];exact r1),hlk]
  ·by_cases e:k=n
   ·subst e;rcases r1 with r1|⟨v,r1⟩
    ·rw[ha,hh] at r1;cases r1
    ·rw[ha,hb] at r1;simp at r1
   ·rcases r1 with r1|⟨v,r1⟩
    ·rw[L.jJ hk hi r1,L'.jJ hk hi (by rw[hth,if_neg e];exact r1),hth,if_neg e]
    ·rw[L.oh hk hi r1,L'.oh hk hi (by rw[hth,if_neg e];exact r1)]
 have Nr:∀i,i<16->fv m i<=fv m' i:=fun i hi=>by
  cases hh:a.held i with
  |true=>have:=Ve i hi hh;omega
  |false=>rw[adR i hi hh];exact Int.le_refl _
 have how:({a with pt:=.wb,i:=0}:aO).owed=a.log.map (fun c=>fF.dat c.1 c.2):=by
  unfold aO.owed;simp[hb]
 have hown:a.owed=[]:=by rw[eP (by rw[hp];intro q;cases q),hb]
 have hlast:∀x,¬Keys a x->gZ x (a.log.map (fun c=>fF.dat c.1 c.2))=none:=fun x hx=>Ea (fun c hc q=>hx ⟨c,hc,q⟩)
 have hother:∀k,k<N->k≠n->∀x,gZ x (m.aM k).owed≠none->¬Keys a x:=fun k hk hkn x hx hka=>hkn (L.one hk hn (bO x) (L.owes hk hx).2 (.inl (by rw[ha];exact hkh x hka)))
 have Ti:∀x,Keys a x->∀f,CA (uk X cw) x=look a.log f x:=fun x hx f=>by
  rw[PK (fun c hc hw=>?_) ((hXw x).2 hx) f]
  ·rw[hX];exact q3.log.wN f x
  ·have h1:=I.M6 c hc x hw;have h2:=Ve _ (bO x) (hkh x hx);rw[ZZ];omega
 have hcn:∀x,¬Keys a x->CA (uk X cw) x=CA cw x:=fun x hx=>Od I.eu.inc (fun q=>hx ((hXw x).1 q))
 refine⟨_,_,⟨by rw[hev,hck];exact eu,fun k hk hf=>?_,fun k hk hq=>?_,fun k hk hq=>?_,fun x h1 h2 h3=>?_,fun k hk x v hv=>?_,fun c hc x hx=>?_,fun k hk hq=>?_,fun k hk hq c hc hz y hy=>?_⟩⟩
 ·by_cases e:k=n
  ·subst e;exact hlive
  ·rw[hth,if_neg e] at hf;exact I.live k hk hf
 ·by_cases e:k=n
  ·subst e;exact fG _ _ _
  ·rw[hth,if_neg e] at hq;show upd s.opn n none k=none;rw[jm _ _ e];exact I.idle k hk hq
 ·by_cases e:k=n
  ·subst e;rw[hnn] at hq;cases hq
  ·rw[hth,if_neg e] at hq⊢;obtain⟨i,c,r1,r2,r3,r4⟩:=I.busy k hk hq;refine⟨i,c,by show upd s.opn n none k=_;rw[jm _ _ e];exact r1,by rw[show(⟨s.bu.modify j (dW ⟨n,7,a.new,1⟩ m.evs.length),upd s.opn n none,s.ended⟩:HS).bu=s.bu.modify j (dW ⟨n,7,a.new,1⟩ m.evs.length) from rfl,kF (I.eu.other e q1 r1)];exact r2,r3,?_⟩;have hAk:=L.th k hk;have aet:=hAk.new;unfold kH at r4⊢;have hvd:∀x,(m.aM k).pt.pend=true->Vd N m cw k (m.aM k) x->Vd N m' (uk X cw) k (m.aM k) x:=fun x hpk hv=>by
    refine⟨fun d hd hw hlt=>?_,fun i hi hik hpi hlt=>?_⟩
    ·rcases(zn X cw d).1 hd with rfl|hd
     ·exact absurd ((hXw x).1 hw) (by
       have:=hv.2 n hn (fun q=>e q.symm) (by rw[ha,hp];rfl) (by rw[ha,<-ZZ];exact hlt);rw[ha] at this;exact this)
     ·exact hv.1 d hd hw hlt
    ·by_cases e2:i=n
     ·subst e2;rw[hnn] at hpi;cases hpi
     ·rw[hth,if_neg e2] at hpi hlt⊢;exact hv.2 i hi hik hpi hlt
   have hsame:∀x,(m.aM k).l1/2<=fv m (aV x)->(m.aM k).l1/2=fv m' (aV x)->(m.aM k).l1/2=fv m (aV x)/\¬Keys a x:=fun x h1 h2=>by
    have h3:=Nr _ (bO x);refine⟨by omega,fun hka=>?_⟩;have h4:=Ve _ (bO x) (hkh x hka);omega
   cases hpk:(m.aM k).pt<;>rw[hpk] at r4<;>simp only at r4⊢
   ·refine⟨?_,r4.2.imp id (fun⟨u1,u2⟩=>⟨u1,fun i hi hpi hle=>?_⟩)⟩
    ·rcases r4.2 with u|⟨u1,u2⟩
     ·obtain⟨e3,he3,h31,h32⟩:=(r3.writes _).2 u;rw[<-r4.1];exact FH _ _ _ ⟨e3,he3,h31,h32⟩
     ·rw[<-r4.1];refine Ma _ ?_;by_cases hlt:(m.aM k).bX<X.place
      ·rw[tC I.eu.inc hlt]
      ·refine zK I.eu.inc _ (fun q=>?_);have:=u2 n hn (by rw[ha,hp];rfl) (by rw[ha,<-ZZ];omega);rw[ha] at this;exact this ((hXw _).1 q)
    ·by_cases e2:i=n
     ·subst e2;rw[hnn] at hpi;cases hpi
     ·rw[hth,if_neg e2] at hpi hle⊢;exact u2 i hi hpi hle
   ·exact r4
   ·refine⟨r4.1,Int.le_trans r4.2.1 (Nr _ (bO _)),fun u i hi hik=>?_⟩;obtain⟨u1,u2⟩:=hsame _ r4.2.1 u;by_cases e2:i=n
    ·subst e2;rw[hnn,how];exact hlast _ u2
    ·rw[hth,if_neg e2];exact r4.2.2 u1 i hi hik
   ·refine⟨r4.1,Int.le_trans r4.2.1 (Nr _ (bO _)),fun u=>?_⟩;obtain⟨u1,u2⟩:=hsame _ r4.2.1 u;rw[hcn _ u2];exact r4.2.2 u1
   ·exact fun x hx hs=>hvd x (by rw[hpk];rfl) (r4 x hx hs)
   ·exact fun x hx=>hvd x (by rw[hpk];rfl) (r4 x hx)
 ·have hk0:¬Keys a x:=fun⟨c,hc,hcx⟩=>by
   have:=h3 n hn;rw[hnn,how,<-hcx,Jq HA.tJ hc] at this;cases this
  rw[hdat,hcn x hk0];refine I.TL x h1 h2 (fun k hk=>?_);by_cases e:k=n
  ·subst e;rw[ha,hown];rfl
  ·have:=h3 k hk;rw[hth,if_neg e] at this;exact this
 ·by_cases e:k=n
  ·subst e;rw[hnn,how] at hv;by_cases hka:Keys a x
   ·obtain⟨c,hc,rfl⟩:=hka;rw[Jq HA.tJ hc] at hv;cases hv;rw[Ti c.1 ⟨c,hc,rfl⟩ (fun _=>0),qw (uu HA.tJ) hc]
   ·rw[hlast x hka] at hv;cases hv
  ·rw[hth,if_neg e] at hv;rw[hcn x (hother k hk e x (by rw[hv];simp))];exact I.Pg k hk x v hv
 ·have lQ:=bO x;rcases(zn X cw c).1 hc with rfl|hc
  ·rw[(Ve _ lQ (hkh x ((hXw x).1 hx))).1,ZZ];exact Int.le_refl _
  ·exact Int.le_trans (I.M6 c hc x hx) (Nr _ lQ)
 ·have e:k≠n:=fun e=>by subst e;rw[hnn] at hq;cases hq
  rw[hth,if_neg e] at hq⊢;refine⟨fun c hc=>?_,fun i hi hik hpi=>?_⟩
  ·rcases(zn X cw c).1 hc with rfl|hc
   ·rw[ZZ];exact fun q=>p2 k hk e hq q.symm
   ·exact(I.YK k hk hq).1 c hc
  ·have e2:i≠n:=fun e2=>by subst e2;rw[hnn] at hpi;cases hpi
   rw[hth,if_neg e2] at hpi⊢;exact(I.YK k hk hq).2 i hi hik hpi
 ·have e:k≠n:=fun e=>by subst e;rw[hnn] at hq;cases hq
  rw[hth,if_neg e] at hq hz⊢;rcases eU q2 hc with rfl|hc
  ·have hz':(m.aM k).new<=b.clock\/(m.aM k).new<a.new:=by
    rcases hz with hz|⟨-, -,hz⟩
    ·exact .inl hz
    ·exact .inr hz
   rcases hz' with hz'|hz'
   ·exact I.snap k hk hq b (bA q2) (.inl hz') y hy
   ·exact(q4 y hy).2 k hk e hq hz'
  ·exact I.snap k hk hq c hc hz y hy
end
theorem dP.flush (I:dP N words M m s cw) (L:bS N words m) (hn:n<N):dP N words M (m.flush n) s cw:=by
 have L':=L.flush hn;have QA:=Q0 L hn;obtain⟨a,ha⟩:∃a,m.aM n=a:=⟨_,rfl⟩;unfold AS.flush at L' QA⊢;rw[ha] at L' QA⊢;cases hb:a.buf with
 |nil=>exact I
 |cons e r=>
  rw[hb] at L' QA;have Ff:∀(m':AS),(∀k,m'.aM k=if k=n then {a with buf:=r} else m.aM k)->m'.evs=m.evs->m'.clock=m.clock->(∀i,i<16->fv m' i=fv m i)->
    (∀x,1<=x->x<=words->(∀k,k<N->gZ x (m'.aM k).owed=none)->m'.data x=CA cw x)->dP N words M m' s cw:=by
   intro m' hth hev hck hf hmem;have hnn:m'.aM n={a with buf:=r}:=by rw[hth,if_pos rfl]
   have how:∀x v,gZ x ({a with buf:=r}:aO).owed=some v->gZ x a.owed=some v:=fun x v hv=>by
    have e2:a.owed=e::({a with buf:=r}:aO).owed:=by
     unfold aO.owed;cases a.pt<;>simp[hb]
    rw[e2,qC,hv]
   have hnone:∀k x,gZ x (m.aM k).owed=none->gZ x (m'.aM k).owed=none:=fun k x hx=>by
    rw[hth];split
    ·rename_i e2;subst e2;cases hl:gZ x ({a with buf:=r}:aO).owed with
     |none=>rfl
     |some v=>rw[ha,how x v hl] at hx;cases hx
    ·exact hx
   have hpn:∀k,(m'.aM k).pt=(m.aM k).pt/\(m'.aM k).new=(m.aM k).new/\(m'.aM k).log=(m.aM k).log/\(m'.aM k).fin=(m.aM k).fin:=fun k=>by
    rw[hth];split
    ·rename_i e2;subst e2;rw[ha];exact⟨rfl,rfl,rfl,rfl⟩
    ·exact⟨rfl,rfl,rfl,rfl⟩
   have hky:∀k x,Keys (m'.aM k) x↔Keys (m.aM k) x:=fun k x=>yX (hpn k).2.2.1
   have hvd:∀k c x,Vd N m cw k c x->Vd N m' cw k c x:=fun k c x hv=>⟨hv.1,fun i hi hik hpi hlt=>by
    rw[(hpn i).1] at hpi;rw[(hpn i).2.1] at hlt;rw[hky];exact hv.2 i hi hik hpi hlt⟩
   have hpt:∀k c d,kH N m cw k c d->kH N m' cw k c d:=fun k c d h=>by
    unfold kH at h⊢;cases hq:c.pt<;>rw[hq] at h<;>simp only at h⊢
    ·refine⟨h.1,h.2.imp id (fun⟨q1,q2⟩=>⟨q1,fun i hi hpi hle=>?_⟩)⟩;rw[(hpn i).1] at hpi;rw[(hpn i).2.1] at hle;rw[hky];exact q2 i hi hpi hle
    ·exact h
    ·rw[hf _ (bO _)];exact⟨h.1,h.2.1,fun q i hi hik=>hnone i _ (h.2.2 q i hi hik)⟩
    ·rw[hf _ (bO _)];exact h
    ·exact fun x hx hs=>hvd k c x (h x hx hs)
    ·exact fun x hx=>hvd k c x (h x hx)
   refine⟨by rw[hev,hck];exact I.eu,fun k hk hq=>I.live k hk (by rw[<-(hpn k).2.2.2];exact hq),fun k hk hq=>I.idle k hk (by rw[<-(hpn k).1];exact hq),fun k hk hq=>?_,hmem,fun k hk x v hv=>?_,fun c hc x hx=>by rw[hf _ (bO _)];exact I.M6 c hc x hx,fun k hk hq=>?_,fun k hk hq c hc hz y hy=>?_⟩
   ·obtain⟨i,c,r1,r2,r3,r4⟩:=I.busy k hk (by rw[<-(hpn k).1];exact hq);refine⟨i,c,r1,r2,?_,?_⟩
    ·rw[hth];split
     ·rename_i e2;subst e2;rw[ha] at r3;exact⟨r3.bX,r3.log,r3.rd⟩
     ·exact r3
    ·have:=hpt k _ _ r4;rw[hth];split
     ·rename_i e2;subst e2;rw[ha] at this;exact this
     ·exact this
   ·rw[hth] at hv;split at hv
    ·rename_i e2;subst e2;exact I.Pg k hk x v (by rw[ha];exact how x v hv)
    ·exact I.Pg k hk x v hv
   ·rw[(hpn k).1] at hq;rw[(hpn k).2.1];refine⟨(I.YK k hk hq).1,fun i hi hik hpi=>?_⟩;rw[(hpn i).1] at hpi;rw[(hpn i).2.1];exact(I.YK k hk hq).2 i hi hik hpi
   ·rw[(hpn k).1] at hq;rw[(hpn k).2.1] at hz;rw[hky];exact I.snap k hk hq c hc hz y hy
  have e2:a.owed=e::({a with buf:=r}:aO).owed:=by
   unfold aO.owed;cases a.pt<;>simp[hb]
  cases e with
  |dat y w=>
   refine Ff _ (fun k=>rfl) rfl rfl QA (fun x h1 h2 h3=>?_);show(if x=y then w else m.data x)=_;have Zg:=h3 n hn;have hnn:(({m with data:=fun z=>if z=y then w else m.data z}:AS).set n {a with buf:=r}).aM n={a with buf:=r}:=yI _ _ _;rw[hnn] at Zg;by_cases hxy:x=y
   ·subst hxy;rw[if_pos rfl];refine I.Pg n hn x w ?_;rw[ha,e2,qC,Zg];simp[xx]
   ·rw[if_neg hxy];refine I.TL x h1 h2 (fun k hk=>?_);by_cases q:k=n
    ·subst q;rw[ha,e2,qC,Zg];simp[xx];exact fun q=>hxy q.symm
    ·have:=h3 k hk;rw[Nk _ _ _ _ q] at this;exact this
  |lock i w=>
   refine Ff _ (fun k=>rfl) rfl rfl QA (fun x h1 h2 h3=>I.TL x h1 h2 (fun k hk=>?_));by_cases q:k=n
   ·subst q;have Zg:=h3 k hk;rw[yI] at Zg;rw[ha,e2,qC,Zg];rfl
   ·have:=h3 k hk;rw[Nk _ _ _ _ q] at this;exact this
theorem dP.act (I:dP N words M m s cw) (L:bS N words m) (hn:n<N) (hN:N<=4) (wf:∀l∈rs,∀o∈l,1<=o.at_/\o.at_<=words) (hM:(M:Int)=words+1) (hfin:(m.aM n).fin=0) (hbare:(m.aM n).bare):bS N words (m.act rs n)/\∃s' cw',dP N words M (m.act rs n) s' cw':=by
 have L':=L.act (rs:=rs) hn hfin hbare wf;refine⟨L',?_⟩;obtain⟨a,ha⟩:∃a,m.aM n=a:=⟨_,rfl⟩;rw[ha] at hfin hbare;cases hp:a.pt with
 |look=>obtain⟨s',h⟩:=X4 I L hn hN wf hM ha hfin hp L';exact⟨s',cw,h⟩
 |rd=>obtain⟨s',h⟩:=acw I L hn hN wf hM ha hfin hp L';exact⟨s',cw,h⟩
 |Bz=>exact⟨s,cw,ZY I L hn wf ha hfin hp L'⟩
 |dat=>exact⟨s,cw,ZE I L hn wf ha hfin hp L'⟩
 |ym=>exact⟨s,cw,ZH I L hn wf ha hfin hp L'⟩
 |wr=>obtain⟨s',h⟩:=adw I L hn hN wf hM ha hfin hp L';exact⟨s',cw,h⟩
 |full=>obtain⟨s',h⟩:=XP I L hn hN wf hM ha hfin hp L';exact⟨s',cw,h⟩
 |ro=>obtain⟨s',h⟩:=acm I L hn hN wf hM ha hfin hp L';exact⟨s',cw,h⟩
 |Eg=>exact⟨s,cw,aax I L hn wf ha hfin hp L'⟩
 |zw=>exact⟨s,cw,abB I L hn hN wf hM ha hfin hp (hbare (.inl hp)) L'⟩
 |qG=>exact⟨s,cw,Ym I L hn hN wf hM ha hfin hp L'⟩
 |Bc=>exact⟨s,cw,ZW I L hn hN wf hM ha hfin hp L'⟩
 |BM=>exact aa9 I L hn hN wf hM ha hfin hp L'
 |wb=>exact⟨s,cw,acS I L hn wf ha hfin hp L'⟩
 |rel=>exact⟨s,cw,aa2 I L hn wf ha hfin hp L'⟩
 |DK=>exact⟨s,cw,ZR I L hn wf ha hfin hp L'⟩
 |u6=>obtain⟨s',h⟩:=aas I L hn hN wf hM ha hfin hp L';exact⟨s',cw,h⟩
 |out=>obtain⟨s',h⟩:=aau I L hn hN wf hM ha hfin hp L';exact⟨s',cw,h⟩
 |halt=>obtain⟨s',h⟩:=X3 I L hn hN wf hM ha hfin hp L';exact⟨s',cw,h⟩
 |over=>rw[tu ha hp];exact⟨s,cw,I⟩
end
section
structure LS where
 pc:Nat
 r0:Int
 r1:Int
 r2:Int
 r3:Int
 r4:Int
 r5:Int
 r6:Int
 r7:Int
 pv:Int->Int
def LS.get (s:LS):Nat->Int
 |0=>s.r0|1=>s.r1|2=>s.r2|3=>s.r3|4=>s.r4|5=>s.r5|6=>s.r6|7=>s.r7|_=>0
def LS.put (s:LS):Nat->Int->LS
 |0,v=>⟨s.pc+1,v,s.r1,s.r2,s.r3,s.r4,s.r5,s.r6,s.r7,s.pv⟩
 |1,v=>⟨s.pc+1,s.r0,v,s.r2,s.r3,s.r4,s.r5,s.r6,s.r7,s.pv⟩
 |2,v=>⟨s.pc+1,s.r0,s.r1,v,s.r3,s.r4,s.r5,s.r6,s.r7,s.pv⟩
 |3,v=>⟨s.pc+1,s.r0,s.r1,s.r2,v,s.r4,s.r5,s.r6,s.r7,s.pv⟩
 |4,v=>⟨s.pc+1,s.r0,s.r1,s.r2,s.r3,v,s.r5,s.r6,s.r7,s.pv⟩
 |5,v=>⟨s.pc+1,s.r0,s.r1,s.r2,s.r3,s.r4,v,s.r6,s.r7,s.pv⟩
 |6,v=>⟨s.pc+1,s.r0,s.r1,s.r2,s.r3,s.r4,s.r5,v,s.r7,s.pv⟩
 |7,v=>⟨s.pc+1,s.r0,s.r1,s.r2,s.r3,s.r4,s.r5,s.r6,v,s.pv⟩
 |_,_=>s
theorem ay (s:LS) (v:Int):s.put 0 v=⟨s.pc+1,v,s.r1,s.r2,s.r3,s.r4,s.r5,s.r6,s.r7,s.pv⟩:=rfl
theorem az (s:LS) (v:Int):s.put 1 v=⟨s.pc+1,s.r0,v,s.r2,s.r3,s.r4,s.r5,s.r6,s.r7,s.pv⟩:=rfl
theorem ax (s:LS) (v:Int):s.put 2 v=⟨s.pc+1,s.r0,s.r1,v,s.r3,s.r4,s.r5,s.r6,s.r7,s.pv⟩:=rfl
theorem au (s:LS) (v:Int):s.put 3 v=⟨s.pc+1,s.r0,s.r1,s.r2,v,s.r4,s.r5,s.r6,s.r7,s.pv⟩:=rfl
theorem ak (s:LS) (v:Int):s.put 4 v=⟨s.pc+1,s.r0,s.r1,s.r2,s.r3,v,s.r5,s.r6,s.r7,s.pv⟩:=rfl
theorem aD (s:LS) (v:Int):s.put 5 v=⟨s.pc+1,s.r0,s.r1,s.r2,s.r3,s.r4,v,s.r6,s.r7,s.pv⟩:=rfl
theorem aG (s:LS) (v:Int):s.put 6 v=⟨s.pc+1,s.r0,s.r1,s.r2,s.r3,s.r4,s.r5,v,s.r7,s.pv⟩:=rfl
theorem aA (s:LS):s.get 0=s.r0:=rfl
theorem ah (s:LS):s.get 1=s.r1:=rfl
theorem ai (s:LS):s.get 2=s.r2:=rfl
theorem aB (s:LS):s.get 3=s.r3:=rfl
theorem aC (s:LS):s.get 4=s.r4:=rfl
theorem aF (s:LS):s.get 5=s.r5:=rfl
theorem aH (s:LS):s.get 6=s.r6:=rfl
theorem aj (s:LS):s.get 7=s.r7:=rfl
def LS.at (s:LS) (q:Nat):LS:=⟨q,s.r0,s.r1,s.r2,s.r3,s.r4,s.r5,s.r6,s.r7,s.pv⟩
def yw (f:Int->Int) (a v:Int):Int->Int:=fun x=>if x=a then v else f x
theorem gu (f:Int->Int) (a v:Int):yw f a v a=v:=if_pos rfl
theorem aW (f:Int->Int) {a v x:Int} (h:x≠a):yw f a v x=f x:=if_neg h
def LS.aT (s:LS) (x v:Int):LS:=⟨s.pc+1,s.r0,s.r1,s.r2,s.r3,s.r4,s.r5,s.r6,s.r7,yw s.pv x v⟩
inductive UI (lo hi:Int):bM->LS->LS->Prop
 |set {c b d n:Int} {a:Nat} {s:LS}:a<8->UI lo hi ⟨1,c,a,b,d,n⟩ s (s.put a n)
 |move {c d n:Int} {a b:Nat} {s:LS}:a<8->b<8->UI lo hi ⟨2,c,a,b,d,n⟩ s (s.put a (s.get b))
 |nQ {c d n v:Int} {a b:Nat} {s:LS}:a<8->b<8->gL c (s.get a) (s.get b)=some v->UI lo hi ⟨3,c,a,b,d,n⟩ s (s.put a v)
 |load {c d n x:Int} {a b:Nat} {s:LS}:a<8->b<8->fq (s.get b+n)=x->lo<=x->x<hi->UI lo hi ⟨4,c,a,b,d,n⟩ s (s.put a (s.pv x))
 |store {c d n x:Int} {a b:Nat} {s:LS}:a<8->b<8->fq (s.get a+n)=x->lo<=x->x<hi->UI lo hi ⟨5,c,a,b,d,n⟩ s (s.aT x (s.get b))
 |jump {c a b d:Int} {q:Nat} {s:LS}:UI lo hi ⟨6,c,a,b,d,(q:Int)⟩ s (s.at q)
 |zero {c b d:Int} {a q:Nat} {s:LS}:a<8->s.get a=0->UI lo hi ⟨7,c,a,b,d,(q:Int)⟩ s (s.at q)
 |more {c b d n:Int} {a:Nat} {s:LS}:a<8->s.get a≠0->UI lo hi ⟨7,c,a,b,d,n⟩ s (s.at (s.pc+1))
inductive dX (code:List bM) (lo hi:Int) (Q:LS->Prop):Nat->LS->Prop
 |here {k:Nat} {s:LS}:Q s->dX code lo hi Q k s
 |step {k:Nat} {s s':LS} {o:bM}:code[s.pc]? =some o->UI lo hi o s s'->dX code lo hi Q k s'->dX code lo hi Q (k+1) s
variable {code:List bM} {lo hi:Int} {Q R:LS->Prop} {k j:Nat} {s s':LS}
theorem dX.le (h:dX code lo hi Q k s):∀{j:Nat},k<=j->dX code lo hi Q j s:=by
 induction h with
 |here hq=>intro j _;exact .here hq
 |step hc hl _ ih=>
  intro j hj;obtain⟨i,rfl⟩:∃i,j=i+1:=⟨j - 1,by omega⟩;exact .step hc hl (ih (by omega))
theorem dX.mono (h:dX code lo hi Q k s) (hq:∀s,Q s->R s):dX code lo hi R k s:=by
 induction h with
 |here h=>exact .here (hq _ h)
 |step hc hl _ ih=>exact .step hc hl ih
def Seg (code:List bM) (p:Nat) (l:List bM):Prop:=∀(i:Nat) (o:bM),l[i]? =some o->code[p+i]? =some o
theorem Seg.left {p:Nat} {l m:List bM} (h:Seg code p (l++m)):Seg code p l:=fun i o ho=>h i o (by rw[List.getElem?_append_left (bE.1 ho).1];exact ho)
theorem Seg.right {p:Nat} {l m:List bM} (h:Seg code p (l++m)) {n:Nat} (hn:l.length=n):Seg code (p+n) m:=fun i o ho=>by
 rw[Nat.add_assoc];exact h (n+i) o (by rw[List.getElem?_append_right (by omega),hn,Nat.add_sub_cancel_left];exact ho)
theorem Seg.self (l:List bM):Seg l 0 l:=fun i o ho=>by rw[Nat.zero_add];exact ho
def MT.ls (lo hi:Int) (m:MM) (t:MT):LS:=⟨t.at_.toNat,t.reg 0,t.reg 1,t.reg 2,t.reg 3,t.reg 4,t.reg 5,t.reg 6,t.reg 7,fun a=>if lo<=a/\a<hi then m.found t a else 0⟩
theorem gm (q:List (Int×Int)) (x v a:Int):jS (q++[(x,v)]) a=if a=x then some v else jS q a:=by
 unfold jS;rw[List.reverse_append,List.reverse_singleton,List.singleton_append,List.find?_cons];by_cases h:a=x
 ·subst h;simp
 ·rw[if_neg h];have:((x,v).1==a)=false:=by simp;exact fun e=>h e.symm
  rw[this]
theorem eight {P:Nat->Prop} (h0:P 0) (h1:P 1) (h2:P 2) (h3:P 3) (h4:P 4) (h5:P 5) (h6:P 6) (h7:P 7):∀a,a<8->P a:=by
 intro a ha;have:a=0\/a=1\/a=2\/a=3\/a=4\/a=5\/a=6\/a=7:=by omega
 rcases this with rfl|rfl|rfl|rfl|rfl|rfl|rfl|rfl<;>assumption
theorem SB {m:MM} {t:MT}:∀a,a<8->(t.ls lo hi m).get a=t.reg a:=eight rfl rfl rfl rfl rfl rfl rfl rfl
theorem JX {m:MM} {t:MT} {a:Nat} (h:a<8):t.r (a:Int)=(t.ls lo hi m).get a:=by rw[SB a h];rfl
theorem rJ {m m':MM} {t:MT} (h0:0<=t.at_) (hm:m'.mem=m.mem) (v:Int):∀a:Nat,a<8->(t.goes (a:Int) v).ls lo hi m'=(t.ls lo hi m).put a v:=by
 have hpc:(t.at_+1).toNat=t.at_.toNat+1:=by omega
 have hf:∀(a:Nat) x,m'.found (t.goes (a:Int) v) x=m.found t x:=fun a x=>by unfold MM.found MM.at;rw[hm];rfl
 apply eight<;>(simp only[MT.ls,hf];simp only[MT.goes,LS.put,hpc];simp[bN])
structure Kept (t t':MT):Prop where
 code:t'.code=t.code
 out:t'.out=t.out
 fin:t'.fin=t.fin
theorem QN {m:MM} {n:Nat} {t:MT} {o:bM} (h0:0<=t.at_) (hlo:0<=lo) (hhi:hi<=m.mem.length) (hc:t.code[t.at_.toNat]? =some o) (hl:UI lo hi o (t.ls lo hi m) s'):
  (m.go n t=(false,m)/\64<=t.wait.length)\/∃t',m.go n t=(true,m.put n t')/\t'.ls lo hi (m.put n t')=s'/\0<=t'.at_/\Kept t t'/\(t'.wait=t.wait\/∃x v,lo<=x/\x<hi/\t'.wait=t.wait++[(x,v)]):=by
 have hcode:(if t.at_<0 then none else t.code[t.at_.toNat]?)=some o:=by rw[if_neg (by omega)];exact hc
 have hpc:(t.at_+1).toNat=t.at_.toNat+1:=by omega
 unfold MM.go;rw[hcode];simp only;cases hl with
 |@set c b d n a _ ha=>
  right
  refine⟨t.goes _ _,?_,rJ h0 rfl _ a ha,by simp only[MT.goes];omega,⟨rfl,rfl,rfl⟩,.inl rfl⟩;simp[MT.word,MT.waits,MM.act]
 |@move c d n a b _ ha hb=>
  right
  refine⟨t.goes _ _,?_,rJ h0 rfl _ a ha,by simp only[MT.goes];omega,⟨rfl,rfl,rfl⟩,.inl rfl⟩;rw[<-JX hb];simp[MT.word,MT.waits,MM.act]
 |@nQ c d n v a b _ ha hb hv=>
  right
  refine⟨t.goes _ v,?_,rJ h0 rfl _ a ha,by simp only[MT.goes];omega,⟨rfl,rfl,rfl⟩,.inl rfl⟩;rw[<-JX ha,<-JX hb] at hv;simp[MT.word,MT.waits,MM.act,hv]
 |@load c d n x a b _ ha hb hx h1 h2=>
  right
  have hhas:m.has x=true:=by simp only[MM.has,decide_eq_true_eq];omega
  rw[<-JX hb] at hx;have hpv:(t.ls lo hi m).pv x=m.found t x:=if_pos ⟨h1,h2⟩;refine⟨t.goes _ (m.found t x),?_,by rw[hpv];exact rJ h0 rfl _ a ha,by simp only[MT.goes];omega,⟨rfl,rfl,rfl⟩,.inl rfl⟩;simp[MT.word,MT.waits,MM.act,hx,hhas]
 |@store c d n x a b _ ha hb hx h1 h2=>
  have hhas:m.has x=true:=by simp only[MM.has,decide_eq_true_eq];omega
  rw[<-JX ha] at hx;by_cases hf:64<=t.wait.length
  ·left
   refine⟨?_,hf⟩;simp[MT.word,MT.waits,hx,hhas,hf]
  ·right
   refine⟨{t.next with wait:=t.wait++[(x,t.r b)]},?_,?_,by simp only[MT.next];omega,⟨rfl,rfl,rfl⟩,.inr ⟨x,_,h1,h2,rfl⟩⟩
   ·simp[MT.word,MT.waits,MM.act,hx,hhas,hf]
   ·rw[<-JX hb];simp only[MT.ls,MT.next,hpc,LS.aT];congr 1
    funext y
    simp only[yw];unfold MM.found;simp only[gm];by_cases hy:y=x
    ·subst hy;rw[if_pos ⟨h1,h2⟩,if_pos rfl,if_pos rfl];rfl
    ·rw[if_neg hy,if_neg hy];rfl
 |@jump c a b d q=>
  right
  refine⟨{t with at_:=(q:Int)},?_,rfl,by simp,⟨rfl,rfl,rfl⟩,.inl rfl⟩;simp[MT.word,MT.waits,MM.act]
 |@zero c b d a q _ ha hz=>
  right
  rw[<-JX ha] at hz;refine⟨{t with at_:=(q:Int)},?_,rfl,by simp,⟨rfl,rfl,rfl⟩,.inl rfl⟩;simp[MT.word,MT.waits,MM.act,hz]
 |@more c b d n a _ ha hz=>
  right
  rw[<-JX ha] at hz;refine⟨{t with at_:=t.at_+1},?_,?_,by simp only;omega,⟨rfl,rfl,rfl⟩,.inl rfl⟩
  ·simp[MT.word,MT.waits,MM.act,hz]
  ·simp only[MT.ls,hpc];rfl
end
theorem F3 {P:Program} (w:World) (t ty:TypeId) (base:Nat) (e:TypeId) (i:TypeInfo) (z:Value) (size bytes:Nat) (ht:P.underlying t=some (.slice e)) (hi:P.info? e=some i) (hz:i.zero=some z)
  (hsize:i.size=size) (hby:i.bytes=bytes) (hzs:z.cells.size=size) (hsz:0<size)
  (v:Value) (n:Nat) (xs:List Value) (hown:w.ownsRow base e size v n xs)
  (ad:Addr) (m c:Nat) (hm:0<m) (news:List Value) (hl:news.length=m*size) (hnews:∀j u,news[j]? =some u->w.cell? (ad.add j)=some u) (h1:∀u∈news,u.oneCell'=true)
  (h63:n+m<=maxLen) (hbytes:(n+m)*bytes<=140737488355328) (hbase:base<=w.heap.size):
  ∃ao cp w',(Builtin.append_ #[t,t] ty #[v,.slice (some ad) m c]).run P w= .ok (.slice ao (n+m) cp) w'/\w'.ownsRow base e size (.slice ao (n+m) cp) (n+m) (xs++news)/\
   (∀g,(Value.slice ao (n+m) cp).ownBlock=some g->v.ownBlock=some g\/w.heap.size<=g)/\w.grownBy w' v.ownBlock:=by
 rcases hown.2 with⟨rfl,rfl⟩|⟨g,cap,cur,rfl,hbg,hg,hnc,hcm,hcs,htake⟩
 ·obtain rfl:xs=[]:=List.eq_nil_of_length_eq_zero (by simpa using hown.1);obtain⟨v',w',hrun,r1,r2,_⟩:=run_append_own (P:=P) w w.heap.size t ty e i z size bytes ht hi hz hsize hby hzs hsz (.slice none 0 0) 0 [] (World.ownsRow_nil w _ e size) ad m c news hl hnews h1 h63 hbytes (aR _);obtain⟨ao,cp,rfl⟩:=bF r1;have r1':=r1;rcases r1.2 with⟨hv,h0⟩|⟨g',cap',cur',hv,_⟩
  ·omega
  ·simp only[Value.slice.injEq] at hv;obtain⟨rfl, -,rfl⟩:=hv;rw[Nat.zero_add] at*;exact⟨_,_,w',hrun,dm r1' hbase,fun g hg=>.inr (r1'.lt g hg).1,yf r2⟩
 ·by_cases hroom:n+m<=cap
  ·obtain⟨w',hrun,r1,r2⟩:=run_append_fits (P:=P) w base t ty e i size ht hi hsize g n cap xs hown ad m c news hl hnews h1 hroom;exact⟨_,_,w',hrun,r1,fun g' hg'=>.inl hg',r2⟩
  ·obtain⟨v',w',hrun,r1,r2⟩:=run_append_arg_grows (P:=P) w t ty e i z size bytes ht hi hz hsize hby hzs hsz ⟨g,0,none⟩ n cap xs hown.1 (hown.cells (g:=g) rfl) ad m c news hl hnews (by omega) h63 hbytes;obtain⟨ao,cp,rfl⟩:=bF r1;rcases r1.2 with⟨hv,h0⟩|⟨g',cap',cur',hv,_⟩
   ·omega
   ·simp only[Value.slice.injEq] at hv;obtain⟨rfl, -,rfl⟩:=hv;exact⟨_,_,w',hrun,dm r1 hbase,fun g hg=>.inr (r1.lt g hg).1,yf r2⟩
theorem kE {P:Program} {ops:Array Oper} {o:Oper} {a:Act} {w:World} {K:Act->World->Prop} {Q:Exit->Act->World->Prop} {E:Prop}
  (hg:o.guard=none) (s x:Operand) (t:TypeId) (hop:o.op=Op.call {callee:=Callee.builtin Builtin.append,args:=#[s,x],argTypes:=#[t,t]})
  (base:Nat) (e:TypeId) (i:TypeInfo) (z:Value) (size bytes:Nat) (ht:P.underlying t=some (.slice e)) (hi:P.info? e=some i) (hz:i.zero=some z)
  (hsize:i.size=size) (hby:i.bytes=bytes) (hzs:z.cells.size=size) (hsz:0<size)
  (v:Value) (n:Nat) (xs:List Value) (hs:a.eval s=v) (hown:w.ownsRow base e size v n xs)
  (ad:Addr) (m c:Nat) (hm:0<m) (news:List Value) (hx:a.eval x= .slice (some ad) m c) (hl:news.length=m*size) (hnews:∀j u,news[j]? =some u->w.cell? (ad.add j)=some u) (h1:∀u∈news,u.oneCell'=true)
  (h63:n+m<=maxLen) (hbytes:(n+m)*bytes<=140737488355328) (hbase:base<=w.heap.size)
  (hK:∀ao cp w',w'.ownsRow base e size (.slice ao (n+m) cp) (n+m) (xs++news)->(∀g,(Value.slice ao (n+m) cp).ownBlock=some g->v.ownBlock=some g\/w.heap.size<=g)->w.grownBy w' v.ownBlock->K (a.put o.dst (.slice ao (n+m) cp)) w'):
  if Region.wanted o (yielded ops a.tmps)=true then Oper.wp P o a w K Q else E:=by
 have hw:Region.wanted o (yielded ops a.tmps)=true:=by simp[Region.wanted,hg]
 rw[if_pos hw];obtain⟨ao,cp,w',hrun,r1,r2,r3⟩:=F3 (P:=P) w t o.type base e i z size bytes ht hi hz hsize hby hzs hsz v n xs hown ad m c hm news hl hnews h1 h63 hbytes hbase;unfold Oper.wp;simp[execOp,hop,resolve,invoke,builtin,hs,hx,hrun,Result.andThen];exact hK ao cp w' r1 r2 r3
end Go.Proofs.YtopdcjimpdalpaaGreat

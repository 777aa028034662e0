import Derived.Test.YtopdcjimpdalpaaGreatR06
namespace Go.Proofs.YtopdcjimpdalpaaGreat
set_option linter.all false
def rf (f:Int->Int) (a:bJ):Int->Int:=sK a.done f
def CA (cw:List bJ):Int->Int:=cw.foldl rf (fun _=>0)
def CP (cw:List bJ) (c:Int):Int->Int:=CA (cw.filter (fun a=>decide (a.place<=c)))
def mh (a:bJ) (x:Int):Prop:=∃e∈a.done,e.k=3/\e.a=x
theorem aac {cw:List bJ} {c:Int} (h:∀a∈cw,a.place<=c):CP cw c=CA cw:=by
 unfold CP;rw[List.filter_eq_self.2 (fun a ha=>by simpa using h a ha)]
theorem OD {cw:List bJ} {c:Int} {x:bJ} (h:c<x.place):CP (cw++[x]) c=CP cw c:=by
 unfold CP;rw[List.filter_append,List.filter_cons_of_neg (by simpa using h),List.filter_nil,List.append_nil]
theorem Mx (l:List Ev) {x:Int} {f g:Int->Int} (h:f x=g x):sK l f x=sK l g x:=by
 by_cases hw:∃e∈l,e.k=3/\e.a=x
 ·exact Iy l f g hw
 ·rw[oh l f (fun e he h1 h2=>hw ⟨e,he,h1,h2⟩),oh l g (fun e he h1 h2=>hw ⟨e,he,h1,h2⟩)];exact h
theorem Ry (c x:Int) (cw:List bJ):∀(f g:Int->Int),f x=g x->(∀a∈cw,mh a x->a.place<=c)->(cw.filter (fun a=>decide (a.place<=c))).foldl rf f x=cw.foldl rf g x:=by
 induction cw with
 |nil=>intro f g h _;exact h
 |cons a l ih=>
  intro f g h hw;have hl:∀a∈l,mh a x->a.place<=c:=fun b hb=>hw b (List.mem_cons_of_mem _ hb)
  by_cases hp:a.place<=c
  ·rw[List.filter_cons_of_pos (by simpa using hp),List.foldl_cons,List.foldl_cons];exact ih _ _ (Mx a.done h) hl
  ·rw[List.filter_cons_of_neg (by simpa using hp),List.foldl_cons];refine ih _ _ ?_ hl;have hn:¬mh a x:=fun q=>hp (hw a List.mem_cons_self q)
   show f x=sK a.done g x;rw[oh a.done g (fun e he h1 h2=>hn ⟨e,he,h1,h2⟩)];exact h
theorem ZI {cw:List bJ} {c x:Int} (h:∀a∈cw,mh a x->a.place<=c):CP cw c x=CA cw x:=Ry c x cw _ _ rfl h
structure Bu (a:bJ) (cw:List bJ) (W:Int) (m:Nat):Prop where
 u7:0<=a.clock
 clock1:a.clock<=W
 rd:rX a.done (CP cw a.clock)
 evs:∀e∈a.done,(e.k=2\/e.k=3)/\1<=e.a/\e.a<m
 kind:a.kind=0\/a.kind=1\/a.kind=2\/a.kind=3
 plain:a.kind≠1->a.place=0/\a.writer=false
 reader:a.kind=1->a.writer=false->a.place=a.clock/\∀e∈a.done,e.k≠3
 writer:a.kind=1->a.writer=true->a.clock<a.place/\a.place<=W/\rX a.done (CP cw (a.place - 1))
theorem Bu.mono {a:bJ} {cw:List bJ} {W W':Int} {m:Nat} (h:Bu a cw W m) (hW:W<=W'):Bu a cw W' m:=
 ⟨h.u7,Int.le_trans h.clock1 hW,h.rd,h.evs,h.kind,h.plain,h.reader,fun h1 h2=>⟨(h.writer h1 h2).1,Int.le_trans (h.writer h1 h2).2.1 hW,(h.writer h1 h2).2.2⟩⟩
theorem Bu.snoc {a x:bJ} {cw:List bJ} {W:Int} {m:Nat} (h:Bu a cw W m) (hx:x.place=W+1):Bu a (cw++[x]) (W+1) m:=
 ⟨h.u7,by have:=h.clock1;omega,by rw[OD (by have:=h.clock1;omega)];exact h.rd,h.evs,h.kind,h.plain,h.reader,fun h1 h2=>by
  have h3:=h.writer h1 h2;exact⟨h3.1,by omega,by rw[OD (by omega)];exact h3.2.2⟩⟩
structure d_ (evs:List Ev) (s:HS) (cw:List bJ) (W:Int) (m:Nat):Prop where
 eF:jK evs 0 HS.init= .inl s
 dx:0<=W
 nY:∀a∈s.aU,Bu a cw W m
 Jb:∀a,a∈cw↔a∈s.aU/\a.kind=1/\a.writer=true
 inc:cw.Pairwise (fun a b=>a.place<b.place)
 real:∀a∈s.aU,∀b∈s.aU,a.kind=1->a.fin<b.dN->a.place<=b.clock
variable {evs:List Ev} {s:HS} {cw:List bJ} {W:Int} {m:Nat}
theorem d_.init (m:Nat):d_ [] HS.init [] 0 m:=
 ⟨rfl,Int.le_refl _,fun a h=>by simp[HS.init] at h,fun a=>by simp[HS.init],List.Pairwise.nil,fun a h=>by simp[HS.init] at h⟩
theorem d_.hok (h:d_ evs s cw W m):yV s evs.length:=by
 have:=yV.init.run evs h.eF
 rwa [Nat.zero_add] at this
theorem d_.clock (h:d_ evs s cw W m):d_ evs s cw (W+1) m:=
 ⟨h.eF,by have:=h.dx;omega,fun a ha=>(h.nY a ha).mono (by omega),h.Jb,h.inc,h.real⟩
theorem d_.next (h:d_ evs s cw W m) {e:Ev} {s':HS} (hs:fC s e evs.length=some s'):jK (evs++[e]) 0 HS.init= .inl s':=by
 rw[r9,h.eF];simp only[Nat.zero_add,jK,hs]
theorem d_.zV (h:d_ evs s cw W m) {a:bJ} (ha:a∈s.aU) (hk:a.kind=1):a.place<=W:=by
 have h1:=h.nY a ha;cases hw:a.writer with
 |true=>exact(h1.writer hk hw).2.1
 |false=>rw[(h1.reader hk hw).1];exact h1.clock1
theorem d_.Zt (h:d_ evs s cw W m):∀a∈cw,a.place<=W:=fun a ha=>h.zV ((h.Jb a).1 ha).1 ((h.Jb a).1 ha).2.1
theorem d_.all (h:d_ evs s cw W m):CP cw W=CA cw:=aac h.Zt
theorem d_.kR (h:d_ evs s cw W m) {n j:Nat} (hj:s.opn n=some j):∃b,s.aU[j]? =some b/\b.th=n/\b.fin= -1/\b.kind=0/\b.place=0/\b.writer=false/\0<=b.dN/\b.dN<evs.length:=by
 obtain⟨b,hb,h1,h2⟩:=h.hok.opn n j hj;obtain⟨a1,a2,a3,a4,a5,a6⟩:=h.hok.nY j b hb;rcases a6 with⟨q1,q2,q3,q4,q5⟩|⟨q1,q2,q3⟩
 ·exact⟨b,hb,h1,h2,q2,q3,q4,a3,a4⟩
 ·omega
theorem fI {l:List bJ} {j:Nat} {f:bJ->bJ} {b a:bJ} (hb:l[j]? =some b) (ha:a∈l.modify j f):a=f b\/a∈l:=by
 obtain⟨k,hk⟩:=List.getElem?_of_mem ha;rw[iC] at hk;cases hc:l[k]? with
 |none=>rw[hc] at hk;cases hk
 |some c=>
  rw[hc] at hk;simp only[Option.map_some,bH] at hk;by_cases e:k=j
  ·subst e;rw[hb] at hc;cases hc;rw[if_pos rfl] at hk;exact .inl hk.symm
  ·rw[if_neg e] at hk;subst hk;exact .inr (bC hc)
theorem Mr {l:List bJ} {j:Nat} {f:bJ->bJ} {b:bJ} (hb:l[j]? =some b):f b∈l.modify j f:=
 bC (i:=j) (by rw[iC,hb];simp)
theorem yO {l:List bJ} {j:Nat} {f:bJ->bJ} {b a:bJ} (hb:l[j]? =some b) (ha:a∈l) (hne:a≠b):a∈l.modify j f:=by
 obtain⟨k,hk⟩:=List.getElem?_of_mem ha;refine bC (i:=k) ?_;rw[iC,hk];have:k≠j:=fun e=>by subst e;rw[hb] at hk;cases hk;exact hne rfl
 simp[this]
theorem d_.turn (h:d_ evs s cw W m) {n j:Nat} {b:bJ} (hj:s.opn n=some j) (hb:s.aU[j]? =some b) {e:Ev} {f:bJ->bJ} {o':Nat->Option Nat} {e':Nat->Bool} (hs:fC s e evs.length=some ⟨s.aU.modify j f,o',e'⟩)
  (hk:(f b).kind≠1) (hok:Bu (f b) cw W m) (h1:(f b).dN=b.dN) (h2:(f b).clock=b.clock):d_ (evs++[e]) ⟨s.aU.modify j f,o',e'⟩ cw W m:=by
 obtain⟨b',hb', -, -,hk0, -,hw0, -⟩:=h.kR hj;rw[hb] at hb';cases hb';refine⟨h.next hs,h.dx,fun a ha=>?_,fun a=>?_,h.inc,fun a ha c hc hak hlt=>?_⟩
 ·rcases fI hb ha with rfl|ha
  ·exact hok
  ·exact h.nY a ha
 ·rw[h.Jb];constructor
  ·rintro⟨ha,hak,haw⟩;exact⟨yO hb ha (fun q=>by rw[q] at hak;omega),hak,haw⟩
  ·rintro⟨ha,hak,haw⟩;rcases fI hb ha with rfl|ha
   ·exact absurd hak hk
   ·exact⟨ha,hak,haw⟩
 ·have ha':a∈s.aU:=by
   rcases fI hb ha with rfl|ha
   ·exact absurd hak hk
   ·exact ha
  rcases fI hb hc with rfl|hc
  ·rw[h2];rw[h1] at hlt;exact h.real a ha' b (bC hb) hak hlt
  ·exact h.real a ha' c hc hak hlt
theorem kN {n j i:Nat} {e:Ev} (hn:n<4) (hth:e.th=n) (hend:s.ended n=false) (hj:s.opn n=some j):
  (2<=e.k->e.k<=6->fC s e i=some ⟨s.aU.modify j (more e),s.opn,s.ended⟩)/\(e.k=7->fC s e i=some ⟨s.aU.modify j (bW e i),upd s.opn n none,s.ended⟩)/\(e.k=8->fC s e i=some ⟨s.aU.modify j (closed 2 i),upd s.opn n none,s.ended⟩):=by
 have h0:¬(e.th<0\/4<=e.th):=by omega
 have h1:e.th.toNat=n:=by omega
 unfold fC;rw[if_neg h0,h1,if_neg (by rw[hend];simp),hj];refine⟨fun q1 q2=>by simp only;rw[if_pos ⟨q1,q2⟩],fun q=>by simp only;rw[if_neg (by omega),if_pos q],fun q=>by simp only;rw[if_neg (by omega),if_neg (by omega),if_pos q]⟩
theorem d_.more (h:d_ evs s cw W m) {n j:Nat} {b:bJ} (hend:s.ended n=false) (hn:n<4) (hj:s.opn n=some j) (hb:s.aU[j]? =some b) {e:Ev} (hth:e.th=n) (hk:e.k=2\/e.k=3) (ha:1<=e.a/\e.a<m) (hr:e.k=2->sK b.done (CP cw b.clock) e.a=e.b):
  d_ (evs++[e]) ⟨s.aU.modify j (Go.Proofs.YtopdcjimpdalpaaGreat.more e),s.opn,s.ended⟩ cw W m:=by
 obtain⟨b',hb', -, -,hk0, -,hw0, -⟩:=h.kR hj;rw[hb] at hb';cases hb';have ok:=h.nY b (bC hb);refine h.turn hj hb ((kN hn hth hend hj).1 (by omega) (by omega)) (by show b.kind≠1;omega) ⟨ok.u7,ok.clock1,?_,fun d hd=>?_,ok.kind,ok.plain,fun q=>?_,fun q=>?_⟩ rfl rfl
 ·show rX (b.done++[e]) (CP cw b.clock);rw[D7];exact⟨ok.rd,hr,trivial⟩
 ·rcases List.mem_append.1 (show d∈b.done++[e] from hd) with hd|hd
  ·exact ok.evs d hd
  ·rw[List.mem_singleton.1 hd];exact⟨hk,ha⟩
 ·have:b.kind=1:=q;omega
 ·have:b.kind=1:=q;omega
theorem d_.abort (h:d_ evs s cw W m) {n j:Nat} (hend:s.ended n=false) (hn:n<4) (hj:s.opn n=some j):d_ (evs++[⟨n,8,0,0⟩]) ⟨s.aU.modify j (closed 2 evs.length),upd s.opn n none,s.ended⟩ cw W m:=by
 obtain⟨b,hb, -, -,hk0,hp0,hw0, -⟩:=h.kR hj;have ok:=h.nY b (bC hb);exact h.turn hj hb ((kN hn rfl hend hj).2.2 rfl) (by simp[closed]) ⟨ok.u7,ok.clock1,ok.rd,ok.evs,.inr (.inr (.inl rfl)),fun _=>⟨hp0,hw0⟩,fun q=>by simp[closed] at q,fun q=>by simp[closed] at q⟩ rfl rfl
theorem d_.begin (h:d_ evs s cw W m) {n:Nat} (hend:s.ended n=false) (hn:n<4) (hj:s.opn n=none):d_ (evs++[⟨n,1,W,0⟩]) ⟨s.aU++[begun ⟨n,1,W,0⟩ evs.length],upd s.opn n (some s.aU.length),s.ended⟩ cw W m:=by
 have hs:fC s ⟨n,1,W,0⟩ evs.length=some ⟨s.aU++[begun ⟨n,1,W,0⟩ evs.length],upd s.opn n (some s.aU.length),s.ended⟩:=by
  unfold fC;rw[if_neg (by simp only;omega)];simp only[Int.toNat_natCast];rw[if_neg (by rw[hend];simp),hj];simp
 refine⟨h.next hs,h.dx,fun a ha=>?_,fun a=>?_,h.inc,fun a ha c hc hak hlt=>?_⟩
 ·rcases List.mem_append.1 (show a∈s.aU++[begun ⟨n,1,W,0⟩ evs.length] from ha) with ha|ha
  ·exact h.nY a ha
  ·rw[List.mem_singleton.1 ha];exact⟨h.dx,Int.le_refl _,trivial,fun e he=>by simp[begun] at he,.inl rfl,fun _=>⟨rfl,rfl⟩,fun q=>by simp[begun] at q,fun q=>by simp[begun] at q⟩
 ·rw[h.Jb];constructor
  ·rintro⟨ha,q⟩;exact⟨List.mem_append_left _ ha,q⟩
  ·rintro⟨ha,hak,haw⟩;rcases List.mem_append.1 (show a∈s.aU++[begun ⟨n,1,W,0⟩ evs.length] from ha) with ha|ha
   ·exact⟨ha,hak,haw⟩
   ·rw[List.mem_singleton.1 ha] at hak;simp[begun] at hak
 ·have ha':a∈s.aU:=by
   rcases List.mem_append.1 (show a∈s.aU++[begun ⟨n,1,W,0⟩ evs.length] from ha) with ha|ha
   ·exact ha
   ·rw[List.mem_singleton.1 ha] at hak;simp[begun] at hak
  rcases List.mem_append.1 (show c∈s.aU++[begun ⟨n,1,W,0⟩ evs.length] from hc) with hc|hc
  ·exact h.real a ha' c hc hak hlt
  ·rw[List.mem_singleton.1 hc];exact h.zV ha' hak
theorem d_.reader (h:d_ evs s cw W m) {n j:Nat} {b:bJ} (hend:s.ended n=false) (hn:n<4) (hj:s.opn n=some j) (hb:s.aU[j]? =some b) (hw:∀e∈b.done,e.k≠3):d_ (evs++[⟨n,7,b.clock,0⟩]) ⟨s.aU.modify j (bW ⟨n,7,b.clock,0⟩ evs.length),upd s.opn n none,s.ended⟩ cw W m:=by
 obtain⟨b',hb', -, -,hk0,hp0,hw0,hb1,hb2⟩:=h.kR hj;rw[hb] at hb';cases hb';have ok:=h.nY b (bC hb);have dN:∀c∈s.aU,c.dN<evs.length:=fun c hc=>by
  obtain⟨k,hk⟩:=List.getElem?_of_mem hc;exact(h.hok.nY k c hk).2.2.2.1
 refine⟨h.next ((kN hn rfl hend hj).2.1 rfl),h.dx,fun a ha=>?_,fun a=>?_,h.inc,fun a ha c hc hak hlt=>?_⟩
 ·rcases fI hb ha with rfl|ha
  ·exact⟨ok.u7,ok.clock1,ok.rd,ok.evs,.inr (.inl rfl),fun q=>absurd rfl q,fun _ _=>⟨rfl,hw⟩,fun _ q=>by simp[bW] at q⟩
  ·exact h.nY a ha
 ·rw[h.Jb];constructor
  ·rintro⟨ha,hak,haw⟩;exact⟨yO hb ha (fun q=>by rw[q] at hak;omega),hak,haw⟩
  ·rintro⟨ha,hak,haw⟩;rcases fI hb ha with rfl|ha
   ·simp[bW] at haw
   ·exact⟨ha,hak,haw⟩
 ·have hc1:c.dN<evs.length/\∃c0∈s.aU,c0.dN=c.dN/\c0.clock=c.clock:=by
   rcases fI hb hc with rfl|hc
   ·exact⟨hb2,b,bC hb,rfl,rfl⟩
   ·exact⟨dN c hc,c,hc,rfl,rfl⟩
  obtain⟨hlen,c0,hc0,e1,e2⟩:=hc1;rcases fI hb ha with rfl|ha
  ·have:(evs.length:Int)<c.dN:=hlt;omega
  ·rw[<-e2];exact h.real a ha c0 hc0 hak (by omega)
theorem d_.trap (h:d_ evs s cw W m) {n j:Nat} (hend:s.ended n=false) (hn:n<4) (hj:s.opn n=some j) (a:Int):d_ (evs++[⟨n,11,a,0⟩]) ⟨s.aU.modify j (closed 3 evs.length),upd s.opn n none,upd s.ended n true⟩ cw W m:=by
 obtain⟨b,hb, -, -,hk0,hp0,hw0, -⟩:=h.kR hj;have ok:=h.nY b (bC hb);have hs:fC s ⟨n,11,a,0⟩ evs.length=some ⟨s.aU.modify j (closed 3 evs.length),upd s.opn n none,upd s.ended n true⟩:=by
  unfold fC;rw[if_neg (by simp only;omega)];simp only[Int.toNat_natCast];rw[if_neg (by rw[hend];simp),hj];simp
 exact h.turn hj hb hs (by simp[closed]) ⟨ok.u7,ok.clock1,ok.rd,ok.evs,.inr (.inr (.inr rfl)),fun _=>⟨hp0,hw0⟩,fun q=>by simp[closed] at q,fun q=>by simp[closed] at q⟩ rfl rfl
theorem d_.outer (h:d_ evs s cw W m) {e:Ev} {e':Nat->Bool} (hs:fC s e evs.length=some ⟨s.aU,s.opn,e'⟩):d_ (evs++[e]) ⟨s.aU,s.opn,e'⟩ cw W m:=
 ⟨h.next hs,h.dx,h.nY,h.Jb,h.inc,h.real⟩
theorem DJ {n i:Nat} {a:Int} (hn:n<4) (hend:s.ended n=false) (hj:s.opn n=none):fC s ⟨n,9,a,0⟩ i=some ⟨s.aU,s.opn,s.ended⟩:=by
 unfold fC;rw[if_neg (by simp only;omega)];simp only[Int.toNat_natCast];rw[if_neg (by rw[hend];simp),hj];simp
theorem EJ {n i:Nat} (hn:n<4) (hend:s.ended n=false) (hj:s.opn n=none):fC s ⟨n,10,0,0⟩ i=some ⟨s.aU,s.opn,upd s.ended n true⟩:=by
 unfold fC;rw[if_neg (by simp only;omega)];simp only[Int.toNat_natCast];rw[if_neg (by rw[hend];simp),hj];simp
def I8 (l:List Ev) (x:Int):Prop:=∃l1 e l2,l=l1++e::l2/\e.k=2/\e.a=x/\∀d∈l1,d.k=3->d.a≠x
theorem EL (l:List Ev):∀{f g:Int->Int},rX l f->(∀x,I8 l x->f x=g x)->rX l g:=by
 induction l with
 |nil=>intro f g _ _;trivial
 |cons e l ih=>
  intro f g h ha;refine⟨fun q=>?_,ih h.2 (fun x hx=>?_)⟩
  ·rw[<-ha _ ⟨[],e,l,rfl,q,rfl,by simp⟩];exact h.1 q
  ·obtain⟨l1,d,l2,rfl,q1,q2,q3⟩:=hx;by_cases he:e.k=3
   ·rw[yP he,yP he];by_cases hxa:x=e.a
    ·rw[if_pos hxa,if_pos hxa]
    ·rw[if_neg hxa,if_neg hxa];exact ha x ⟨e::l1,d,l2,rfl,q1,q2,fun b hb hk=>by
      rcases List.mem_cons.1 hb with rfl|hb
      ·exact fun q=>hxa q.symm
      ·exact q3 b hb hk⟩
   ·rw[Ez he,Ez he];exact ha x ⟨e::l1,d,l2,rfl,q1,q2,fun b hb hk=>by
     rcases List.mem_cons.1 hb with rfl|hb
     ·exact absurd hk he
     ·exact q3 b hb hk⟩
theorem Pw {x:Int}:¬I8 [] x:=by
 rintro⟨l1,e,l2,h, -⟩;simp at h
theorem La {l:List Ev} {e:Ev} {x:Int} (h:I8 (l++[e]) x):I8 l x\/e.k=2/\e.a=x/\∀d∈l,d.k=3->d.a≠x:=by
 obtain⟨l1,d,l2,h1,q1,q2,q3⟩:=h;rcases List.eq_nil_or_concat l2 with rfl|⟨l3,b,rfl⟩
 ·have:=List.append_inj' h1 (by simp);obtain⟨rfl,h3⟩:=this;cases h3;exact .inr ⟨q1,q2,q3⟩
 ·rw[List.concat_eq_append] at h1;have h2:l1++d::(l3++[b])=(l1++d::l3)++[b]:=by simp
  rw[h2] at h1;have:=List.append_inj' h1 (by simp);exact .inl ⟨l1,d,l3,this.1,q1,q2,q3⟩
def uP (x:bJ) (cw:List bJ):List bJ:=cw.filter (fun a=>decide (a.place<x.place))++x::cw.filter (fun a=>!decide (a.place<x.place))
theorem zI (x:bJ) (cw:List bJ) (a:bJ):a∈uP x cw↔a=x\/a∈cw:=by
 unfold uP;rw[List.mem_append,List.mem_cons,List.mem_filter,List.mem_filter];by_cases h:a.place<x.place
 ·simp[h];exact or_comm
 ·simp[h]
theorem UQ {x:bJ} {cw:List bJ} (h:cw.Pairwise (fun a b=>a.place<b.place)) (hx:∀a∈cw,a.place≠x.place):(uP x cw).Pairwise (fun a b=>a.place<b.place):=by
 unfold uP;rw[List.pairwise_append,List.pairwise_cons];refine⟨h.sublist List.filter_sublist,⟨fun a ha=>?_,h.sublist List.filter_sublist⟩,fun a ha b hb=>?_⟩
 ·rw[List.mem_filter] at ha;have:=hx a ha.1;have h2:=ha.2;simp at h2;omega
 ·rw[List.mem_filter] at ha;have h1:=ha.2;simp at h1;rcases List.mem_cons.1 hb with rfl|hb
  ·exact h1
  ·rw[List.mem_filter] at hb;have h2:=hb.2;simp at h2;omega
theorem yQ {p:Int} {cw:List bJ} (h:cw.Pairwise (fun a b=>a.place<b.place)):cw.filter (fun a=>decide (a.place<p))++cw.filter (fun a=>!decide (a.place<p))=cw:=by
 induction cw with
 |nil=>rfl
 |cons a l ih=>
  rw[List.pairwise_cons] at h;by_cases hp:a.place<p
  ·rw[List.filter_cons_of_pos (by simpa using hp),List.filter_cons_of_neg (by simpa using hp),List.cons_append,ih h.2]
  ·have:l.filter (fun a=>decide (a.place<p))=[]:=by
    rw[List.filter_eq_nil_iff];intro b hb;have:=h.1 b hb;simp;omega
   rw[List.filter_cons_of_neg (by simpa using hp),List.filter_cons_of_pos (by simpa using hp),this,List.nil_append];congr 1
   rw[List.filter_eq_self];intro b hb;have:=h.1 b hb;simp;omega
theorem Px (l:List bJ) {y:Int}:∀{f g:Int->Int},f y=g y->l.foldl rf f y=l.foldl rf g y:=by
 induction l with
 |nil=>intro f g h;exact h
 |cons a l ih=>intro f g h;exact ih (Mx a.done h)
theorem Q8 (l:List bJ) {y:Int}:∀{f:Int->Int},(∀a∈l,¬mh a y)->l.foldl rf f y=f y:=by
 induction l with
 |nil=>intro f _;rfl
 |cons a l ih=>
  intro f h;rw[List.foldl_cons,ih (fun b hb=>h b (List.mem_cons_of_mem _ hb))];exact oh a.done f (fun e he h1 h2=>h a List.mem_cons_self ⟨e,he,h1,h2⟩)
theorem uA {x:bJ} {cw:List bJ} (h:cw.Pairwise (fun a b=>a.place<b.place)) {c:Int} (hc:c<x.place):CP (uP x cw) c=CP cw c:=by
 unfold CP;have e1:(uP x cw).filter (fun a=>decide (a.place<=c))=cw.filter (fun a=>decide (a.place<=c)):=by
  conv=>rhs;rw[<-yQ (p:=x.place) h]
  unfold uP;rw[List.filter_append,List.filter_append,List.filter_cons_of_neg (by simp;omega)]
 rw[e1]
theorem AV {x:bJ} {cw:List bJ} (h:cw.Pairwise (fun a b=>a.place<b.place)) (c:Int) {y:Int} (hy:¬mh x y):CP (uP x cw) c y=CP cw c y:=by
 unfold CP CA
 conv=>rhs;rw[<-yQ (p:=x.place) h]
 unfold uP;rw[List.filter_append,List.filter_append,List.foldl_append,List.foldl_append];by_cases hc:x.place<=c
 ·rw[List.filter_cons_of_pos (by simpa using hc),List.foldl_cons];exact Px _ (oh x.done _ (fun e he h1 h2=>hy ⟨e,he,h1,h2⟩))
 ·rw[List.filter_cons_of_neg (by simpa using hc)]
theorem PO {x:bJ} {cw:List bJ} (h:cw.Pairwise (fun a b=>a.place<b.place)) {y:Int} (hy:¬mh x y):CA (uP x cw) y=CA cw y:=by
 unfold CA
 conv=>rhs;rw[<-yQ (p:=x.place) h]
 unfold uP;rw[List.foldl_append,List.foldl_append,List.foldl_cons];exact Px _ (oh x.done _ (fun e he h1 h2=>hy ⟨e,he,h1,h2⟩))
theorem RJ {x:bJ} {cw:List bJ} {y:Int} (hl:∀a∈cw,mh a y->a.place<x.place) (hy:mh x y) (f:Int->Int):CA (uP x cw) y=sK x.done f y:=by
 unfold CA uP;rw[List.foldl_append,List.foldl_cons,Q8 _ (fun a ha hw=>by
  rw[List.mem_filter] at ha;have h1:=hl a ha.1 hw;have h2:=ha.2;simp at h2;omega)]
 exact Iy x.done _ _ hy
theorem d_.writer (h:d_ evs s cw W m) {n j:Nat} {b:bJ} (hend:s.ended n=false) (hn:n<4) (hj:s.opn n=some j) (hb:s.aU[j]? =some b) {p:Int} (hp:b.clock<p) (hpW:p<=W) (hfr:∀a∈cw,a.place≠p) (hr:rX b.done (CP cw (p - 1)))
  (hsn:∀a∈s.aU,p<=a.clock\/a.kind=1/\a.writer=true/\p<a.place->∀y,I8 a.done y->¬mh b y):
  d_ (evs++[⟨n,7,p,1⟩]) ⟨s.aU.modify j (bW ⟨n,7,p,1⟩ evs.length),upd s.opn n none,s.ended⟩ (uP (bW ⟨n,7,p,1⟩ evs.length b) cw) W m:=by
 obtain⟨b',hb', -, -,hk0,hp0,hw0,hb1,hb2⟩:=h.kR hj;rw[hb] at hb';cases hb';have ok:=h.nY b (bC hb);have dN:∀c∈s.aU,c.dN<evs.length:=fun c hc=>by
  obtain⟨k,hk⟩:=List.getElem?_of_mem hc;exact(h.hok.nY k c hk).2.2.2.1
 obtain⟨x,hx⟩:∃x,x=bW ⟨n,7,p,1⟩ evs.length b:=⟨_,rfl⟩;have hxp:x.place=p:=by rw[hx];rfl
 have ql:∀y,mh x y↔mh b y:=fun y=>by rw[hx];exact Iff.rfl
 rw[<-hx];refine⟨h.next ((kN hn rfl hend hj).2.1 rfl),h.dx,fun a ha=>?_,fun a=>?_,UQ h.inc (by rw[hxp];exact hfr),fun a ha c hc hak hlt=>?_⟩
 ·rcases fI hb ha with rfl|ha
  ·refine⟨ok.u7,ok.clock1,?_,ok.evs,.inr (.inl rfl),fun q=>absurd rfl q,fun _ q=>by simp[bW] at q,fun _ _=>⟨hp,hpW,?_⟩⟩
   ·show rX b.done (CP (uP x cw) b.clock);rw[uA h.inc (by omega)];exact ok.rd
   ·show rX b.done (CP (uP x cw) (p - 1));rw[uA h.inc (by omega)];exact hr
  ·have oa:=h.nY a ha;refine⟨oa.u7,oa.clock1,?_,oa.evs,oa.kind,oa.plain,oa.reader,fun h1 h2=>?_⟩
   ·rcases Int.lt_or_le a.clock p with q|q
    ·rw[uA h.inc (by omega)];exact oa.rd
    ·exact EL _ oa.rd (fun y hy=>(AV h.inc _ (fun hw=>hsn a ha (.inl q) y hy ((ql y).1 hw))).symm)
   ·have h3:=oa.writer h1 h2;refine⟨h3.1,h3.2.1,?_⟩;rcases Int.lt_or_le (a.place - 1) p with q|q
    ·rw[uA h.inc (by omega)];exact h3.2.2
    ·exact EL _ h3.2.2 (fun y hy=>(AV h.inc _ (fun hw=>hsn a ha (.inr ⟨h1,h2,by omega⟩) y hy ((ql y).1 hw))).symm)
 ·rw[zI,h.Jb];constructor
  ·rintro(rfl|⟨ha,hak,haw⟩)
   ·exact⟨by rw[hx];exact Mr hb,by rw[hx];rfl,by rw[hx];rfl⟩
   ·exact⟨yO hb ha (fun q=>by rw[q] at hak;omega),hak,haw⟩
  ·rintro⟨ha,hak,haw⟩;rcases fI hb ha with rfl|ha
   ·exact .inl hx.symm
   ·exact .inr ⟨ha,hak,haw⟩
 ·have hc1:c.dN<evs.length/\∃c0∈s.aU,c0.dN=c.dN/\c0.clock=c.clock:=by
   rcases fI hb hc with rfl|hc
   ·exact⟨hb2,b,bC hb,rfl,rfl⟩
   ·exact⟨dN c hc,c,hc,rfl,rfl⟩
  obtain⟨hlen,c0,hc0,e1,e2⟩:=hc1;rcases fI hb ha with rfl|ha
  ·have:(evs.length:Int)<c.dN:=hlt;omega
  ·rw[<-e2];exact h.real a ha c0 hc0 hak (by omega)
theorem d_.other (h:d_ evs s cw W m) {n k j i:Nat} (hk:k≠n) (hj:s.opn n=some j) (hi:s.opn k=some i):i≠j:=by
 obtain⟨b,hb,e1, -⟩:=h.kR hj;obtain⟨c,hc,e2, -⟩:=h.kR hi;rintro rfl;rw[hb] at hc;cases hc;omega
theorem kV {l:List bJ} {j k:Nat} {f:bJ->bJ} (h:k≠j):(l.modify j f)[k]? =l[k]?:=by
 rw[iC];cases l[k]? with
 |none=>rfl
 |some a=>simp[h]
theorem sJ {l:List bJ} {j:Nat} {f:bJ->bJ} {b:bJ} (h:l[j]? =some b):(l.modify j f)[j]? =some (f b):=by rw[iC,h];simp
theorem gm {α:Type} (f:Nat->α) (i:Nat) (x:α):upd f i x i=x:=by simp[bS]
theorem jG {α:Type} (f:Nat->α) {i j:Nat} (x:α) (h:j≠i):upd f i x j=f j:=by simp[bS,h]
end Go.Proofs.YtopdcjimpdalpaaGreat

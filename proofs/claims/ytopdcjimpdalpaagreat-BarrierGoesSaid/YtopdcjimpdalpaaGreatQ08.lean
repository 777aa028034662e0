import Derived.Test.YtopdcjimpdalpaaGreatQ06
namespace Go.Proofs.YtopdcjimpdalpaaGreat
set_option linter.all false
def xy (f:Int->Int) (a:bV):Int->Int:=wN a.done f
def CA (cw:List bV):Int->Int:=cw.foldl xy (fun _=>0)
def CP (cw:List bV) (c:Int):Int->Int:=CA (cw.filter (fun a=>decide (a.place<=c)))
def lK (a:bV) (x:Int):Prop:=∃e∈a.done,e.k=3/\e.a=x
theorem Yt {cw:List bV} {c:Int} (h:∀a∈cw,a.place<=c):CP cw c=CA cw:=by
 unfold CP;rw[List.filter_eq_self.2 (fun a ha=>by simpa using h a ha)]
theorem Nj {cw:List bV} {c:Int} {x:bV} (h:c<x.place):CP (cw++[x]) c=CP cw c:=by
 unfold CP;rw[List.filter_append,List.filter_cons_of_neg (by simpa using h),List.filter_nil,List.append_nil]
theorem Ma (l:List Ev) {x:Int} {f g:Int->Int} (h:f x=g x):wN l f x=wN l g x:=by
 by_cases hw:∃e∈l,e.k=3/\e.a=x
 ·exact FH l f g hw
 ·rw[nD l f (fun e he h1 h2=>hw ⟨e,he,h1,h2⟩),nD l g (fun e he h1 h2=>hw ⟨e,he,h1,h2⟩)];exact h
theorem Pw (c x:Int) (cw:List bV):∀(f g:Int->Int),f x=g x->(∀a∈cw,lK a x->a.place<=c)->(cw.filter (fun a=>decide (a.place<=c))).foldl xy f x=cw.foldl xy g x:=by
 induction cw with
 |nil=>intro f g h _;exact h
 |cons a l ih=>
  intro f g h hw;have hl:∀a∈l,lK a x->a.place<=c:=fun b hb=>hw b (List.mem_cons_of_mem _ hb)
  by_cases hp:a.place<=c
  ·rw[List.filter_cons_of_pos (by simpa using hp),List.foldl_cons,List.foldl_cons];exact ih _ _ (Ma a.done h) hl
  ·rw[List.filter_cons_of_neg (by simpa using hp),List.foldl_cons];refine ih _ _ ?_ hl;have hn:¬lK a x:=fun q=>hp (hw a List.mem_cons_self q)
   show f x=wN a.done g x;rw[nD a.done g (fun e he h1 h2=>hn ⟨e,he,h1,h2⟩)];exact h
theorem WL {cw:List bV} {c x:Int} (h:∀a∈cw,lK a x->a.place<=c):CP cw c x=CA cw x:=Pw c x cw _ _ rfl h
structure AL (a:bV) (cw:List bV) (W:Int) (m:Nat):Prop where
 uE:0<=a.clock
 clock1:a.clock<=W
 rd:wY a.done (CP cw a.clock)
 evs:∀e∈a.done,(e.k=2\/e.k=3)/\1<=e.a/\e.a<m
 kind:a.kind=0\/a.kind=1\/a.kind=2\/a.kind=3
 plain:a.kind≠1->a.place=0/\a.writer=false
 reader:a.kind=1->a.writer=false->a.place=a.clock/\∀e∈a.done,e.k≠3
 writer:a.kind=1->a.writer=true->a.clock<a.place/\a.place<=W/\wY a.done (CP cw (a.place - 1))
theorem AL.mono {a:bV} {cw:List bV} {W W':Int} {m:Nat} (h:AL a cw W m) (hW:W<=W'):AL a cw W' m:=
 ⟨h.uE,Int.le_trans h.clock1 hW,h.rd,h.evs,h.kind,h.plain,h.reader,fun h1 h2=>⟨(h.writer h1 h2).1,Int.le_trans (h.writer h1 h2).2.1 hW,(h.writer h1 h2).2.2⟩⟩
theorem AL.snoc {a x:bV} {cw:List bV} {W:Int} {m:Nat} (h:AL a cw W m) (hx:x.place=W+1):AL a (cw++[x]) (W+1) m:=
 ⟨h.uE,by have:=h.clock1;omega,by rw[Nj (by have:=h.clock1;omega)];exact h.rd,h.evs,h.kind,h.plain,h.reader,fun h1 h2=>by
  have h3:=h.writer h1 h2;exact⟨h3.1,by omega,by rw[Nj (by omega)];exact h3.2.2⟩⟩
structure eY (evs:List Ev) (s:HS) (cw:List bV) (W:Int) (m:Nat):Prop where
 eu:nT evs 0 HS.init= .inl s
 bX:0<=W
 oQ:∀a∈s.bu,AL a cw W m
 M8:∀a,a∈cw↔a∈s.bu/\a.kind=1/\a.writer=true
 inc:cw.Pairwise (fun a b=>a.place<b.place)
 real:∀a∈s.bu,∀b∈s.bu,a.kind=1->a.fin<b.uU->a.place<=b.clock
variable {evs:List Ev} {s:HS} {cw:List bV} {W:Int} {m:Nat}
theorem eY.init (m:Nat):eY [] HS.init [] 0 m:=
 ⟨rfl,Int.le_refl _,fun a h=>by simp[HS.init] at h,fun a=>by simp[HS.init],List.Pairwise.nil,fun a h=>by simp[HS.init] at h⟩
theorem eY.hok (h:eY evs s cw W m):BN s evs.length:=by
 have:=BN.init.run evs h.eu
 rwa [Nat.zero_add] at this
theorem eY.clock (h:eY evs s cw W m):eY evs s cw (W+1) m:=
 ⟨h.eu,by have:=h.bX;omega,fun a ha=>(h.oQ a ha).mono (by omega),h.M8,h.inc,h.real⟩
theorem eY.next (h:eY evs s cw W m) {e:Ev} {s':HS} (hs:je s e evs.length=some s'):nT (evs++[e]) 0 HS.init= .inl s':=by
 rw[Am,h.eu];simp only[Nat.zero_add,nT,hs]
theorem eY.BP (h:eY evs s cw W m) {a:bV} (ha:a∈s.bu) (hk:a.kind=1):a.place<=W:=by
 have h1:=h.oQ a ha;cases hw:a.writer with
 |true=>exact(h1.writer hk hw).2.1
 |false=>rw[(h1.reader hk hw).1];exact h1.clock1
theorem eY.Xn (h:eY evs s cw W m):∀a∈cw,a.place<=W:=fun a ha=>h.BP ((h.M8 a).1 ha).1 ((h.M8 a).1 ha).2.1
theorem eY.all (h:eY evs s cw W m):CP cw W=CA cw:=Yt h.Xn
theorem eY.j_ (h:eY evs s cw W m) {n j:Nat} (hj:s.opn n=some j):∃b,s.bu[j]? =some b/\b.th=n/\b.fin= -1/\b.kind=0/\b.place=0/\b.writer=false/\0<=b.uU/\b.uU<evs.length:=by
 obtain⟨b,hb,h1,h2⟩:=h.hok.opn n j hj;obtain⟨a1,a2,a3,a4,a5,a6⟩:=h.hok.oQ j b hb;rcases a6 with⟨q1,q2,q3,q4,q5⟩|⟨q1,q2,q3⟩
 ·exact⟨b,hb,h1,h2,q2,q3,q4,a3,a4⟩
 ·omega
theorem eU {l:List bV} {j:Nat} {f:bV->bV} {b a:bV} (hb:l[j]? =some b) (ha:a∈l.modify j f):a=f b\/a∈l:=by
 obtain⟨k,hk⟩:=List.getElem?_of_mem ha;rw[gW] at hk;cases hc:l[k]? with
 |none=>rw[hc] at hk;cases hk
 |some c=>
  rw[hc] at hk;simp only[Option.map_some,bU] at hk;by_cases e:k=j
  ·subst e;rw[hb] at hc;cases hc;rw[if_pos rfl] at hk;exact .inl hk.symm
  ·rw[if_neg e] at hk;subst hk;exact .inr (bA hc)
theorem LW {l:List bV} {j:Nat} {f:bV->bV} {b:bV} (hb:l[j]? =some b):f b∈l.modify j f:=
 bA (i:=j) (by rw[gW,hb];simp)
theorem xG {l:List bV} {j:Nat} {f:bV->bV} {b a:bV} (hb:l[j]? =some b) (ha:a∈l) (hne:a≠b):a∈l.modify j f:=by
 obtain⟨k,hk⟩:=List.getElem?_of_mem ha;refine bA (i:=k) ?_;rw[gW,hk];have:k≠j:=fun e=>by subst e;rw[hb] at hk;cases hk;exact hne rfl
 simp[this]
theorem eY.turn (h:eY evs s cw W m) {n j:Nat} {b:bV} (hj:s.opn n=some j) (hb:s.bu[j]? =some b) {e:Ev} {f:bV->bV} {o':Nat->Option Nat} {e':Nat->Bool} (hs:je s e evs.length=some ⟨s.bu.modify j f,o',e'⟩)
  (hk:(f b).kind≠1) (hok:AL (f b) cw W m) (h1:(f b).uU=b.uU) (h2:(f b).clock=b.clock):eY (evs++[e]) ⟨s.bu.modify j f,o',e'⟩ cw W m:=by
 obtain⟨b',hb', -, -,hk0, -,hw0, -⟩:=h.j_ hj;rw[hb] at hb';cases hb';refine⟨h.next hs,h.bX,fun a ha=>?_,fun a=>?_,h.inc,fun a ha c hc hak hlt=>?_⟩
 ·rcases eU hb ha with rfl|ha
  ·exact hok
  ·exact h.oQ a ha
 ·rw[h.M8];constructor
  ·rintro⟨ha,hak,haw⟩;exact⟨xG hb ha (fun q=>by rw[q] at hak;omega),hak,haw⟩
  ·rintro⟨ha,hak,haw⟩;rcases eU hb ha with rfl|ha
   ·exact absurd hak hk
   ·exact⟨ha,hak,haw⟩
 ·have ha':a∈s.bu:=by
   rcases eU hb ha with rfl|ha
   ·exact absurd hak hk
   ·exact ha
  rcases eU hb hc with rfl|hc
  ·rw[h2];rw[h1] at hlt;exact h.real a ha' b (bA hb) hak hlt
  ·exact h.real a ha' c hc hak hlt
theorem j4 {n j i:Nat} {e:Ev} (hn:n<4) (hth:e.th=n) (hend:s.ended n=false) (hj:s.opn n=some j):
  (2<=e.k->e.k<=6->je s e i=some ⟨s.bu.modify j (more e),s.opn,s.ended⟩)/\(e.k=7->je s e i=some ⟨s.bu.modify j (dW e i),upd s.opn n none,s.ended⟩)/\(e.k=8->je s e i=some ⟨s.bu.modify j (closed 2 i),upd s.opn n none,s.ended⟩):=by
 have h0:¬(e.th<0\/4<=e.th):=by omega
 have h1:e.th.toNat=n:=by omega
 unfold je;rw[if_neg h0,h1,if_neg (by rw[hend];simp),hj];refine⟨fun q1 q2=>by simp only;rw[if_pos ⟨q1,q2⟩],fun q=>by simp only;rw[if_neg (by omega),if_pos q],fun q=>by simp only;rw[if_neg (by omega),if_neg (by omega),if_pos q]⟩
theorem eY.more (h:eY evs s cw W m) {n j:Nat} {b:bV} (hend:s.ended n=false) (hn:n<4) (hj:s.opn n=some j) (hb:s.bu[j]? =some b) {e:Ev} (hth:e.th=n) (hk:e.k=2\/e.k=3) (ha:1<=e.a/\e.a<m) (hr:e.k=2->wN b.done (CP cw b.clock) e.a=e.b):
  eY (evs++[e]) ⟨s.bu.modify j (Go.Proofs.YtopdcjimpdalpaaGreat.more e),s.opn,s.ended⟩ cw W m:=by
 obtain⟨b',hb', -, -,hk0, -,hw0, -⟩:=h.j_ hj;rw[hb] at hb';cases hb';have ok:=h.oQ b (bA hb);refine h.turn hj hb ((j4 hn hth hend hj).1 (by omega) (by omega)) (by show b.kind≠1;omega) ⟨ok.uE,ok.clock1,?_,fun d hd=>?_,ok.kind,ok.plain,fun q=>?_,fun q=>?_⟩ rfl rfl
 ·show wY (b.done++[e]) (CP cw b.clock);rw[Tw];exact⟨ok.rd,hr,trivial⟩
 ·rcases List.mem_append.1 (show d∈b.done++[e] from hd) with hd|hd
  ·exact ok.evs d hd
  ·rw[List.mem_singleton.1 hd];exact⟨hk,ha⟩
 ·have:b.kind=1:=q;omega
 ·have:b.kind=1:=q;omega
theorem eY.abort (h:eY evs s cw W m) {n j:Nat} (hend:s.ended n=false) (hn:n<4) (hj:s.opn n=some j):eY (evs++[⟨n,8,0,0⟩]) ⟨s.bu.modify j (closed 2 evs.length),upd s.opn n none,s.ended⟩ cw W m:=by
 obtain⟨b,hb, -, -,hk0,hp0,hw0, -⟩:=h.j_ hj;have ok:=h.oQ b (bA hb);exact h.turn hj hb ((j4 hn rfl hend hj).2.2 rfl) (by simp[closed]) ⟨ok.uE,ok.clock1,ok.rd,ok.evs,.inr (.inr (.inl rfl)),fun _=>⟨hp0,hw0⟩,fun q=>by simp[closed] at q,fun q=>by simp[closed] at q⟩ rfl rfl
theorem eY.begin (h:eY evs s cw W m) {n:Nat} (hend:s.ended n=false) (hn:n<4) (hj:s.opn n=none):eY (evs++[⟨n,1,W,0⟩]) ⟨s.bu++[begun ⟨n,1,W,0⟩ evs.length],upd s.opn n (some s.bu.length),s.ended⟩ cw W m:=by
 have hs:je s ⟨n,1,W,0⟩ evs.length=some ⟨s.bu++[begun ⟨n,1,W,0⟩ evs.length],upd s.opn n (some s.bu.length),s.ended⟩:=by
  unfold je;rw[if_neg (by simp only;omega)];simp only[Int.toNat_natCast];rw[if_neg (by rw[hend];simp),hj];simp
 refine⟨h.next hs,h.bX,fun a ha=>?_,fun a=>?_,h.inc,fun a ha c hc hak hlt=>?_⟩
 ·rcases List.mem_append.1 (show a∈s.bu++[begun ⟨n,1,W,0⟩ evs.length] from ha) with ha|ha
  ·exact h.oQ a ha
  ·rw[List.mem_singleton.1 ha];exact⟨h.bX,Int.le_refl _,trivial,fun e he=>by simp[begun] at he,.inl rfl,fun _=>⟨rfl,rfl⟩,fun q=>by simp[begun] at q,fun q=>by simp[begun] at q⟩
 ·rw[h.M8];constructor
  ·rintro⟨ha,q⟩;exact⟨List.mem_append_left _ ha,q⟩
  ·rintro⟨ha,hak,haw⟩;rcases List.mem_append.1 (show a∈s.bu++[begun ⟨n,1,W,0⟩ evs.length] from ha) with ha|ha
   ·exact⟨ha,hak,haw⟩
   ·rw[List.mem_singleton.1 ha] at hak;simp[begun] at hak
 ·have ha':a∈s.bu:=by
   rcases List.mem_append.1 (show a∈s.bu++[begun ⟨n,1,W,0⟩ evs.length] from ha) with ha|ha
   ·exact ha
   ·rw[List.mem_singleton.1 ha] at hak;simp[begun] at hak
  rcases List.mem_append.1 (show c∈s.bu++[begun ⟨n,1,W,0⟩ evs.length] from hc) with hc|hc
  ·exact h.real a ha' c hc hak hlt
  ·rw[List.mem_singleton.1 hc];exact h.BP ha' hak
theorem eY.reader (h:eY evs s cw W m) {n j:Nat} {b:bV} (hend:s.ended n=false) (hn:n<4) (hj:s.opn n=some j) (hb:s.bu[j]? =some b) (hw:∀e∈b.done,e.k≠3):eY (evs++[⟨n,7,b.clock,0⟩]) ⟨s.bu.modify j (dW ⟨n,7,b.clock,0⟩ evs.length),upd s.opn n none,s.ended⟩ cw W m:=by
 obtain⟨b',hb', -, -,hk0,hp0,hw0,hb1,hb2⟩:=h.j_ hj;rw[hb] at hb';cases hb';have ok:=h.oQ b (bA hb);have uU:∀c∈s.bu,c.uU<evs.length:=fun c hc=>by
  obtain⟨k,hk⟩:=List.getElem?_of_mem hc;exact(h.hok.oQ k c hk).2.2.2.1
 refine⟨h.next ((j4 hn rfl hend hj).2.1 rfl),h.bX,fun a ha=>?_,fun a=>?_,h.inc,fun a ha c hc hak hlt=>?_⟩
 ·rcases eU hb ha with rfl|ha
  ·exact⟨ok.uE,ok.clock1,ok.rd,ok.evs,.inr (.inl rfl),fun q=>absurd rfl q,fun _ _=>⟨rfl,hw⟩,fun _ q=>by simp[dW] at q⟩
  ·exact h.oQ a ha
 ·rw[h.M8];constructor
  ·rintro⟨ha,hak,haw⟩;exact⟨xG hb ha (fun q=>by rw[q] at hak;omega),hak,haw⟩
  ·rintro⟨ha,hak,haw⟩;rcases eU hb ha with rfl|ha
   ·simp[dW] at haw
   ·exact⟨ha,hak,haw⟩
 ·have hc1:c.uU<evs.length/\∃c0∈s.bu,c0.uU=c.uU/\c0.clock=c.clock:=by
   rcases eU hb hc with rfl|hc
   ·exact⟨hb2,b,bA hb,rfl,rfl⟩
   ·exact⟨uU c hc,c,hc,rfl,rfl⟩
  obtain⟨hlen,c0,hc0,e1,e2⟩:=hc1;rcases eU hb ha with rfl|ha
  ·have:(evs.length:Int)<c.uU:=hlt;omega
  ·rw[<-e2];exact h.real a ha c0 hc0 hak (by omega)
theorem eY.trap (h:eY evs s cw W m) {n j:Nat} (hend:s.ended n=false) (hn:n<4) (hj:s.opn n=some j) (a:Int):eY (evs++[⟨n,11,a,0⟩]) ⟨s.bu.modify j (closed 3 evs.length),upd s.opn n none,upd s.ended n true⟩ cw W m:=by
 obtain⟨b,hb, -, -,hk0,hp0,hw0, -⟩:=h.j_ hj;have ok:=h.oQ b (bA hb);have hs:je s ⟨n,11,a,0⟩ evs.length=some ⟨s.bu.modify j (closed 3 evs.length),upd s.opn n none,upd s.ended n true⟩:=by
  unfold je;rw[if_neg (by simp only;omega)];simp only[Int.toNat_natCast];rw[if_neg (by rw[hend];simp),hj];simp
 exact h.turn hj hb hs (by simp[closed]) ⟨ok.uE,ok.clock1,ok.rd,ok.evs,.inr (.inr (.inr rfl)),fun _=>⟨hp0,hw0⟩,fun q=>by simp[closed] at q,fun q=>by simp[closed] at q⟩ rfl rfl
theorem eY.outer (h:eY evs s cw W m) {e:Ev} {e':Nat->Bool} (hs:je s e evs.length=some ⟨s.bu,s.opn,e'⟩):eY (evs++[e]) ⟨s.bu,s.opn,e'⟩ cw W m:=
 ⟨h.next hs,h.bX,h.oQ,h.M8,h.inc,h.real⟩
theorem CG {n i:Nat} {a:Int} (hn:n<4) (hend:s.ended n=false) (hj:s.opn n=none):je s ⟨n,9,a,0⟩ i=some ⟨s.bu,s.opn,s.ended⟩:=by
 unfold je;rw[if_neg (by simp only;omega)];simp only[Int.toNat_natCast];rw[if_neg (by rw[hend];simp),hj];simp
theorem Dz {n i:Nat} (hn:n<4) (hend:s.ended n=false) (hj:s.opn n=none):je s ⟨n,10,0,0⟩ i=some ⟨s.bu,s.opn,upd s.ended n true⟩:=by
 unfold je;rw[if_neg (by simp only;omega)];simp only[Int.toNat_natCast];rw[if_neg (by rw[hend];simp),hj];simp
def GY (l:List Ev) (x:Int):Prop:=∃l1 e l2,l=l1++e::l2/\e.k=2/\e.a=x/\∀d∈l1,d.k=3->d.a≠x
theorem B_ (l:List Ev):∀{f g:Int->Int},wY l f->(∀x,GY l x->f x=g x)->wY l g:=by
 induction l with
 |nil=>intro f g _ _;trivial
 |cons e l ih=>
  intro f g h ha;refine⟨fun q=>?_,ih h.2 (fun x hx=>?_)⟩
  ·rw[<-ha _ ⟨[],e,l,rfl,q,rfl,by simp⟩];exact h.1 q
  ·obtain⟨l1,d,l2,rfl,q1,q2,q3⟩:=hx;by_cases he:e.k=3
   ·rw[yg he,yg he];by_cases hxa:x=e.a
    ·rw[if_pos hxa,if_pos hxa]
    ·rw[if_neg hxa,if_neg hxa];exact ha x ⟨e::l1,d,l2,rfl,q1,q2,fun b hb hk=>by
      rcases List.mem_cons.1 hb with rfl|hb
      ·exact fun q=>hxa q.symm
      ·exact q3 b hb hk⟩
   ·rw[FZ he,FZ he];exact ha x ⟨e::l1,d,l2,rfl,q1,q2,fun b hb hk=>by
     rcases List.mem_cons.1 hb with rfl|hb
     ·exact absurd hk he
     ·exact q3 b hb hk⟩
theorem MS {x:Int}:¬GY [] x:=by
 rintro⟨l1,e,l2,h, -⟩;simp at h
theorem Jl {l:List Ev} {e:Ev} {x:Int} (h:GY (l++[e]) x):GY l x\/e.k=2/\e.a=x/\∀d∈l,d.k=3->d.a≠x:=by
 obtain⟨l1,d,l2,h1,q1,q2,q3⟩:=h;rcases List.eq_nil_or_concat l2 with rfl|⟨l3,b,rfl⟩
 ·have:=List.append_inj' h1 (by simp);obtain⟨rfl,h3⟩:=this;cases h3;exact .inr ⟨q1,q2,q3⟩
 ·rw[List.concat_eq_append] at h1;have h2:l1++d::(l3++[b])=(l1++d::l3)++[b]:=by simp
  rw[h2] at h1;have:=List.append_inj' h1 (by simp);exact .inl ⟨l1,d,l3,this.1,q1,q2,q3⟩
def uk (x:bV) (cw:List bV):List bV:=cw.filter (fun a=>decide (a.place<x.place))++x::cw.filter (fun a=>!decide (a.place<x.place))
theorem zn (x:bV) (cw:List bV) (a:bV):a∈uk x cw↔a=x\/a∈cw:=by
 unfold uk;rw[List.mem_append,List.mem_cons,List.mem_filter,List.mem_filter];by_cases h:a.place<x.place
 ·simp[h];exact or_comm
 ·simp[h]
theorem Rl {x:bV} {cw:List bV} (h:cw.Pairwise (fun a b=>a.place<b.place)) (hx:∀a∈cw,a.place≠x.place):(uk x cw).Pairwise (fun a b=>a.place<b.place):=by
 unfold uk;rw[List.pairwise_append,List.pairwise_cons];refine⟨h.sublist List.filter_sublist,⟨fun a ha=>?_,h.sublist List.filter_sublist⟩,fun a ha b hb=>?_⟩
 ·rw[List.mem_filter] at ha;have:=hx a ha.1;have h2:=ha.2;simp at h2;omega
 ·rw[List.mem_filter] at ha;have h1:=ha.2;simp at h1;rcases List.mem_cons.1 hb with rfl|hb
  ·exact h1
  ·rw[List.mem_filter] at hb;have h2:=hb.2;simp at h2;omega
theorem xQ {p:Int} {cw:List bV} (h:cw.Pairwise (fun a b=>a.place<b.place)):cw.filter (fun a=>decide (a.place<p))++cw.filter (fun a=>!decide (a.place<p))=cw:=by
 induction cw with
 |nil=>rfl
 |cons a l ih=>
  rw[List.pairwise_cons] at h;by_cases hp:a.place<p
  ·rw[List.filter_cons_of_pos (by simpa using hp),List.filter_cons_of_neg (by simpa using hp),List.cons_append,ih h.2]
  ·have:l.filter (fun a=>decide (a.place<p))=[]:=by
    rw[List.filter_eq_nil_iff];intro b hb;have:=h.1 b hb;simp;omega
   rw[List.filter_cons_of_neg (by simpa using hp),List.filter_cons_of_pos (by simpa using hp),this,List.nil_append];congr 1
   rw[List.filter_eq_self];intro b hb;have:=h.1 b hb;simp;omega
theorem NG (l:List bV) {y:Int}:∀{f g:Int->Int},f y=g y->l.foldl xy f y=l.foldl xy g y:=by
 induction l with
 |nil=>intro f g h;exact h
 |cons a l ih=>intro f g h;exact ih (Ma a.done h)
theorem Oz (l:List bV) {y:Int}:∀{f:Int->Int},(∀a∈l,¬lK a y)->l.foldl xy f y=f y:=by
 induction l with
 |nil=>intro f _;rfl
 |cons a l ih=>
  intro f h;rw[List.foldl_cons,ih (fun b hb=>h b (List.mem_cons_of_mem _ hb))];exact nD a.done f (fun e he h1 h2=>h a List.mem_cons_self ⟨e,he,h1,h2⟩)
theorem tC {x:bV} {cw:List bV} (h:cw.Pairwise (fun a b=>a.place<b.place)) {c:Int} (hc:c<x.place):CP (uk x cw) c=CP cw c:=by
 unfold CP;have e1:(uk x cw).filter (fun a=>decide (a.place<=c))=cw.filter (fun a=>decide (a.place<=c)):=by
  conv=>rhs;rw[<-xQ (p:=x.place) h]
  unfold uk;rw[List.filter_append,List.filter_append,List.filter_cons_of_neg (by simp;omega)]
 rw[e1]
theorem zK {x:bV} {cw:List bV} (h:cw.Pairwise (fun a b=>a.place<b.place)) (c:Int) {y:Int} (hy:¬lK x y):CP (uk x cw) c y=CP cw c y:=by
 unfold CP CA
 conv=>rhs;rw[<-xQ (p:=x.place) h]
 unfold uk;rw[List.filter_append,List.filter_append,List.foldl_append,List.foldl_append];by_cases hc:x.place<=c
 ·rw[List.filter_cons_of_pos (by simpa using hc),List.foldl_cons];exact NG _ (nD x.done _ (fun e he h1 h2=>hy ⟨e,he,h1,h2⟩))
 ·rw[List.filter_cons_of_neg (by simpa using hc)]
theorem Od {x:bV} {cw:List bV} (h:cw.Pairwise (fun a b=>a.place<b.place)) {y:Int} (hy:¬lK x y):CA (uk x cw) y=CA cw y:=by
 unfold CA
 conv=>rhs;rw[<-xQ (p:=x.place) h]
 unfold uk;rw[List.foldl_append,List.foldl_append,List.foldl_cons];exact NG _ (nD x.done _ (fun e he h1 h2=>hy ⟨e,he,h1,h2⟩))
theorem PK {x:bV} {cw:List bV} {y:Int} (hl:∀a∈cw,lK a y->a.place<x.place) (hy:lK x y) (f:Int->Int):CA (uk x cw) y=wN x.done f y:=by
 unfold CA uk;rw[List.foldl_append,List.foldl_cons,Oz _ (fun a ha hw=>by
  rw[List.mem_filter] at ha;have h1:=hl a ha.1 hw;have h2:=ha.2;simp at h2;omega)]
 exact FH x.done _ _ hy
theorem eY.writer (h:eY evs s cw W m) {n j:Nat} {b:bV} (hend:s.ended n=false) (hn:n<4) (hj:s.opn n=some j) (hb:s.bu[j]? =some b) {p:Int} (hp:b.clock<p) (hpW:p<=W) (hfr:∀a∈cw,a.place≠p) (hr:wY b.done (CP cw (p - 1)))
  (hsn:∀a∈s.bu,p<=a.clock\/a.kind=1/\a.writer=true/\p<a.place->∀y,GY a.done y->¬lK b y):
  eY (evs++[⟨n,7,p,1⟩]) ⟨s.bu.modify j (dW ⟨n,7,p,1⟩ evs.length),upd s.opn n none,s.ended⟩ (uk (dW ⟨n,7,p,1⟩ evs.length b) cw) W m:=by
 obtain⟨b',hb', -, -,hk0,hp0,hw0,hb1,hb2⟩:=h.j_ hj;rw[hb] at hb';cases hb';have ok:=h.oQ b (bA hb);have uU:∀c∈s.bu,c.uU<evs.length:=fun c hc=>by
  obtain⟨k,hk⟩:=List.getElem?_of_mem hc;exact(h.hok.oQ k c hk).2.2.2.1
 obtain⟨x,hx⟩:∃x,x=dW ⟨n,7,p,1⟩ evs.length b:=⟨_,rfl⟩;have hxp:x.place=p:=by rw[hx];rfl
 have hxw:∀y,lK x y↔lK b y:=fun y=>by rw[hx];exact Iff.rfl
 rw[<-hx];refine⟨h.next ((j4 hn rfl hend hj).2.1 rfl),h.bX,fun a ha=>?_,fun a=>?_,Rl h.inc (by rw[hxp];exact hfr),fun a ha c hc hak hlt=>?_⟩
 ·rcases eU hb ha with rfl|ha
  ·refine⟨ok.uE,ok.clock1,?_,ok.evs,.inr (.inl rfl),fun q=>absurd rfl q,fun _ q=>by simp[dW] at q,fun _ _=>⟨hp,hpW,?_⟩⟩
   ·show wY b.done (CP (uk x cw) b.clock);rw[tC h.inc (by omega)];exact ok.rd
   ·show wY b.done (CP (uk x cw) (p - 1));rw[tC h.inc (by omega)];exact hr
  ·have oa:=h.oQ a ha;refine⟨oa.uE,oa.clock1,?_,oa.evs,oa.kind,oa.plain,oa.reader,fun h1 h2=>?_⟩
   ·rcases Int.lt_or_le a.clock p with q|q
    ·rw[tC h.inc (by omega)];exact oa.rd
    ·exact B_ _ oa.rd (fun y hy=>(zK h.inc _ (fun hw=>hsn a ha (.inl q) y hy ((hxw y).1 hw))).symm)
   ·have h3:=oa.writer h1 h2;refine⟨h3.1,h3.2.1,?_⟩;rcases Int.lt_or_le (a.place - 1) p with q|q
    ·rw[tC h.inc (by omega)];exact h3.2.2
    ·exact B_ _ h3.2.2 (fun y hy=>(zK h.inc _ (fun hw=>hsn a ha (.inr ⟨h1,h2,by omega⟩) y hy ((hxw y).1 hw))).symm)
 ·rw[zn,h.M8];constructor
  ·rintro(rfl|⟨ha,hak,haw⟩)
   ·exact⟨by rw[hx];exact LW hb,by rw[hx];rfl,by rw[hx];rfl⟩
   ·exact⟨xG hb ha (fun q=>by rw[q] at hak;omega),hak,haw⟩
  ·rintro⟨ha,hak,haw⟩;rcases eU hb ha with rfl|ha
   ·exact .inl hx.symm
   ·exact .inr ⟨ha,hak,haw⟩
 ·have hc1:c.uU<evs.length/\∃c0∈s.bu,c0.uU=c.uU/\c0.clock=c.clock:=by
   rcases eU hb hc with rfl|hc
   ·exact⟨hb2,b,bA hb,rfl,rfl⟩
   ·exact⟨uU c hc,c,hc,rfl,rfl⟩
  obtain⟨hlen,c0,hc0,e1,e2⟩:=hc1;rcases eU hb ha with rfl|ha
  ·have:(evs.length:Int)<c.uU:=hlt;omega
  ·rw[<-e2];exact h.real a ha c0 hc0 hak (by omega)
theorem eY.other (h:eY evs s cw W m) {n k j i:Nat} (hk:k≠n) (hj:s.opn n=some j) (hi:s.opn k=some i):i≠j:=by
 obtain⟨b,hb,e1, -⟩:=h.j_ hj;obtain⟨c,hc,e2, -⟩:=h.j_ hi;rintro rfl;rw[hb] at hc;cases hc;omega
theorem kF {l:List bV} {j k:Nat} {f:bV->bV} (h:k≠j):(l.modify j f)[k]? =l[k]?:=by
 rw[gW];cases l[k]? with
 |none=>rfl
 |some a=>simp[h]
theorem rF {l:List bV} {j:Nat} {f:bV->bV} {b:bV} (h:l[j]? =some b):(l.modify j f)[j]? =some (f b):=by rw[gW,h];simp
theorem fG {α:Type} (f:Nat->α) (i:Nat) (x:α):upd f i x i=x:=by simp[bN]
theorem jm {α:Type} (f:Nat->α) {i j:Nat} (x:α) (h:j≠i):upd f i x j=f j:=by simp[bN,h]
end Go.Proofs.YtopdcjimpdalpaaGreat

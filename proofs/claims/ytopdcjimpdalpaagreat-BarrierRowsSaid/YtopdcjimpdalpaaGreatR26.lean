import Derived.Test.YtopdcjimpdalpaaGreatR25
namespace Go.Proofs.YtopdcjimpdalpaaGreat
open Go.RowKit
set_option linter.all false
section
variable {t:dI} {lo hi words C:Int} {rs:List (List Tx)} {l:List Tx} {a:aY} {pv:Int->Int} {r0 r1 r2 r3 r4 r5 r6:Int} {s H:Nat} {o:Tx}
theorem uX.more (B:uX words C a) (k:Nat) (sum:Int):uX words C {a with op:=k,sum:=sum}:=⟨B.len,B.keys,B.uJ,B.rd,B.dx,B.fin,B.old⟩
theorem QJ {c:Int} (X:Ctx t lo hi rs) (hl:rs[a.row]? =some l) (hf:a.fin=0) (hc:0<=c/\c<=C) (h1:pv (t.base+1)=0) (h2:pv (t.base+2)=0) (h3:pv (t.base+3)=0) (h6:pv (t.base+6)=0):
  eT (bM t rs) lo hi (wP t rs ({a with dx:=c,reads:=0,log:=[],sum:=0,held:=fun _=>false,op:=0}.di l)) 252 ⟨dw rs a.row+7,c,r1,r2,r3,r4,r5,r6,0,pv⟩:=by
 have L:=X.lay;have R:=bQ t rs hl;have hb:=L.base;have hsm:=L.sum;refine eT.le (k:=250+2) ?_ (by omega);refine .step (R.begin 7 _ rfl) (.store (a:=7) (b:=0) (by decide) (by decide) (L.b (by decide) (by decide)).1 (L.b (by decide) (by decide)).2.1 (L.b (by decide) (by decide)).2.2) ?_;dsimp only[aF,aJ,aC,aD,aA,aK,aM,aG,ax,ay,aH,aI,aL,aN,az,LS.at,LS.aW];refine .step (R.begin 8 _ rfl) (.store (a:=7) (b:=7) (by decide) (by decide) (L.s).1 (L.s).2.1 (L.s).2.2) ?_;dsimp only[aF,aJ,aC,aD,aA,aK,aM,aG,ax,ay,aH,aI,aL,aN,az,LS.at,LS.aW];have F:Fr t c 0 [] 0 0 (zB (zB pv (t.base+0) c) t.sum 0):=by
  refine⟨?_,?_,?_,?_,?_,gP _ _ _,fun i d hd=>by simp at hd⟩
  ·rw[bn _ (by omega),gP]
  ·rw[bn _ (by omega),bn _ (by omega),h1];rfl
  ·rw[bn _ (by omega),bn _ (by omega),h2];rfl
  ·rw[bn _ (by omega),bn _ (by omega),h3]
  ·rw[bn _ (by omega),bn _ (by omega),h6];rfl
 have B:uX t.words C {a with dx:=c,reads:=0,log:=[],sum:=0,held:=fun _=>false,op:=0}:=⟨by simp,by simp,by simp,Nat.zero_lt_succ 65535,hc,hf,fun k hk=>by simp at hk⟩;have:=vX (r0:=c) (r1:=r1) (r2:=r2) (r3:=r3) (r4:=r4) (r5:=r5) (r6:=r6) (a:={a with dx:=c,reads:=0,log:=[],sum:=0,held:=fun _=>false,op:=0}) X hl B (fun _=>rfl) (Nat.zero_le _) F;simpa [aV] using this
theorem YT (X:Ctx t lo hi rs) (hl:rs[a.row]? =some l) (B:uX t.words C a) (hh:∀k,a.held k=false) (ho:l[a.op]? =some o) (hk:o.kind=2) (F:xu t a 0 pv):
  eT (bM t rs) lo hi (wP t rs ({a with op:=a.op+1,sum:=fV (a.sum+a.v)}.di l)) (253+23*a.log.length) ⟨dw rs a.row+9+aV (l.take a.op)+45,r0,a.x,a.v,r3,r4,r5,r6,0,pv⟩:=by
 have L:=X.lay;have R:=bQ t rs hl;have R1:=R.ops a.op o ho;rw[if_pos hk] at R1;obtain⟨H,F1,hH,hb⟩:=id F;obtain rfl:H=0:=OJ hH (by decide) (fun i hi=>by rw[hb i (Nat.zero_le _) hi,hh i];simp);obtain⟨v,hv⟩:∃v,v=fV (a.sum+a.v):=⟨_,rfl⟩;rw[<-hv];refine eT.le (k:=250+23*a.log.length+3) ?_ (by omega);refine .step (R1 45 _ rfl) (.load (a:=1) (b:=7) (by decide) (by decide) (L.s).1 (L.s).2.1 (L.s).2.2) ?_;dsimp only[aF,aJ,aC,aD,aA,aK,aM,aG,ax,ay,aH,aI,aL,aN,az,LS.at,LS.aW];rw[F1.sum];refine .step (R1 46 _ rfl) (.oN (a:=1) (b:=2) (by decide) (by decide) (eH (hv.symm))) ?_;dsimp only[aF,aJ,aC,aD,aA,aK,aM,aG,ax,ay,aH,aI,aL,aN,az,LS.at,LS.aW];refine .step (R1 47 _ rfl) (.store (a:=7) (b:=1) (by decide) (by decide) (L.s).1 (L.s).2.1 (L.s).2.2) ?_;dsimp only[aF,aJ,aC,aD,aA,aK,aM,aG,ax,ay,aH,aI,aL,aN,az,LS.at,LS.aW];have:=vX (r0:=r0) (r1:=v) (r2:=a.v) (r3:=r3) (r4:=r4) (r5:=r5) (r6:=r6) (a:={a with op:=a.op+1,sum:=v}) X hl (B.more _ _) hh (Nat.succ_le_of_lt (bu.1 ho).1) (F1.abb L B.len v);rw[show({a with op:=a.op+1,sum:=v}:aY).op=a.op+1 from rfl,show({a with op:=a.op+1,sum:=v}:aY).row=a.row from rfl,acI ho hk] at this;exact this
theorem XG (X:Ctx t lo hi rs) (hl:rs[a.row]? =some l) (B:uX t.words C a) (hh:∀k,a.held k=false) (ho:l[a.op]? =some o) (hk:o.kind≠2) (hx:1<=a.x/\a.x<=t.words) (hr:place a.log a.x<a.log.length\/a.log.length<64) (F:xu t {a with log:=mK a.log a.x a.v} 0 pv):
  eT (bM t rs) lo hi (wP t rs ({a with op:=a.op+1,log:=mK a.log a.x a.v}.di l)) (250+23*(mK a.log a.x a.v).length) ⟨dw rs a.row+9+aV (l.take a.op)+33,r0,r1,r2,r3,r4,r5,r6,0,pv⟩:=by
 obtain⟨H,F1,hH,hb⟩:=id F;obtain rfl:H=0:=OJ hH (by decide) (fun i hi=>by rw[hb i (Nat.zero_le _) hi];simp only;rw[hh i];simp);obtain⟨p1,p2,p3⟩:=Oy (v:=a.v) B.len B.keys B.uJ hr hx;have:=vX (r0:=r0) (r1:=r1) (r2:=r2) (r3:=r3) (r4:=r4) (r5:=r5) (r6:=r6) (a:={a with op:=a.op+1,log:=mK a.log a.x a.v}) X hl ⟨p1,p2,p3,B.rd,B.dx,B.fin,B.old⟩ hh (Nat.succ_le_of_lt (bu.1 ho).1) F1;rw[show({a with op:=a.op+1,log:=mK a.log a.x a.v}:aY).op=a.op+1 from rfl,show({a with op:=a.op+1,log:=mK a.log a.x a.v}:aY).row=a.row from rfl,adE ho hk] at this;exact this
theorem Td {V:Int} (X:Ctx t lo hi rs) (hl:rs[a.row]? =some l) (ho:l[a.op]? =some o) (hk:o.kind=2) (F:xu t a 0 pv) (hV:0<=V/\V<9223372036854775808):
  eT (bM t rs) lo hi (wP t rs (if V%2≠0\/a.dx<V/2 then {a with pt:=.yz} else {a with pt:=.dat,l1:=V})) 11 ⟨dw rs a.row+9+aV (l.take a.op)+20,(bA a.x:Int),a.x,r2,V,r4,t.words+2+(bA a.x:Int),r6,0,pv⟩:=by
 have L:=X.lay;have R:=bQ t rs hl;have R1:=R.ops a.op o ho;rw[if_pos hk] at R1;obtain⟨H,F1,hH,hb⟩:=id F;refine .step (R1 20 _ rfl) (.move (a:=6) (b:=3) (by decide) (by decide)) ?_;dsimp only[aF,aJ,aC,aD,aA,aK,aM,aG,ax,ay,aH,aI,aL,aN,az,LS.at,LS.aW];refine .step (R1 21 _ rfl) (.set (a:=4) (by decide)) ?_;dsimp only[aF,aJ,aC,aD,aA,aK,aM,aG,ax,ay,aH,aI,aL,aN,az,LS.at,LS.aW];refine .step (R1 22 _ rfl) (.oN (a:=6) (b:=4) (by decide) (by decide) (xG _)) ?_;dsimp only[aF,aJ,aC,aD,aA,aK,aM,aG,ax,ay,aH,aI,aL,aN,az,LS.at,LS.aW];by_cases h1:V%2=0
 ·rw[h1];refine .step (R1 23 _ rfl) (.zero (a:=6) (by decide) (rfl)) ?_;dsimp only[aF,aJ,aC,aD,aA,aK,aM,aG,ax,ay,aH,aI,aL,aN,az,LS.at,LS.aW];refine .step (R1 25 _ rfl) (.move (a:=6) (b:=3) (by decide) (by decide)) ?_;dsimp only[aF,aJ,aC,aD,aA,aK,aM,aG,ax,ay,aH,aI,aL,aN,az,LS.at,LS.aW];refine .step (R1 26 _ rfl) (.set (a:=4) (by decide)) ?_;dsimp only[aF,aJ,aC,aD,aA,aK,aM,aG,ax,ay,aH,aI,aL,aN,az,LS.at,LS.aW];refine .step (R1 27 _ rfl) (.oN (a:=6) (b:=4) (by decide) (by decide) (Fz hV)) ?_;dsimp only[aF,aJ,aC,aD,aA,aK,aM,aG,ax,ay,aH,aI,aL,aN,az,LS.at,LS.aW];refine .step (R1 28 _ rfl) (.load (a:=4) (b:=7) (by decide) (by decide) (L.b (by decide) (by decide)).1 (L.b (by decide) (by decide)).2.1 (L.b (by decide) (by decide)).2.2) ?_;dsimp only[aF,aJ,aC,aD,aA,aK,aM,aG,ax,ay,aH,aI,aL,aN,az,LS.at,LS.aW];rw[F1.dx];by_cases h2:a.dx<V/2
  ·rw[if_pos (.inr h2)];refine .step (R1 29 _ rfl) (.oN (a:=4) (b:=6) (by decide) (by decide) (wh (h2))) ?_;dsimp only[aF,aJ,aC,aD,aA,aK,aM,aG,ax,ay,aH,aI,aL,aN,az,LS.at,LS.aW];refine .step (R1 30 _ rfl) (.more (a:=4) (by decide) (Int.one_ne_zero)) ?_;dsimp only[aF,aJ,aC,aD,aA,aK,aM,aG,ax,ay,aH,aI,aL,aN,az,LS.at,LS.aW];refine .step (R1 31 _ rfl) (.jump) ?_;dsimp only[aF,aJ,aC,aD,aA,aK,aM,aG,ax,ay,aH,aI,aL,aN,az,LS.at,LS.aW];exact .here (.inr (.inr ⟨l,hl,_,_,_,_,_,_,_,_,rfl⟩))
  ·rw[if_neg (fun q=>q.elim (fun q=>q rfl) h2)];refine .step (R1 29 _ rfl) (.oN (a:=4) (b:=6) (by decide) (by decide) (CL (h2))) ?_;dsimp only[aF,aJ,aC,aD,aA,aK,aM,aG,ax,ay,aH,aI,aL,aN,az,LS.at,LS.aW];refine .step (R1 30 _ rfl) (.zero (a:=4) (by decide) (rfl)) ?_;dsimp only[aF,aJ,aC,aD,aA,aK,aM,aG,ax,ay,aH,aI,aL,aN,az,LS.at,LS.aW];exact .here (.inr (.inr ⟨l,hl,o,_,_,_,_,ho,hk,rfl,F⟩))
 ·rw[if_pos (.inl h1)];refine .step (R1 23 _ rfl) (.more (a:=6) (by decide) (h1)) ?_;dsimp only[aF,aJ,aC,aD,aA,aK,aM,aG,ax,ay,aH,aI,aL,aN,az,LS.at,LS.aW];refine .step (R1 24 _ rfl) (.jump) ?_;dsimp only[aF,aJ,aC,aD,aA,aK,aM,aG,ax,ay,aH,aI,aL,aN,az,LS.at,LS.aW];exact .here (.inr (.inr ⟨l,hl,_,_,_,_,_,_,_,_,rfl⟩))
theorem Vo {V:Int} (X:Ctx t lo hi rs) (hl:rs[a.row]? =some l) (B:uX t.words C a) (ho:l[a.op]? =some o) (hk:o.kind=2) (F:xu t a 0 pv) (hV:0<=V/\V<9223372036854775808) (hL:0<=a.l1/\a.l1<9223372036854775808):
  eT (bM t rs) lo hi (wP t rs (if V=a.l1 then {a with pt:=.rd,reads:=a.reads|||1<<<bA a.x} else {a with pt:=.yz})) 8 ⟨dw rs a.row+9+aV (l.take a.op)+34,(bA a.x:Int),a.x,a.v,a.l1,V,t.words+2+(bA a.x:Int),r6,0,pv⟩:=by
 have L:=X.lay;have R:=bQ t rs hl;have R1:=R.ops a.op o ho;rw[if_pos hk] at R1;obtain⟨H,F1,hH,hb⟩:=id F;refine .step (R1 34 _ rfl) (.oN (a:=4) (b:=3) (by decide) (by decide) (rJ (fH (x:=V - a.l1) (by omega)))) ?_;dsimp only[aF,aJ,aC,aD,aA,aK,aM,aG,ax,ay,aH,aI,aL,aN,az,LS.at,LS.aW];by_cases h1:V=a.l1
 ·rw[if_pos h1,h1,Int.sub_self];have hs:=cu a.x;refine .step (R1 35 _ rfl) (.zero (a:=4) (by decide) (rfl)) ?_;dsimp only[aF,aJ,aC,aD,aA,aK,aM,aG,ax,ay,aH,aI,aL,aN,az,LS.at,LS.aW];refine .step (R1 37 _ rfl) (.set (a:=4) (by decide)) ?_;dsimp only[aF,aJ,aC,aD,aA,aK,aM,aG,ax,ay,aH,aI,aL,aN,az,LS.at,LS.aW];refine .step (R1 38 _ rfl) (.oN (a:=4) (b:=0) (by decide) (by decide) (Ej hs)) ?_;dsimp only[aF,aJ,aC,aD,aA,aK,aM,aG,ax,ay,aH,aI,aL,aN,az,LS.at,LS.aW];refine .step (R1 39 _ rfl) (.load (a:=6) (b:=7) (by decide) (by decide) (L.b (by decide) (by decide)).1 (L.b (by decide) (by decide)).2.1 (L.b (by decide) (by decide)).2.2) ?_;dsimp only[aF,aJ,aC,aD,aA,aK,aM,aG,ax,ay,aH,aI,aL,aN,az,LS.at,LS.aW];rw[F1.reads];refine .step (R1 40 _ rfl) (.oN (a:=6) (b:=4) (by decide) (by decide) (Hf B.rd (uh hs))) ?_;dsimp only[aF,aJ,aC,aD,aA,aK,aM,aG,ax,ay,aH,aI,aL,aN,az,LS.at,LS.aW];refine .step (R1 41 _ rfl) (.store (a:=7) (b:=6) (by decide) (by decide) (L.b (by decide) (by decide)).1 (L.b (by decide) (by decide)).2.1 (L.b (by decide) (by decide)).2.2) ?_;dsimp only[aF,aJ,aC,aD,aA,aK,aM,aG,ax,ay,aH,aI,aL,aN,az,LS.at,LS.aW];refine .step (R1 42 _ rfl) (.jump) ?_;dsimp only[aF,aJ,aC,aD,aA,aK,aM,aG,ax,ay,aH,aI,aL,aN,az,LS.at,LS.aW];refine .here (.inr (.inr ⟨l,hl,o,_,_,_,_,_,_,ho,hk,rfl,H,?_,hH,hb⟩));rw[Nat.one_shiftLeft];exact F1.UL L B.len _
 ·rw[if_neg h1];refine .step (R1 35 _ rfl) (.more (a:=4) (by decide) ((show V - a.l1≠0 by omega))) ?_;dsimp only[aF,aJ,aC,aD,aA,aK,aM,aG,ax,ay,aH,aI,aL,aN,az,LS.at,LS.aW];refine .step (R1 36 _ rfl) (.jump) ?_;dsimp only[aF,aJ,aC,aD,aA,aK,aM,aG,ax,ay,aH,aI,aL,aN,az,LS.at,LS.aW];exact .here (.inr (.inr ⟨l,hl,_,_,_,_,_,_,_,_,rfl⟩))
theorem Ve {V:Int} (X:Ctx t lo hi rs) (hl:rs[a.row]? =some l) (F:xu t a 0 pv) (O:Ol t a pv) (hn:pv (t.base+7)=(needs a.log:Int)):
  eT (bM t rs) lo hi (wP t rs (if V%2≠0 then a.bZ 0 else {a with pt:=.CR,l1:=V})) 216 ⟨dw rs a.row+9+aV l+32,r0,r1,r2,V,r4,t.words+2+(a.s:Int),(a.s:Int),0,pv⟩:=by
 have L:=X.lay;have R:=bQ t rs hl;refine eT.le (k:=211+5) ?_ (by omega);refine .step (R.aQ 32 _ rfl) (.move (a:=4) (b:=3) (by decide) (by decide)) ?_;dsimp only[aF,aJ,aC,aD,aA,aK,aM,aG,ax,ay,aH,aI,aL,aN,az,LS.at,LS.aW];refine .step (R.aQ 33 _ rfl) (.set (a:=2) (by decide)) ?_;dsimp only[aF,aJ,aC,aD,aA,aK,aM,aG,ax,ay,aH,aI,aL,aN,az,LS.at,LS.aW];refine .step (R.aQ 34 _ rfl) (.oN (a:=4) (b:=2) (by decide) (by decide) (xG _)) ?_;dsimp only[aF,aJ,aC,aD,aA,aK,aM,aG,ax,ay,aH,aI,aL,aN,az,LS.at,LS.aW];by_cases h1:V%2=0
 ·rw[if_neg (fun q=>q h1),h1];refine .step (R.aQ 35 _ rfl) (.zero (a:=4) (by decide) (rfl)) ?_;dsimp only[aF,aJ,aC,aD,aA,aK,aM,aG,ax,ay,aH,aI,aL,aN,az,LS.at,LS.aW];refine .step (R.aQ 37 _ rfl) (.move (a:=4) (b:=3) (by decide) (by decide)) ?_;dsimp only[aF,aJ,aC,aD,aA,aK,aM,aG,ax,ay,aH,aI,aL,aN,az,LS.at,LS.aW];refine .step (R.aQ 38 _ rfl) (.set (a:=2) (by decide)) ?_;dsimp only[aF,aJ,aC,aD,aA,aK,aM,aG,ax,ay,aH,aI,aL,aN,az,LS.at,LS.aW];exact .here (.inr (.inr ⟨l,hl,_,_,_,rfl,F,O,hn⟩))
 ·rw[if_pos h1];refine .step (R.aQ 35 _ rfl) (.more (a:=4) (by decide) (h1)) ?_;dsimp only[aF,aJ,aC,aD,aA,aK,aM,aG,ax,ay,aH,aI,aL,aN,az,LS.at,LS.aW];refine .step (R.aQ 36 _ rfl) (.jump) ?_;dsimp only[aF,aJ,aC,aD,aA,aK,aM,aG,ax,ay,aH,aI,aL,aN,az,LS.at,LS.aW];exact xy X hl F O
theorem Tv {V:Int} (X:Ctx t lo hi rs) (hl:rs[a.row]? =some l) (hlen:a.log.length<=64) (hs:a.s<16) (h16:∀k,a.held k=true->k<16) (hno:a.held a.s=false) (F:xu t a 0 pv) (O:Ol t a pv) (hn:pv (t.base+7)=(needs a.log:Int)) (hV:0<=V/\V<9223372036854775808) (hL:0<=a.l1/\a.l1<9223372036854775808):
  eT (bM t rs) lo hi (wP t rs (if V=a.l1 then({a with held:=upd a.held a.s true,old:=upd a.old a.s a.l1}.eu (a.s+1)) else a.bZ 0)) 224 ⟨dw rs a.row+9+aV l+40,r0,r1,r2,a.l1,V,t.words+2+(a.s:Int),(a.s:Int),0,pv⟩:=by
 have L:=X.lay;have R:=bQ t rs hl;obtain⟨H,F1,hH,hb⟩:=id F;have hb1:=L.base;have hb2:=L.log;refine eT.le (k:=210+14) ?_ (by omega);refine .step (R.aQ 40 _ rfl) (.oN (a:=4) (b:=3) (by decide) (by decide) (rJ (fH (x:=V - a.l1) (by omega)))) ?_;dsimp only[aF,aJ,aC,aD,aA,aK,aM,aG,ax,ay,aH,aI,aL,aN,az,LS.at,LS.aW];by_cases h1:V=a.l1
 ·rw[if_pos h1,h1,Int.sub_self];refine .step (R.aQ 41 _ rfl) (.zero (a:=4) (by decide) (rfl)) ?_;dsimp only[aF,aJ,aC,aD,aA,aK,aM,aG,ax,ay,aH,aI,aL,aN,az,LS.at,LS.aW];refine .step (R.aQ 43 _ rfl) (.move (a:=5) (b:=6) (by decide) (by decide)) ?_;dsimp only[aF,aJ,aC,aD,aA,aK,aM,aG,ax,ay,aH,aI,aL,aN,az,LS.at,LS.aW];refine .step (R.aQ 44 _ rfl) (.set (a:=4) (by decide)) ?_;dsimp only[aF,aJ,aC,aD,aA,aK,aM,aG,ax,ay,aH,aI,aL,aN,az,LS.at,LS.aW];refine .step (R.aQ 45 _ rfl) (.oN (a:=5) (b:=4) (by decide) (by decide) (eH (L.o5 hs))) ?_;dsimp only[aF,aJ,aC,aD,aA,aK,aM,aG,ax,ay,aH,aI,aL,aN,az,LS.at,LS.aW];refine .step (R.aQ 46 _ rfl) (.store (a:=5) (b:=3) (by decide) (by decide) (L.o hs).1 (L.o hs).2.1 (L.o hs).2.2) ?_;dsimp only[aF,aJ,aC,aD,aA,aK,aM,aG,ax,ay,aH,aI,aL,aN,az,LS.at,LS.aW];refine .step (R.aQ 47 _ rfl) (.set (a:=4) (by decide)) ?_;dsimp only[aF,aJ,aC,aD,aA,aK,aM,aG,ax,ay,aH,aI,aL,aN,az,LS.at,LS.aW];refine .step (R.aQ 48 _ rfl) (.oN (a:=4) (b:=6) (by decide) (by decide) (Ej hs)) ?_;dsimp only[aF,aJ,aC,aD,aA,aK,aM,aG,ax,ay,aH,aI,aL,aN,az,LS.at,LS.aW];refine .step (R.aQ 49 _ rfl) (.load (a:=3) (b:=7) (by decide) (by decide) (L.b (by decide) (by decide)).1 (L.b (by decide) (by decide)).2.1 (L.b (by decide) (by decide)).2.2) ?_;dsimp only[aF,aJ,aC,aD,aA,aK,aM,aG,ax,ay,aH,aI,aL,aN,az,LS.at,LS.aW];rw[bn _ (show t.base+6≠t.base+8+(a.s:Int) by omega),F1.held];refine .step (R.aQ 50 _ rfl) (.oN (a:=3) (b:=4) (by decide) (by decide) (Hf hH (uh hs))) ?_;dsimp only[aF,aJ,aC,aD,aA,aK,aM,aG,ax,ay,aH,aI,aL,aN,az,LS.at,LS.aW];refine .step (R.aQ 51 _ rfl) (.store (a:=7) (b:=3) (by decide) (by decide) (L.b (by decide) (by decide)).1 (L.b (by decide) (by decide)).2.1 (L.b (by decide) (by decide)).2.2) ?_;dsimp only[aF,aJ,aC,aD,aA,aK,aM,aG,ax,ay,aH,aI,aL,aN,az,LS.at,LS.aW];refine .step (R.aQ 52 _ rfl) (.set (a:=3) (by decide)) ?_;dsimp only[aF,aJ,aC,aD,aA,aK,aM,aG,ax,ay,aH,aI,aL,aN,az,LS.at,LS.aW];refine .step (R.aQ 53 _ rfl) (.oN (a:=6) (b:=3) (by decide) (by decide) (eH (uD (a:=a.s) (by omega)))) ?_;dsimp only[aF,aJ,aC,aD,aA,aK,aM,aG,ax,ay,aH,aI,aL,aN,az,LS.at,LS.aW];refine .step (R.aQ 54 _ rfl) (.jump) ?_;dsimp only[aF,aJ,aC,aD,aA,aK,aM,aG,ax,ay,aH,aI,aL,aN,az,LS.at,LS.aW];have F2:=(F1.other (a:=t.base+8+(a.s:Int)) (v:=a.l1) L hlen (.inr (.inr ⟨by omega,by omega⟩))).XQ L hlen (H|||2 ^ a.s);refine(FY (s:=a.s+1) (a:={a with held:=upd a.held a.s true,old:=upd a.old a.s a.l1}) X hl ⟨H|||2 ^ a.s,F2,Nat.or_lt_two_pow (n:=16) hH (uh hs),fun k _ hk=>?_⟩ (fun k hk=>?_) ?_ (by omega)).le (by omega)
  ·rw[Nat.testBit_or,hb k (Nat.zero_le _) hk,Nat.testBit_two_pow];simp only[bS];by_cases e:k=a.s
   ·subst e;simp
   ·rw[if_neg e];simp[show ¬a.s=k from fun q=>e q.symm]
  ·simp only[bS] at hk⊢;rw[bn _ (show t.base+8+(k:Int)≠t.base+6 by omega)];by_cases e:k=a.s
   ·subst e;rw[if_pos rfl,gP]
   ·rw[if_neg e] at hk⊢;rw[bn _ (by omega)];exact O k hk
  ·rw[bn _ (by omega),bn _ (by omega)];exact hn
 ·rw[if_neg h1];refine .step (R.aQ 41 _ rfl) (.more (a:=4) (by decide) ((show V - a.l1≠0 by omega))) ?_;dsimp only[aF,aJ,aC,aD,aA,aK,aM,aG,ax,ay,aH,aI,aL,aN,az,LS.at,LS.aW];refine .step (R.aQ 42 _ rfl) (.jump) ?_;dsimp only[aF,aJ,aC,aD,aA,aK,aM,aG,ax,ay,aH,aI,aL,aN,az,LS.at,LS.aW];exact(xy X hl F O).le (by omega)
theorem pK {c:Int} (X:Ctx t lo hi rs) (hl:rs[a.row]? =some l) (B:uX t.words C a) (F:xu t a 0 pv) (O:Ol t a pv) (hc:0<=c/\c<2305843009213693951):
  eT (bM t rs) lo hi (wP t rs ({a with new:=c+1}.dV 0)) 219 ⟨dw rs a.row+9+aV l+57,r0,c,r2,r3,r4,r5,r6,0,pv⟩:=by
 have L:=X.lay;have R:=bQ t rs hl;obtain⟨H,F1,hH,hb⟩:=id F;have hb1:=L.base;have hb2:=L.log;refine eT.le (k:=210+9) ?_ (by omega);refine .step (R.aQ 57 _ rfl) (.set (a:=4) (by decide)) ?_;dsimp only[aF,aJ,aC,aD,aA,aK,aM,aG,ax,ay,aH,aI,aL,aN,az,LS.at,LS.aW];refine .step (R.aQ 58 _ rfl) (.oN (a:=1) (b:=4) (by decide) (by decide) (eH (fH (x:=c+1) (by omega)))) ?_;dsimp only[aF,aJ,aC,aD,aA,aK,aM,aG,ax,ay,aH,aI,aL,aN,az,LS.at,LS.aW];refine .step (R.aQ 59 _ rfl) (.store (a:=7) (b:=1) (by decide) (by decide) (L.b (by decide) (by decide)).1 (L.b (by decide) (by decide)).2.1 (L.b (by decide) (by decide)).2.2) ?_;dsimp only[aF,aJ,aC,aD,aA,aK,aM,aG,ax,ay,aH,aI,aL,aN,az,LS.at,LS.aW];refine .step (R.aQ 60 _ rfl) (.move (a:=2) (b:=1) (by decide) (by decide)) ?_;dsimp only[aF,aJ,aC,aD,aA,aK,aM,aG,ax,ay,aH,aI,aL,aN,az,LS.at,LS.aW];refine .step (R.aQ 61 _ rfl) (.set (a:=4) (by decide)) ?_;dsimp only[aF,aJ,aC,aD,aA,aK,aM,aG,ax,ay,aH,aI,aL,aN,az,LS.at,LS.aW];refine .step (R.aQ 62 _ rfl) (.oN (a:=2) (b:=4) (by decide) (by decide) (wh ((by omega:c+1<2305843009213693952)))) ?_;dsimp only[aF,aJ,aC,aD,aA,aK,aM,aG,ax,ay,aH,aI,aL,aN,az,LS.at,LS.aW];refine .step (R.aQ 63 _ rfl) (.more (a:=2) (by decide) (Int.one_ne_zero)) ?_;dsimp only[aF,aJ,aC,aD,aA,aK,aM,aG,ax,ay,aH,aI,aL,aN,az,LS.at,LS.aW];refine .step (R.aQ 64 _ rfl) (.jump) ?_;dsimp only[aF,aJ,aC,aD,aA,aK,aM,aG,ax,ay,aH,aI,aL,aN,az,LS.at,LS.aW];refine .step (R.aQ 66 _ rfl) (.set (a:=6) (by decide)) ?_;dsimp only[aF,aJ,aC,aD,aA,aK,aM,aG,ax,ay,aH,aI,aL,aN,az,LS.at,LS.aW];refine(K8 (s:=0) (a:={a with new:=c+1}) X hl B.rd ⟨H,F1.other L B.len (.inr (.inr ⟨by omega,by omega⟩)),hH,hb⟩ (fun k hk=>?_) (gP _ _ _) (by decide)).le (by omega);rw[bn _ (by omega)];exact O k hk
theorem Tu {V:Int} (X:Ctx t lo hi rs) (hl:rs[a.row]? =some l) (B:uX t.words C a) (hs:a.s<16) (F:xu t a 0 pv) (O:Ol t a pv) (hn:pv (t.base+7)=a.new) (hV:0<=V/\V<9223372036854775808) (hO:V=2*t.th+1->a.held a.s=true) (hC:C<=2305843009213693952):
  eT (bM t rs) lo hi (wP t rs (if V%2=0 then(if a.dx<V/2 then a.bZ 0 else a.dV (a.s+1)) else if V=2*t.th+1 then(if a.dx<a.old a.s/2 then a.bZ 0 else a.dV (a.s+1)) else a.bZ 0)) 229 ⟨dw rs a.row+9+aV l+80,r0,r1,V,r3,r4,t.words+2+(a.s:Int),(a.s:Int),0,pv⟩:=by
 have L:=X.lay;have R:=bQ t rs hl;have hth:=L.th;obtain⟨H,F1,hH,hb⟩:=id F;have rest:∀(U r3 r4 r5:Int),0<=U/\U<9223372036854775808->eT (bM t rs) lo hi (wP t rs (if a.dx<U/2 then a.bZ 0 else a.dV (a.s+1))) 218 ⟨dw rs a.row+9+aV l+92,r0,r1,U,r3,r4,r5,(a.s:Int),0,pv⟩:=by
  intro U r3 r4 r5 hU;refine eT.le (k:=210+8) ?_ (by omega);refine .step (R.aQ 92 _ rfl) (.set (a:=3) (by decide)) ?_;dsimp only[aF,aJ,aC,aD,aA,aK,aM,aG,ax,ay,aH,aI,aL,aN,az,LS.at,LS.aW];refine .step (R.aQ 93 _ rfl) (.oN (a:=2) (b:=3) (by decide) (by decide) (Fz hU)) ?_;dsimp only[aF,aJ,aC,aD,aA,aK,aM,aG,ax,ay,aH,aI,aL,aN,az,LS.at,LS.aW];refine .step (R.aQ 94 _ rfl) (.load (a:=4) (b:=7) (by decide) (by decide) (L.b (by decide) (by decide)).1 (L.b (by decide) (by decide)).2.1 (L.b (by decide) (by decide)).2.2) ?_;dsimp only[aF,aJ,aC,aD,aA,aK,aM,aG,ax,ay,aH,aI,aL,aN,az,LS.at,LS.aW];rw[F1.dx];by_cases h2:a.dx<U/2
  ·rw[if_pos h2];refine .step (R.aQ 95 _ rfl) (.oN (a:=4) (b:=2) (by decide) (by decide) (wh (h2))) ?_;dsimp only[aF,aJ,aC,aD,aA,aK,aM,aG,ax,ay,aH,aI,aL,aN,az,LS.at,LS.aW];refine .step (R.aQ 96 _ rfl) (.more (a:=4) (by decide) (Int.one_ne_zero)) ?_;dsimp only[aF,aJ,aC,aD,aA,aK,aM,aG,ax,ay,aH,aI,aL,aN,az,LS.at,LS.aW];refine .step (R.aQ 97 _ rfl) (.jump) ?_;dsimp only[aF,aJ,aC,aD,aA,aK,aM,aG,ax,ay,aH,aI,aL,aN,az,LS.at,LS.aW];exact(xy X hl F O).le (by omega)
  ·rw[if_neg h2];refine .step (R.aQ 95 _ rfl) (.oN (a:=4) (b:=2) (by decide) (by decide) (CL (h2))) ?_;dsimp only[aF,aJ,aC,aD,aA,aK,aM,aG,ax,ay,aH,aI,aL,aN,az,LS.at,LS.aW];refine .step (R.aQ 96 _ rfl) (.zero (a:=4) (by decide) (rfl)) ?_;dsimp only[aF,aJ,aC,aD,aA,aK,aM,aG,ax,ay,aH,aI,aL,aN,az,LS.at,LS.aW];refine .step (R.aQ 98 _ rfl) (.set (a:=3) (by decide)) ?_;dsimp only[aF,aJ,aC,aD,aA,aK,aM,aG,ax,ay,aH,aI,aL,aN,az,LS.at,LS.aW];refine .step (R.aQ 99 _ rfl) (.oN (a:=6) (b:=3) (by decide) (by decide) (eH (uD (a:=a.s) (by omega)))) ?_;dsimp only[aF,aJ,aC,aD,aA,aK,aM,aG,ax,ay,aH,aI,aL,aN,az,LS.at,LS.aW];refine .step (R.aQ 100 _ rfl) (.jump) ?_;dsimp only[aF,aJ,aC,aD,aA,aK,aM,aG,ax,ay,aH,aI,aL,aN,az,LS.at,LS.aW];exact(K8 (s:=a.s+1) X hl B.rd F O hn (by omega)).le (by omega)
 refine eT.le (k:=218+11) ?_ (by omega);refine .step (R.aQ 80 _ rfl) (.move (a:=4) (b:=2) (by decide) (by decide)) ?_;dsimp only[aF,aJ,aC,aD,aA,aK,aM,aG,ax,ay,aH,aI,aL,aN,az,LS.at,LS.aW];refine .step (R.aQ 81 _ rfl) (.set (a:=3) (by decide)) ?_;dsimp only[aF,aJ,aC,aD,aA,aK,aM,aG,ax,ay,aH,aI,aL,aN,az,LS.at,LS.aW];refine .step (R.aQ 82 _ rfl) (.oN (a:=4) (b:=3) (by decide) (by decide) (xG _)) ?_;dsimp only[aF,aJ,aC,aD,aA,aK,aM,aG,ax,ay,aH,aI,aL,aN,az,LS.at,LS.aW];by_cases h1:V%2=0
 ·rw[if_pos h1,h1];refine .step (R.aQ 83 _ rfl) (.zero (a:=4) (by decide) (rfl)) ?_;dsimp only[aF,aJ,aC,aD,aA,aK,aM,aG,ax,ay,aH,aI,aL,aN,az,LS.at,LS.aW];exact(rest V _ _ _ (by omega)).le (by omega)
 ·rw[if_neg h1];refine .step (R.aQ 83 _ rfl) (.more (a:=4) (by decide) (h1)) ?_;dsimp only[aF,aJ,aC,aD,aA,aK,aM,aG,ax,ay,aH,aI,aL,aN,az,LS.at,LS.aW];refine .step (R.aQ 84 _ rfl) (.set (a:=3) (by decide)) ?_;dsimp only[aF,aJ,aC,aD,aA,aK,aM,aG,ax,ay,aH,aI,aL,aN,az,LS.at,LS.aW];refine .step (R.aQ 85 _ rfl) (.oN (a:=2) (b:=3) (by decide) (by decide) (rJ (fH (x:=V - (2*t.th+1)) (by omega)))) ?_;dsimp only[aF,aJ,aC,aD,aA,aK,aM,aG,ax,ay,aH,aI,aL,aN,az,LS.at,LS.aW];by_cases h2:V=2*t.th+1
  ·rw[if_pos h2];have hh:=hO h2;rw[show V - (2*t.th+1)=0 by omega];refine .step (R.aQ 86 _ rfl) (.zero (a:=2) (by decide) (rfl)) ?_;dsimp only[aF,aJ,aC,aD,aA,aK,aM,aG,ax,ay,aH,aI,aL,aN,az,LS.at,LS.aW];refine .step (R.aQ 88 _ rfl) (.move (a:=5) (b:=6) (by decide) (by decide)) ?_;dsimp only[aF,aJ,aC,aD,aA,aK,aM,aG,ax,ay,aH,aI,aL,aN,az,LS.at,LS.aW];refine .step (R.aQ 89 _ rfl) (.set (a:=4) (by decide)) ?_;dsimp only[aF,aJ,aC,aD,aA,aK,aM,aG,ax,ay,aH,aI,aL,aN,az,LS.at,LS.aW];refine .step (R.aQ 90 _ rfl) (.oN (a:=5) (b:=4) (by decide) (by decide) (eH (L.o5 hs))) ?_;dsimp only[aF,aJ,aC,aD,aA,aK,aM,aG,ax,ay,aH,aI,aL,aN,az,LS.at,LS.aW];refine .step (R.aQ 91 _ rfl) (.load (a:=2) (b:=5) (by decide) (by decide) (L.o hs).1 (L.o hs).2.1 (L.o hs).2.2) ?_;dsimp only[aF,aJ,aC,aD,aA,aK,aM,aG,ax,ay,aH,aI,aL,aN,az,LS.at,LS.aW];rw[O a.s hh];obtain⟨-, -,o3,o4⟩:=B.old a.s hh;have o5:a.old a.s<9223372036854775808:=by omega
   exact(rest (a.old a.s) _ _ _ ⟨o3,o5⟩).le (by omega)
  ·rw[if_neg h2];refine .step (R.aQ 86 _ rfl) (.more (a:=2) (by decide) ((show V - (2*t.th+1)≠0 by omega))) ?_;dsimp only[aF,aJ,aC,aD,aA,aK,aM,aG,ax,ay,aH,aI,aL,aN,az,LS.at,LS.aW];refine .step (R.aQ 87 _ rfl) (.jump) ?_;dsimp only[aF,aJ,aC,aD,aA,aK,aM,aG,ax,ay,aH,aI,aL,aN,az,LS.at,LS.aW];exact(xy X hl F O).le (by omega)
theorem UH (X:Ctx t lo hi rs) (hl:rs[a.row]? =some l) (hlen:a.log.length<=64) (F:xu t a 0 pv) (hn:pv (t.base+7)=a.new) (hnew:0<=a.new/\a.new<=2305843009213693952):
  eT (bM t rs) lo hi (wP t rs (a.kE 0)) 216 ⟨dw rs a.row+9+aV l+104,r0,r1,r2,r3,r4,r5,r6,0,pv⟩:=by
 have L:=X.lay;have R:=bQ t rs hl;obtain⟨H,F1,hH,hb⟩:=id F;refine eT.le (k:=214+2) ?_ (by omega);refine .step (R.aQ 104 _ rfl) (.load (a:=6) (b:=7) (by decide) (by decide) (L.b (by decide) (by decide)).1 (L.b (by decide) (by decide)).2.1 (L.b (by decide) (by decide)).2.2) ?_;dsimp only[aF,aJ,aC,aD,aA,aK,aM,aG,ax,ay,aH,aI,aL,aN,az,LS.at,LS.aW];rw[F1.cnt];refine .step (R.aQ 105 _ rfl) (.set (a:=5) (by decide)) ?_;dsimp only[aF,aJ,aC,aD,aA,aK,aM,aG,ax,ay,aH,aI,aL,aN,az,LS.at,LS.aW];have:=O7 (i:=0) (r0:=r0) (r1:=r1) (r2:=r2) (r3:=r3) (r4:=r4) X hl hlen F hn hnew (Nat.zero_le _);simpa using this
theorem U0 (X:Ctx t lo hi rs) (hl:rs[a.row]? =some l) (hlen:a.log.length<=64) (F:xu t a 0 pv) (hn:pv (t.base+7)=a.new) (hnew:0<=a.new/\a.new<=2305843009213693952) (hil:a.i<a.log.length) (x v:Int):
  eT (bM t rs) lo hi (wP t rs ({a with buf:=a.buf++[gD.dat x v]}.kE (a.i+1))) 219 ⟨dw rs a.row+9+aV l+110,r0,r1,r2,r3,r4,t.log+2*(a.i:Int),((a.log.length - a.i:Nat):Int),0,pv⟩:=by
 have L:=X.lay;have R:=bQ t rs hl;refine eT.le (k:=214+5) ?_ (by omega);have hw:fV (t.log+2*(a.i:Int)+2)=t.log+2*((a.i+1:Nat):Int):=by
  obtain⟨l1,l2,l3,l4,l5,l6,l7,l8⟩:=L;rw[fH (by omega)];omega
 have hw2:fV (((a.log.length - a.i:Nat):Int) - 1)=((a.log.length - (a.i+1):Nat):Int):=by rw[fH (by omega)];omega
 refine .step (R.aQ 110 _ rfl) (.set (a:=4) (by decide)) ?_;dsimp only[aF,aJ,aC,aD,aA,aK,aM,aG,ax,ay,aH,aI,aL,aN,az,LS.at,LS.aW];refine .step (R.aQ 111 _ rfl) (.oN (a:=5) (b:=4) (by decide) (by decide) (eH (hw))) ?_;dsimp only[aF,aJ,aC,aD,aA,aK,aM,aG,ax,ay,aH,aI,aL,aN,az,LS.at,LS.aW];refine .step (R.aQ 112 _ rfl) (.set (a:=4) (by decide)) ?_;dsimp only[aF,aJ,aC,aD,aA,aK,aM,aG,ax,ay,aH,aI,aL,aN,az,LS.at,LS.aW];refine .step (R.aQ 113 _ rfl) (.oN (a:=6) (b:=4) (by decide) (by decide) (rJ (hw2))) ?_;dsimp only[aF,aJ,aC,aD,aA,aK,aM,aG,ax,ay,aH,aI,aL,aN,az,LS.at,LS.aW];refine .step (R.aQ 114 _ rfl) (.jump) ?_;dsimp only[aF,aJ,aC,aD,aA,aK,aM,aG,ax,ay,aH,aI,aL,aN,az,LS.at,LS.aW];exact O7 (i:=a.i+1) (a:={a with buf:=a.buf++[gD.dat x v]}) X hl hlen F hn hnew (by simp only;omega)
theorem Qo (X:Ctx t lo hi rs) (hl:rs[a.row]? =some l) (F:xu t a a.s pv) (hs:a.s<16) (b:List gD):
  eT (bM t rs) lo hi (wP t rs ({a with buf:=b,held:=upd a.held a.s false}.iw (a.s+1))) 213 ⟨dw rs a.row+9+aV l+131,r0,2*a.new,r2,r3,r4,r5,(a.s:Int),0,pv⟩:=by
 have R:=bQ t rs hl;obtain⟨H,F1,hH,hb⟩:=id F;refine eT.le (k:=210+3) ?_ (by omega);refine .step (R.aQ 131 _ rfl) (.set (a:=3) (by decide)) ?_;dsimp only[aF,aJ,aC,aD,aA,aK,aM,aG,ax,ay,aH,aI,aL,aN,az,LS.at,LS.aW];refine .step (R.aQ 132 _ rfl) (.oN (a:=6) (b:=3) (by decide) (by decide) (eH (uD (a:=a.s) (by omega)))) ?_;dsimp only[aF,aJ,aC,aD,aA,aK,aM,aG,ax,ay,aH,aI,aL,aN,az,LS.at,LS.aW];refine .step (R.aQ 133 _ rfl) (.jump) ?_;dsimp only[aF,aJ,aC,aD,aA,aK,aM,aG,ax,ay,aH,aI,aL,aN,az,LS.at,LS.aW];exact JB (s:=a.s+1) (a:={a with buf:=b,held:=upd a.held a.s false}) X hl ⟨H,F1,hH,fun k h1 h2=>by
  rw[hb k (by omega) h2];simp only[bS];rw[if_neg (by omega)]⟩ (by omega)
theorem QX (X:Ctx t lo hi rs) (hl:rs[a.row]? =some l) (F:xu t a a.s pv) (O:Ol t a pv) (hs:a.s<16) (b:List gD):
  eT (bM t rs) lo hi (wP t rs ({a with buf:=b,held:=upd a.held a.s false}.bZ (a.s+1))) 213 ⟨dw rs a.row+9+aV l+153,r0,r1,r2,r3,r4,r5,(a.s:Int),0,pv⟩:=by
 have R:=bQ t rs hl;obtain⟨H,F1,hH,hb⟩:=id F;refine eT.le (k:=210+3) ?_ (by omega);refine .step (R.aQ 153 _ rfl) (.set (a:=3) (by decide)) ?_;dsimp only[aF,aJ,aC,aD,aA,aK,aM,aG,ax,ay,aH,aI,aL,aN,az,LS.at,LS.aW];refine .step (R.aQ 154 _ rfl) (.oN (a:=6) (b:=3) (by decide) (by decide) (eH (uD (a:=a.s) (by omega)))) ?_;dsimp only[aF,aJ,aC,aD,aA,aK,aM,aG,ax,ay,aH,aI,aL,aN,az,LS.at,LS.aW];refine .step (R.aQ 155 _ rfl) (.jump) ?_;dsimp only[aF,aJ,aC,aD,aA,aK,aM,aG,ax,ay,aH,aI,aL,aN,az,LS.at,LS.aW];exact J2 (s:=a.s+1) (a:={a with buf:=b,held:=upd a.held a.s false}) X hl ⟨H,F1,hH,fun k h1 h2=>by
  rw[hb k (by omega) h2];simp only[bS];rw[if_neg (by omega)]⟩ (fun k hk=>by
  simp only[bS] at hk;by_cases e:k=a.s
  ·rw[if_pos e] at hk;cases hk
  ·rw[if_neg e] at hk;exact O k hk) (by omega)
theorem Vx (X:Ctx t lo hi rs) (hl:rs[a.row]? =some l):eT (bM t rs) lo hi (wP t rs {a with pt:=.look}) 9 ⟨dw rs a.row+182+aV l,r0,r1,r2,r3,r4,r5,r6,0,pv⟩:=by
 have L:=X.lay;have R:=bQ t rs hl;rw[show dw rs a.row+182+aV l=dw rs a.row+178+aV l+4 by omega];refine .step (R.tail 4 _ rfl) (.load (a:=1) (b:=7) (by decide) (by decide) (L.b (by decide) (by decide)).1 (L.b (by decide) (by decide)).2.1 (L.b (by decide) (by decide)).2.2) ?_;dsimp only[aF,aJ,aC,aD,aA,aK,aM,aG,ax,ay,aH,aI,aL,aN,az,LS.at,LS.aW];refine .step (R.tail 5 _ rfl) (.store (a:=7) (b:=1) (by decide) (by decide) (L.b (by decide) (by decide)).1 (L.b (by decide) (by decide)).2.1 (L.b (by decide) (by decide)).2.2) ?_;dsimp only[aF,aJ,aC,aD,aA,aK,aM,aG,ax,ay,aH,aI,aL,aN,az,LS.at,LS.aW];refine .step (R.tail 6 _ rfl) (.jump) ?_;dsimp only[aF,aJ,aC,aD,aA,aK,aM,aG,ax,ay,aH,aI,aL,aN,az,LS.at,LS.aW];exact KA X hl
theorem YX (X:Ctx t lo hi rs) (hl:rs[a.row]? =some l) (F:xu t a 0 pv):eT (bM t rs) lo hi (wP t rs {a with pt:=.out}) 4 ⟨dw rs a.row+9+aV l+159,r0,r1,r2,r3,r4,r5,r6,0,pv⟩:=by
 obtain⟨H,F1,hH,hb⟩:=F;exact FW X hl F1.prints F1.sum
theorem UI (X:Ctx t lo hi rs) (hl:rs[a.row]? =some l) (o':List Int):eT (bM t rs) lo hi (wP t rs ({a with row:=a.row+1,out:=o'}.jT rs)) 7 ⟨dw rs a.row+9+aV l+171,r0,r1,r2,r3,r4,r5,r6,0,pv⟩:=by
 have R:=bQ t rs hl;rw[show dw rs a.row+9+aV l+171=dw rs a.row+178+aV l+2 by omega];refine .step (R.tail 2 _ rfl) (.jump) ?_;dsimp only[aF,aJ,aC,aD,aA,aK,aM,aG,ax,ay,aH,aI,aL,aN,az,LS.at,LS.aW];rw[<-Sr hl];exact FN (a:={a with row:=a.row+1,out:=o'}) X (Nat.succ_le_of_lt (bu.1 hl).1)
end
section
structure FC where
 N:Nat
 words:Int
 size:Int
 tx:Nat->dI
 rs:Nat->List (List Tx)
 lo:Nat->Int
 hi:Nat->Int
structure yt (W:FC):Prop where
 n:W.N<=4
 words:0<=W.words/\W.words<=262144
 ctx:∀n,n<W.N->Ctx (W.tx n) (W.lo n) (W.hi n) (W.rs n)
 wd:∀n,n<W.N->(W.tx n).words=W.words
 th:∀n,n<W.N->(W.tx n).th=n
 size:∀n,n<W.N->W.hi n<=W.size
 apart:∀n k,n<W.N->k<W.N->n≠k->W.hi n<=W.lo k\/W.hi k<=W.lo n
def gD.cell (words:Int):gD->Int×Int
 |.dat x v=>(x,v)
 |.lock s v=>(words+2+(s:Int),v)
structure OU (W:FC) (mm:MM) (n:Nat) (t:MT) (a:aY) (k:Nat):Prop where
 code:t.code=bM (W.tx n) (W.rs n)
 out:t.out=a.out
 fin:t.fin=a.fin
 pJ:0<=t.at_
 wait:t.wait.filter (fun c=>decide (c.1<W.words+18))=a.buf.map (gD.cell W.words)
 own:∀c∈t.wait,c.1<W.words+18\/W.lo n<=c.1/\c.1<W.hi n
 will:a.fin=0->eT (bM (W.tx n) (W.rs n)) (W.lo n) (W.hi n) (wP (W.tx n) (W.rs n) a) k (t.ls (W.lo n) (W.hi n) mm)
structure Ak (W:FC) (mm:MM) (m:AS) (ks:Nat->Nat):Prop where
 n:mm.aT.length=W.N
 len:(mm.mem.length:Int)=W.size
 evs:mm.evs=m.evs
 data:∀x,1<=x->x<=W.words->mm.at x=m.data x
 clock:mm.at (W.words+1)=m.clock
 aR:∀s:Nat,s<16->mm.at (W.words+2+(s:Int))=m.aR s
 th:∀n t,mm.aT[n]? =some t->OU W mm n t (m.aT n) (ks n)
variable {W:FC} {mm j5:MM} {m:AS} {ks:Nat->Nat} {n k:Nat} {t t':MT} {a a':aY} {lo hi words:Int} {b:List gD}
theorem Ri (a:Int):ku [] a=none:=rfl
theorem IQ {p:Int×Int->Bool} {a:Int} (hp:∀c:Int×Int,c.1=a->p c=true) (q:List (Int×Int)):ku (q.filter p) a=ku q a:=by
 induction q using zS with
 |h0=>rfl
 |h1 q c ih=>
  obtain⟨x,v⟩:=c;rw[List.filter_append,gL];by_cases h:a=x
  ·subst h;rw[if_pos rfl,List.filter_cons_of_pos (hp _ rfl),List.filter_nil,gL,if_pos rfl]
  ·rw[if_neg h];by_cases hx:p (x,v)=true
   ·rw[List.filter_cons_of_pos hx,List.filter_nil,gL,if_neg h,ih]
   ·rw[List.filter_cons_of_neg hx,List.filter_nil,List.append_nil,ih]
theorem PI (hb:∀x v,gD.dat x v∈b->x<=words) (s:Nat) (d:Int):(ku (b.map (gD.cell words)) (words+2+(s:Int))).getD d=b.foldl (sL s) d:=by
 induction b using zS with
 |h0=>rfl
 |h1 b e ih=>
  have ih:=ih (fun x v h=>hb x v (List.mem_append_left _ h));rw[List.map_append,List.foldl_append,List.map_cons,List.map_nil];cases e with
  |dat x v=>
   have:=hb x v (by simp);show(ku (_++[(x,v)]) _).getD d=_;rw[gL,if_neg (by omega),ih];rfl
  |lock k v=>
   show(ku (_++[(words+2+(k:Int),v)]) _).getD d=_;rw[gL];show _=if k=s then v else b.foldl (sL s) d
   by_cases e:k=s
   ·subst e;rw[if_pos rfl,if_pos rfl];rfl
   ·rw[if_neg (by omega),if_neg e,ih]
theorem TJ {x:Int} (hx:x<=words) (d:Int):(ku (b.map (gD.cell words)) x).getD d=b.foldl (sD x) d:=by
 induction b using zS with
 |h0=>rfl
 |h1 b e ih=>
  rw[List.map_append,List.foldl_append,List.map_cons,List.map_nil];cases e with
  |dat y v=>
   show(ku (_++[(y,v)]) _).getD d=_;rw[gL];show _=if y=x then v else b.foldl (sD x) d
   by_cases e:y=x
   ·subst e;rw[if_pos rfl,if_pos rfl];rfl
   ·rw[if_neg (fun q=>e q.symm),if_neg e,ih]
  |lock k v=>
   show(ku (_++[(words+2+(k:Int),v)]) _).getD d=_;rw[gL,if_neg (by omega),ih];rfl
theorem Uk (hb:∀x v,gD.dat x v∈b->x<=words):ku (b.map (gD.cell words)) (words+1)=none:=by
 induction b using zS with
 |h0=>rfl
 |h1 b e ih=>
  have ih:=ih (fun x v h=>hb x v (List.mem_append_left _ h));rw[List.map_append,List.map_cons,List.map_nil];cases e with
  |dat x v=>
   have:=hb x v (by simp);show ku (_++[(x,v)]) _=_;rw[gL,if_neg (by omega),ih]
  |lock k v=>
   show ku (_++[(words+2+(k:Int),v)]) _=_;rw[gL,if_neg (by omega),ih]
theorem oM.low {words C:Int} (h:oM words C a):∀x v,gD.dat x v∈a.buf->1<=x/\x<=words:=fun x v hx=>by
 obtain⟨l1,l2,e⟩:=List.append_of_mem hx;exact(h.dat l1 l2 x v e).1
theorem OU.found {C:Int} (h:OU W mm n t a k) {x:Int} (hx:x<W.words+18):mm.found t x=(ku (a.buf.map (gD.cell W.words)) x).getD (mm.at x):=by
 unfold MM.found;rw[<-h.wait,IQ (fun c hc=>by simp[hc];omega)]
theorem Ak.lock (h:Ak W mm m ks) (ht:mm.aT[n]? =some t) {C:Int} (hb:oM W.words C (m.aT n)) {s:Nat} (hs:s<16):mm.found t (W.words+2+(s:Int))=dF (m.aT n).buf m.aR s:=by
 rw[(h.th n t ht).found (C:=C) (by omega),h.aR s hs];exact PI (fun x v q=>(hb.low x v q).2) s _
theorem Ak.dat (h:Ak W mm m ks) (ht:mm.aT[n]? =some t) {x:Int} (hx:1<=x/\x<=W.words):mm.found t x=uq (m.aT n).buf m.data x:=by
 rw[(h.th n t ht).found (C:=0) (by omega),h.data x hx.1 hx.2];exact TJ hx.2 _
theorem Ak.dx (h:Ak W mm m ks) (ht:mm.aT[n]? =some t) {C:Int} (hb:oM W.words C (m.aT n)):mm.found t (W.words+1)=m.clock:=by
 rw[(h.th n t ht).found (C:=C) (by omega),Uk (fun x v q=>(hb.low x v q).2),h.clock];rfl
def MT.told (t:MT) (v:Int):MT:=⟨t.code,t.reg,t.at_+1,t.wait,t.out++[v],t.fin⟩
def MT.stored (t:MT) (x v:Int):MT:=⟨t.code,t.reg,t.at_+1,t.wait++[(x,v)],t.out,t.fin⟩
theorem Vb (ht:mm.aT[n]? =some t) (hf:t.fin=0):mm.step n=mm.go n t:=by
 unfold MM.step MM.Cn;rw[if_neg (by omega),Int.toNat_natCast,ht];simp only;rw[if_neg (by simp[hf])]
theorem RL (ht:mm.aT[n]? =some t) (hf:t.fin≠0):mm.step n=(false,mm):=by
 unfold MM.step MM.Cn;rw[if_neg (by omega),Int.toNat_natCast,ht];simp only;rw[if_pos hf]
theorem PV (hn:mm.aT.length<=n):mm.step n=(false,mm):=by
 unfold MM.step MM.Cn;rw[if_neg (by omega),Int.toNat_natCast,List.getElem?_eq_none hn]
theorem zb {o:bR} (h0:0<=t.at_) (hc:t.code[t.at_.toNat]? =some o):(if t.at_<0 then none else t.code[t.at_.toNat]?)=some o:=by rw[if_neg (by omega)];exact hc
theorem zq {c d j:Int} {p q:Nat} (h0:0<=t.at_) (hc:t.code[t.at_.toNat]? =some ⟨12,c,p,q,d,j⟩):mm.go n t=(true,(mm.put n t.next).tell n j (t.reg p) (t.reg q)):=by
 unfold MM.go;rw[zb h0 hc];simp[MT.word,MT.waits,MM.act,MT.r]
theorem abS {c d j q:Int} {p:Nat} (h0:0<=t.at_) (hc:t.code[t.at_.toNat]? =some ⟨11,c,p,q,d,j⟩):mm.go n t=(true,(mm.put n (t.told (t.reg p))).tell n 9 (t.reg p) 0):=by
 unfold MM.go;rw[zb h0 hc];simp[MT.word,MT.waits,MM.act,MT.r,MT.told,MT.next]
theorem Ye {c d j p q:Int} (h0:0<=t.at_) (hc:t.code[t.at_.toNat]? =some ⟨13,c,p,q,d,j⟩):mm.go n t=(true,mm.stop n t j):=by
 unfold MM.go;rw[zb h0 hc];simp[MT.word,MT.waits,MM.act]
theorem Xx {c d j p q:Int} (h0:0<=t.at_) (hc:t.code[t.at_.toNat]? =some ⟨14,c,p,q,d,j⟩):mm.go n t=(true,mm.stop n t 1):=by
 unfold MM.go;rw[zb h0 hc];simp[MT.word,MT.waits,MM.act]
theorem yY {c d j x:Int} {p q:Nat} (h0:0<=t.at_) (hc:t.code[t.at_.toNat]? =some ⟨4,c,p,q,d,j⟩) (hx:fV (t.reg q+j)=x) (h1:0<=x) (h2:x<mm.mem.length):mm.go n t=(true,mm.put n (t.goes p (mm.found t x))):=by
 have hhas:mm.has x=true:=by simp only[MM.has,decide_eq_true_eq];omega
 unfold MM.go;rw[zb h0 hc];simp[MT.word,MT.waits,MM.act,MT.r,hx,hhas]
theorem XV {c d j x:Int} {p q:Nat} (h0:0<=t.at_) (hc:t.code[t.at_.toNat]? =some ⟨15,c,p,q,d,j⟩) (hx:fV (t.reg q+j)=x) (h1:0<=x) (h2:x<mm.mem.length):mm.go n t=(true,(mm.put n (t.goes p (mm.found t x))).tell n 1 (mm.found t x) 0):=by
 have hhas:mm.has x=true:=by simp only[MM.has,decide_eq_true_eq];omega
 unfold MM.go;rw[zb h0 hc];simp[MT.word,MT.waits,MM.act,MT.r,hx,hhas]
theorem DC {c d j x:Int} {p q:Nat} (h0:0<=t.at_) (hc:t.code[t.at_.toNat]? =some ⟨5,c,p,q,d,j⟩) (hx:fV (t.reg p+j)=x) (h1:0<=x) (h2:x<mm.mem.length):
  mm.go n t=(false,mm)/\64<=t.wait.length\/mm.go n t=(true,mm.put n (t.stored x (t.reg q))):=by
 have hhas:mm.has x=true:=by simp only[MM.has,decide_eq_true_eq];omega
 unfold MM.go;rw[zb h0 hc];by_cases hf:64<=t.wait.length
 ·left
  refine⟨?_,hf⟩;simp[MT.word,MT.waits,MT.r,hx,hhas,hf]
 ·right
  simp[MT.word,MT.waits,MM.act,MT.r,hx,hhas,hf,MT.stored,MT.next]
theorem ZN {c j x:Int} {p q r:Nat} (h0:0<=t.at_) (hc:t.code[t.at_.toNat]? =some ⟨8,c,p,q,r,j⟩) (hx:fV (t.reg p+j)=x) (h1:0<=x) (h2:x<mm.mem.length):
  mm.go n t=(false,mm)/\t.wait≠[]\/t.wait=[]/\mm.go n t=(true,{mm with mem:=if mm.at x=t.reg q then mm.mem.set x.toNat (t.reg r) else mm.mem}.put n (t.goes q (mm.at x))):=by
 have hhas:mm.has x=true:=by simp only[MM.has,decide_eq_true_eq];omega
 unfold MM.go;rw[zb h0 hc];by_cases hf:t.wait=[]
 ·right
  refine⟨hf,?_⟩;simp[MT.word,MT.waits,MM.act,MT.r,hx,hhas,hf];rfl
 ·left
  refine⟨?_,hf⟩;have:0<t.wait.length:=List.length_pos_iff.2 hf;simp[MT.word,MT.waits,MT.r,hx,hhas,this]
theorem Xf {c d j x:Int} {p q:Nat} (h0:0<=t.at_) (hc:t.code[t.at_.toNat]? =some ⟨9,c,p,q,d,j⟩) (hx:fV (t.reg p+j)=x) (h1:0<=x) (h2:x<mm.mem.length):
  mm.go n t=(false,mm)/\t.wait≠[]\/t.wait=[]/\mm.go n t=(true,{mm with mem:=mm.mem.set x.toNat (fV (mm.at x+t.reg q))}.put n (t.goes q (mm.at x))):=by
 have hhas:mm.has x=true:=by simp only[MM.has,decide_eq_true_eq];omega
 unfold MM.go;rw[zb h0 hc];by_cases hf:t.wait=[]
 ·right
  refine⟨hf,?_⟩;simp[MT.word,MT.waits,MM.act,MT.r,hx,hhas,hf]
 ·left
  refine⟨?_,hf⟩;have:0<t.wait.length:=List.length_pos_iff.2 hf;simp[MT.word,MT.waits,MT.r,hx,hhas,this]
theorem X4 {j5:MM} (h0:0<=t.at_) (hm:j5.mem=mm.mem):t.next.ls lo hi j5=(t.ls lo hi mm).at ((t.ls lo hi mm).pc+1):=by
 have hpc:(t.at_+1).toNat=t.at_.toNat+1:=by omega
 have hf:∀x,j5.found t.next x=mm.found t x:=fun x=>by unfold MM.found MM.at;rw[hm];rfl
 simp only[MT.ls,LS.at,hf];simp only[MT.next,hpc]
theorem LQ {j5:MM} (hm:j5.mem=mm.mem) {q:MT} {x v:Int} (hq:q.wait=t.wait++[(x,v)]) {y:Int} (hy:y≠x):j5.found q y=mm.found t y:=by
 unfold MM.found MM.at;rw[hm,hq,gL,if_neg hy]
theorem YC {j5:MM} (h0:0<=t.at_) (hm:j5.mem=mm.mem) (v:Int):(t.told v).ls lo hi j5=(t.ls lo hi mm).at ((t.ls lo hi mm).pc+1):=by
 have hpc:(t.at_+1).toNat=t.at_.toNat+1:=by omega
 have hf:∀x,j5.found (t.told v) x=mm.found t x:=fun x=>by unfold MM.found MM.at;rw[hm];rfl
 simp only[MT.ls,LS.at,hf];simp only[MT.told,hpc]
theorem TP {j5:MM} (h0:0<=t.at_) (hm:j5.mem=mm.mem) {x v:Int} (hx:¬(lo<=x/\x<hi)):(t.stored x v).ls lo hi j5=(t.ls lo hi mm).at ((t.ls lo hi mm).pc+1):=by
 have hpc:(t.at_+1).toNat=t.at_.toNat+1:=by omega
 simp only[MT.ls,LS.at];simp only[MT.stored,hpc];congr 1
 funext y
 by_cases h:lo<=y/\y<hi
 ·rw[if_pos h,if_pos h];exact LQ hm rfl (fun e=>hx (by rw[<-e];exact h))
 ·rw[if_neg h,if_neg h]
theorem NC {j5:MM} (hm:∀x,lo<=x->x<hi->j5.at x=mm.at x):t.ls lo hi j5=t.ls lo hi mm:=by
 unfold MT.ls;congr 1
 funext y
 by_cases h:lo<=y/\y<hi
 ·rw[if_pos h,if_pos h];unfold MM.found;rw[hm y h.1 h.2]
 ·rw[if_neg h,if_neg h]
theorem OU.mem {j5:MM} (h:OU W mm n t a k) (hm:∀x,W.lo n<=x->x<W.hi n->j5.at x=mm.at x):OU W j5 n t a k:=
 ⟨h.code,h.out,h.fin,h.pJ,h.wait,h.own,fun hf=>by rw[NC hm];exact h.will hf⟩
theorem Ak.put (h:Ak W mm m ks) (hn:n<W.N) {evs:List Ev} (hS:OU W ⟨mm.mem,mm.aT.set n t',evs⟩ n t' a' k):Ak W ⟨mm.mem,mm.aT.set n t',evs⟩ ⟨m.data,m.clock,m.aR,upd m.aT n a',evs⟩ (upd ks n k):=by
 have hl:=h.n;refine⟨by simp[hl],h.len,rfl,h.data,h.clock,h.aR,fun j u hu=>?_⟩;simp only[bS];by_cases e:j=n
 ·subst e;rw[List.getElem?_set_self (by omega)] at hu;cases hu;rw[if_pos rfl,if_pos rfl];exact hS
 ·rw[List.getElem?_set_ne (fun q=>e q.symm)] at hu;rw[if_neg e,if_neg e];exact(h.th j u hu).mem (fun _ _ _=>rfl)
theorem xE {l:List Int} {aT:List MT} {evs:List Ev} {x y v:Int} (hx:0<=x) (hl:x<l.length) (hy:0<=y):(MM.mk (l.set x.toNat v) aT evs).at y=if y=x then v else(MM.mk l aT evs).at y:=by
 unfold MM.at;simp only[List.getD_eq_getElem?_getD];by_cases e:y=x
 ·subst e;rw[if_pos rfl,List.getElem?_set_self (by omega)];rfl
 ·rw[if_neg e,List.getElem?_set_ne (by omega)]
theorem Ak.aW (h:Ak W mm m ks) (ok:yt W) (hn:n<W.N) {x v:Int} {evs:List Ev} {D:Int->Int} {C:Int} {L:Nat->Int} (hx:1<=x/\x<W.words+18) (hl:x<mm.mem.length)
  (hD:∀y,1<=y->y<=W.words->D y=if y=x then v else m.data y) (hC:C=if W.words+1=x then v else m.clock) (hL:∀s:Nat,s<16->L s=if W.words+2+(s:Int)=x then v else m.aR s)
  (hS:OU W ⟨mm.mem.set x.toNat v,mm.aT.set n t',evs⟩ n t' a' k):Ak W ⟨mm.mem.set x.toNat v,mm.aT.set n t',evs⟩ ⟨D,C,L,upd m.aT n a',evs⟩ (upd ks n k):=by
 have hlen:=h.n;have hw:=ok.words;have hat:∀y,0<=y->(MM.mk (mm.mem.set x.toNat v) (mm.aT.set n t') evs).at y=if y=x then v else mm.at y:=fun y hy=>xE (by omega) hl hy
 refine⟨by simp[hlen],by simp[h.len],rfl,fun y h1 h2=>?_,?_,fun s hs=>?_,fun j u hu=>?_⟩
 ·show _=D y;rw[hat y (by omega),hD y h1 h2];split
  ·rfl
  ·exact h.data y h1 h2
 ·show _=C;rw[hat _ (by omega),hC];split
  ·rfl
  ·exact h.clock
 ·show _=L s;rw[hat _ (by omega),hL s hs];split
  ·rfl
  ·exact h.aR s hs
 ·simp only[bS];by_cases e:j=n
  ·subst e;rw[List.getElem?_set_self (by omega)] at hu;cases hu;rw[if_pos rfl,if_pos rfl];exact hS
  ·rw[List.getElem?_set_ne (fun q=>e q.symm)] at hu;rw[if_neg e,if_neg e];have hj:j<W.N:=by rw[<-hlen];exact(bu.1 hu).1
   have low:=(ok.ctx j hj).lay.low;have hwd:=ok.wd j hj;refine(h.th j u hu).mem (fun y hy _=>?_);rw[hat y (by omega),if_neg (by omega)]
end
section
variable {W:FC} {mm j5:MM} {m:AS} {ks:Nat->Nat} {n k:Nat} {t t':MT} {a a':aY} {lo hi words:Int} {l:List Tx}
structure Same (a a':aY):Prop where
 buf:a'.buf=a.buf
 out:a'.out=a.out
 fin:a'.fin=a.fin
theorem Same.of (a a':aY) (h1:a'.buf=a.buf) (h2:a'.out=a.out) (h3:a'.fin=a.fin):Same a a':=⟨h1,h2,h3⟩
theorem Same.refl (a:aY):Same a a:=⟨rfl,rfl,rfl⟩
theorem Same.eu (h:Same a a') (s:Nat):Same a (a'.eu s):=by unfold aY.eu;split<;>exact⟨h.1,h.2,h.3⟩
theorem Same.dV (h:Same a a') (s:Nat):Same a (a'.dV s):=by unfold aY.dV;split<;>exact⟨h.1,h.2,h.3⟩
theorem Same.iw (h:Same a a') (s:Nat):Same a (a'.iw s):=by unfold aY.iw;split<;>exact⟨h.1,h.2,h.3⟩
theorem Same.bZ (h:Same a a') (s:Nat):Same a (a'.bZ s):=by unfold aY.bZ;split<;>exact⟨h.1,h.2,h.3⟩
theorem Same.kE (h:Same a a') (i:Nat):Same a (a'.kE i):=by
 unfold aY.kE;split
 ·exact⟨h.1,h.2,h.3⟩
 ·exact h.iw 0
theorem Same.jT (h:Same a a') (rs:List (List Tx)):Same a (a'.jT rs):=by unfold aY.jT;split<;>exact⟨h.1,h.2,h.3⟩
theorem Same.di (h:Same a a') (l:List Tx):Same a (a'.di l):=by
 unfold aY.di;split
 ·split
  ·split<;>exact⟨h.1,h.2,h.3⟩
  ·split<;>exact⟨h.1,h.2,h.3⟩
 ·split
  ·exact⟨h.1,h.2,h.3⟩
  ·exact h.eu 0
theorem Same.ite {p:Prop} [Decidable p] {b:aY} (h1:Same a a') (h2:Same a b):Same a (if p then a' else b):=by split<;>assumption
theorem OU.turn {k0:Nat} (hS:OU W mm n t a k0) (hc:t'.code=t.code) (ho:t'.out=t.out) (hf:t'.fin=t.fin) (h0:0<=t'.at_) (hw:t'.wait=t.wait) (hs:Same a a')
  (nP:eT (bM (W.tx n) (W.rs n)) (W.lo n) (W.hi n) (wP (W.tx n) (W.rs n) a') k (t'.ls (W.lo n) (W.hi n) j5)):OU W j5 n t' a' k:=
 ⟨by rw[hc];exact hS.code,by rw[ho,hs.out];exact hS.out,by rw[hf,hs.fin];exact hS.fin,h0,by rw[hw,hs.buf];exact hS.wait,by rw[hw];exact hS.own,fun _=>nP⟩
def cst (a:aY):Nat:=match a.pt with
 |.look=>252
 |.rd=>253+23*a.log.length
 |.wr=>273+23*a.log.length
 |_=>229
structure aar (W:FC) (mm:MM) (m:AS) (ks:Nat->Nat) (n:Nat) (t:MT) (a:aY):Prop where
 ok:yt W
 Bn:Ak W mm m ks
 inv:cZ W.N W.words m
 dx:m.clock<2305843009213693951
 th:mm.aT[n]? =some t
 lt:n<W.N
 eq:m.aT n=a
 fin:a.fin=0
def Done (W:FC) (mm:MM) (m:AS) (ks:Nat->Nat) (n:Nat) (t:MT) (a:aY):Prop:=∃k,a.bare/\k<=cst a/\(mm.go n t).1=true/\Ak W (mm.go n t).2 (m.act (W.rs n) n) (upd ks n k)
theorem Ow (mm:MM) (n:Nat) (t:MT):mm.put n t=⟨mm.mem,mm.aT.set n t,mm.evs⟩:=rfl
theorem aar.s (h:aar W mm m ks n t a):OU W mm n t a (ks n):=by rw[<-h.eq];exact h.Bn.th n t h.th
theorem aar.A (h:aar W mm m ks n t a):wN W.words m.clock a:=by rw[<-h.eq];exact h.inv.th n h.lt
theorem aar.B (h:aar W mm m ks n t a):oM W.words m.clock a:=by rw[<-h.eq];exact h.inv.buf n h.lt
theorem aar.OX (h:aar W mm m ks n t a) {s:Nat} (hs:s<16):mm.found t (W.words+2+(s:Int))=dF a.buf m.aR s:=by
 have:=h.Bn.lock h.th (C:=m.clock) (by rw[h.eq];exact h.B) hs;rw[h.eq] at this;exact this
theorem aar.agb (h:aar W mm m ks n t a) {x:Int} (hx:1<=x/\x<=W.words):mm.found t x=uq a.buf m.data x:=by
 have:=h.Bn.dat h.th hx;rw[h.eq] at this;exact this
theorem aar.yM (h:aar W mm m ks n t a) {s:Nat} (hs:s<16):0<=W.words+2+(s:Int)/\W.words+2+(s:Int)<mm.mem.length:=by
 obtain⟨l1,l2,l3,l4,l5,l6,l7,l8⟩:=(h.ok.ctx n h.lt).lay;have h1:=h.ok.words;have h2:=h.ok.size n h.lt;have h3:=h.Bn.len;have h4:=h.ok.wd n h.lt;omega
theorem aar.OC (h:aar W mm m ks n t a) {x:Int} (hx:1<=x/\x<=W.words+1):0<=x/\x<mm.mem.length:=by
 obtain⟨l1,l2,l3,l4,l5,l6,l7,l8⟩:=(h.ok.ctx n h.lt).lay;have h1:=h.ok.words;have h2:=h.ok.size n h.lt;have h3:=h.Bn.len;have h4:=h.ok.wd n h.lt;omega
theorem aar.goes (h:aar W mm m ks n t a) {r:Nat} (hr:r<8) {v:Int} (hgo:mm.go n t=(true,mm.put n (t.goes r v))) (hb:a.bare) (hact:m.act (W.rs n) n=m.set n a') (hs:Same a a') {k:Nat} (hk:k<=cst a)
  (hw:eT (bM (W.tx n) (W.rs n)) (W.lo n) (W.hi n) (wP (W.tx n) (W.rs n) a') k ((t.ls (W.lo n) (W.hi n) mm).put r v)):Done W mm m ks n t a:=by
 have hS:=h.s;refine⟨k,hb,hk,by rw[hgo],?_⟩;rw[hgo,hact,Ow];have e:m.set n a'=⟨m.data,m.clock,m.aR,upd m.aT n a',mm.evs⟩:=by rw[h.Bn.evs];rfl
 rw[e];refine h.Bn.put h.lt (hS.turn rfl rfl rfl (by have:=hS.pJ;simp only[MT.goes];omega) rfl hs ?_);rw[sw hS.pJ rfl v r hr];exact hw
theorem aar.notes (h:aar W mm m ks n t a) {j x y:Int} (hgo:mm.go n t=(true,(mm.put n t.next).tell n j x y)) (hb:a.bare) (hact:m.act (W.rs n) n=(m.set n a').tell n j x y) (hs:Same a a') {k:Nat} (hk:k<=cst a)
  (hw:eT (bM (W.tx n) (W.rs n)) (W.lo n) (W.hi n) (wP (W.tx n) (W.rs n) a') k ((t.ls (W.lo n) (W.hi n) mm).at ((t.ls (W.lo n) (W.hi n) mm).pc+1))):Done W mm m ks n t a:=by
 have hS:=h.s;refine⟨k,hb,hk,by rw[hgo],?_⟩;rw[hgo,hact];have e:(m.set n a').tell n j x y=⟨m.data,m.clock,m.aR,upd m.aT n a',mm.evs++[⟨n,j,x,y⟩]⟩:=by rw[h.Bn.evs];rfl
 rw[e];refine h.Bn.put h.lt (hS.turn rfl rfl rfl (by have:=hS.pJ;simp only[MT.next];omega) rfl hs ?_);have e2:=X4 (lo:=W.lo n) (hi:=W.hi n) (mm:=mm) (j5:=⟨mm.mem,mm.aT.set n t.next,mm.evs++[⟨n,j,x,y⟩]⟩) hS.pJ rfl;rw[<-e2] at hw;exact hw
theorem jP {p:Pt} (h:a.pt=p) (h1:p≠ .CR:=by intro q;cases q) (h2:p≠ .vO:=by intro q;cases q):a.bare:=fun q=>by
 rcases q with q|q
 ·exact absurd (h.symm.trans q) h1
 ·exact absurd (h.symm.trans q) h2
theorem jd {s:LS} (h:t.ls lo hi mm=s):t.at_.toNat=s.pc:=congrArg LS.pc h
theorem dO {s:LS} (h:t.ls lo hi mm=s) {a:Nat} (ha:a<8):t.reg a=s.get a:=by rw[<-h,Ue a ha]
section
theorem aar.look (h:aar W mm m ks n t a) (hp:a.pt= .look) (hl:(W.rs n)[a.row]? =some l) (hr:gM (W.tx n) l (dw (W.rs n) a.row) a (t.ls (W.lo n) (W.hi n) mm)):Done W mm m ks n t a:=by
 have X:=h.ok.ctx n h.lt;have R:=bQ (W.tx n) (W.rs n) hl;have hwd:=h.ok.wd n h.lt;have hw0:=h.ok.words;have HA:=h.A;have HB:=HA.base (by rw[hp];intro q;cases q);unfold gM at hr;rw[hp] at hr;obtain⟨r0,r1,r2,r3,r4,r5,r6,pv,hs,p1,p2,p3,p6⟩:=hr;have hc:t.code[t.at_.toNat]? =some ⟨15,0,(0:Nat),(7:Nat),0,(W.tx n).words+1⟩:=by rw[h.s.code,jd hs];exact R.begin 6 _ rfl
 obtain⟨q1,q2⟩:=h.OC (x:=W.words+1) (by omega);have hgo:=XV (mm:=mm) (n:=n) (x:=W.words+1) h.s.pJ hc (by rw[dO hs (a:=7) (by decide)];show fV (0+_)=_;rw[hwd,fH (by omega)];omega) q1 q2;rw[h.Bn.dx h.th (by rw[h.eq];exact h.B)] at hgo;have hact:m.act (W.rs n) n=(m.set n ({a with dx:=m.clock,reads:=0,log:=[],sum:=0,held:=fun _=>false,op:=0}.di l)).tell n 1 m.clock 0:=by
  unfold AS.act;rw[h.eq];simp only[hp];rw[List.getD_eq_getElem?_getD,hl];rfl
 have hS:=h.s;refine⟨252,jP hp,by unfold cst;rw[hp];exact aB _,by rw[hgo],?_⟩;rw[hgo,hact];have hsm:Same a ({a with dx:=m.clock,reads:=0,log:=[],sum:=0,held:=fun _=>false,op:=0}.di l):=((Same.of a {a with dx:=m.clock,reads:=0,log:=[],sum:=0,held:=fun _=>false,op:=0} rfl rfl rfl).di l);have nP:=QJ (r1:=r1) (r2:=r2) (r3:=r3) (r4:=r4) (r5:=r5) (r6:=r6) X hl h.fin ⟨h.inv.dx,Int.le_refl _⟩ p1 p2 p3 p6;generalize({a with dx:=m.clock,reads:=0,log:=[],sum:=0,held:=fun _=>false,op:=0}.di l:aY)=a' at hsm nP;have e:(m.set n a').tell n 1 m.clock 0=⟨m.data,m.clock,m.aR,upd m.aT n a',mm.evs++[⟨n,1,m.clock,0⟩]⟩:=by rw[h.Bn.evs];rfl
 rw[e];refine h.Bn.put h.lt (hS.turn rfl rfl rfl (by have:=hS.pJ;simp only[MT.goes];omega) rfl hsm ?_);have e2:=sw (lo:=W.lo n) (hi:=W.hi n) (m:=mm) (m':=⟨mm.mem,mm.aT.set n (t.goes ((0:Nat):Int) m.clock),mm.evs++[⟨n,1,m.clock,0⟩]⟩) hS.pJ rfl m.clock 0 (by decide);rw[hs,aF] at e2;rw[<-e2] at nP;exact nP
theorem aar.rd (h:aar W mm m ks n t a) (hp:a.pt= .rd) (hl:(W.rs n)[a.row]? =some l) (hr:gM (W.tx n) l (dw (W.rs n) a.row) a (t.ls (W.lo n) (W.hi n) mm)):Done W mm m ks n t a:=by
 have X:=h.ok.ctx n h.lt;have R:=bQ (W.tx n) (W.rs n) hl;have hwd:=h.ok.wd n h.lt;have hw0:=h.ok.words;have HA:=h.A;have HB:=HA.base (by rw[hp];intro q;cases q);have bK:=HA.held;unfold gM at hr;rw[hp] at hr bK;simp only at bK;obtain⟨o,r0,r3,r4,r5,r6,pv,ho,hk,hs,F⟩:=hr;have R1:=R.ops _ o ho;rw[if_pos hk] at R1;have hc:t.code[t.at_.toNat]? =some ⟨12,0,(1:Nat),(2:Nat),0,2⟩:=by rw[h.s.code,jd hs];exact R1 44 _ rfl
 have hgo:=zq (mm:=mm) (n:=n) h.s.pJ hc;rw[dO hs (a:=1) (by decide),dO hs (a:=2) (by decide),ax,ay] at hgo;refine h.notes hgo (jP hp) (a':=({a with op:=a.op+1,sum:=fV (a.sum+a.v)}.di l)) ?_ ((Same.of a {a with op:=a.op+1,sum:=fV (a.sum+a.v)} rfl rfl rfl).di l) (k:=253+23*a.log.length) (by unfold cst;rw[hp];exact aB _) ?_
 ·unfold AS.act;rw[h.eq];simp only[hp];rw[List.getD_eq_getElem?_getD,hl];rfl
 ·rw[hs];rw[<-hwd] at HB;exact YT X hl HB bK ho hk F
theorem aar.wr (h:aar W mm m ks n t a) (hp:a.pt= .wr) (hl:(W.rs n)[a.row]? =some l) (hr:gM (W.tx n) l (dw (W.rs n) a.row) a (t.ls (W.lo n) (W.hi n) mm)):Done W mm m ks n t a:=by
 have X:=h.ok.ctx n h.lt;have R:=bQ (W.tx n) (W.rs n) hl;have hwd:=h.ok.wd n h.lt;have hw0:=h.ok.words;have HA:=h.A;have HB:=HA.base (by rw[hp];intro q;cases q);have bK:=HA.held;have hx:=HA.x;have hsome:=HA.some;unfold gM at hr;rw[hp] at hr bK hx hsome;simp only at bK hx hsome;obtain⟨o,r0,r3,r4,r5,r6,pv,ho,hk,hs,F⟩:=hr;have R1:=R.ops _ o ho;rw[if_neg hk] at R1;have hc:t.code[t.at_.toNat]? =some ⟨12,0,(1:Nat),(2:Nat),0,3⟩:=by rw[h.s.code,jd hs];exact R1 32 _ rfl
 have hgo:=zq (mm:=mm) (n:=n) h.s.pJ hc;rw[dO hs (a:=1) (by decide),dO hs (a:=2) (by decide),ax,ay] at hgo;have hlen:(mK a.log a.x a.v).length<=a.log.length+1:=by unfold mK;split<;>simp
 refine h.notes hgo (jP hp) (a':=({a with op:=a.op+1,log:=mK a.log a.x a.v}.di l)) ?_ ((Same.of a {a with op:=a.op+1,log:=mK a.log a.x a.v} rfl rfl rfl).di l) (k:=250+23*(mK a.log a.x a.v).length) (by unfold cst;rw[hp];simp only;omega) ?_
 ·unfold AS.act;rw[h.eq];simp only[hp];rw[List.getD_eq_getElem?_getD,hl];rfl
 ·rw[hs];rw[<-hwd] at HB hx;exact XG X hl HB bK ho hk hx hsome F
end
end
section
variable {W:FC} {mm j5:MM} {m:AS} {ks:Nat->Nat} {n k:Nat} {t t':MT} {a a':aY} {lo hi words:Int} {l:List Tx}
section
theorem aar.JY (h:aar W mm m ks n t a) (hp:a.pt= .JY) (hl:(W.rs n)[a.row]? =some l) (hr:gM (W.tx n) l (dw (W.rs n) a.row) a (t.ls (W.lo n) (W.hi n) mm)):Done W mm m ks n t a:=by
 have X:=h.ok.ctx n h.lt;have R:=bQ (W.tx n) (W.rs n) hl;have hwd:=h.ok.wd n h.lt;have hw0:=h.ok.words;have HA:=h.A;have HB:=HA.base (by rw[hp];intro q;cases q);have hx:=HA.x;unfold gM at hr;rw[hp] at hr hx;simp only at hx;obtain⟨o,r2,r3,r4,r6,pv,ho,hk,hs,F⟩:=hr;have R1:=R.ops _ o ho;rw[if_pos hk] at R1;have hc:t.code[t.at_.toNat]? =some ⟨4,0,(3:Nat),(5:Nat),0,0⟩:=by rw[h.s.code,jd hs];exact R1 19 _ rfl
 have hg:=cu a.x;obtain⟨b1,b2⟩:=h.inv.O_ h.ok.n h.lt hg;rw[h.eq] at b1 b2;have hck:=h.dx;obtain⟨q1,q2⟩:=h.yM hg;have hgo:=yY (mm:=mm) (n:=n) (x:=W.words+2+(bA a.x:Int)) h.s.pJ hc (by rw[dO hs (a:=5) (by decide)];show fV ((W.tx n).words+2+(bA a.x:Int)+0)=_;rw[hwd];rw[fH (by omega)];omega) q1 q2;rw[h.OX hg] at hgo;refine h.goes (r:=3) (by decide) hgo (jP hp) (a':=if dF a.buf m.aR (bA a.x)%2≠0\/a.dx<dF a.buf m.aR (bA a.x)/2 then {a with pt:=.yz} else {a with pt:=.dat,l1:=dF a.buf m.aR (bA a.x)}) ?_ (Same.ite (Same.of a {a with pt:=.yz} rfl rfl rfl) (Same.of a {a with pt:=.dat,l1:=dF a.buf m.aR (bA a.x)} rfl rfl rfl)) (k:=11) (by unfold cst;rw[hp];show 11<=229;decide) ?_
 ·unfold AS.act;rw[h.eq];simp only[hp];split<;>rfl
 ·rw[hs,aD];exact Td X hl ho hk F ⟨b1,by omega⟩
theorem aar.dat (h:aar W mm m ks n t a) (hp:a.pt= .dat) (hl:(W.rs n)[a.row]? =some l) (hr:gM (W.tx n) l (dw (W.rs n) a.row) a (t.ls (W.lo n) (W.hi n) mm)):Done W mm m ks n t a:=by
 have X:=h.ok.ctx n h.lt;have R:=bQ (W.tx n) (W.rs n) hl;have hwd:=h.ok.wd n h.lt;have hw0:=h.ok.words;have HA:=h.A;have HB:=HA.base (by rw[hp];intro q;cases q);have hx:=HA.x;unfold gM at hr;rw[hp] at hr hx;simp only at hx;obtain⟨o,r2,r4,r6,pv,ho,hk,hs,F⟩:=hr;have R1:=R.ops _ o ho;rw[if_pos hk] at R1;have hc:t.code[t.at_.toNat]? =some ⟨4,0,(2:Nat),(1:Nat),0,0⟩:=by rw[h.s.code,jd hs];exact R1 32 _ rfl
 obtain⟨q1,q2⟩:=h.OC (x:=a.x) (by omega);have hgo:=yY (mm:=mm) (n:=n) (x:=a.x) h.s.pJ hc (by rw[dO hs (a:=1) (by decide)];show fV (a.x+0)=_;skip;rw[fH (by omega)];omega) q1 q2;rw[h.agb hx] at hgo;refine h.goes (r:=2) (by decide) hgo (jP hp) (a':={a with pt:=.Dq,v:=uq a.buf m.data a.x}) ?_ (Same.of a {a with pt:=.Dq,v:=uq a.buf m.data a.x} rfl rfl rfl) (k:=0) (Nat.zero_le _) ?_
 ·unfold AS.act;rw[h.eq];simp only[hp]
 ·rw[hs,aC];exact .here (.inr (.inr ⟨l,hl,o,_,_,_,ho,hk,rfl,F⟩))
theorem aar.Dq (h:aar W mm m ks n t a) (hp:a.pt= .Dq) (hl:(W.rs n)[a.row]? =some l) (hr:gM (W.tx n) l (dw (W.rs n) a.row) a (t.ls (W.lo n) (W.hi n) mm)):Done W mm m ks n t a:=by
 have X:=h.ok.ctx n h.lt;have R:=bQ (W.tx n) (W.rs n) hl;have hwd:=h.ok.wd n h.lt;have hw0:=h.ok.words;have HA:=h.A;have HB:=HA.base (by rw[hp];intro q;cases q);have hl1:=HA.l1;unfold gM at hr;rw[hp] at hr hl1;simp only at hl1;obtain⟨o,r4,r6,pv,ho,hk,hs,F⟩:=hr;have R1:=R.ops _ o ho;rw[if_pos hk] at R1;have hc:t.code[t.at_.toNat]? =some ⟨4,0,(4:Nat),(5:Nat),0,0⟩:=by rw[h.s.code,jd hs];exact R1 33 _ rfl
 have hg:=cu a.x;obtain⟨b1,b2⟩:=h.inv.O_ h.ok.n h.lt hg;rw[h.eq] at b1 b2;have hck:=h.dx;obtain⟨q1,q2⟩:=h.yM hg;have hgo:=yY (mm:=mm) (n:=n) (x:=W.words+2+(bA a.x:Int)) h.s.pJ hc (by rw[dO hs (a:=5) (by decide)];show fV ((W.tx n).words+2+(bA a.x:Int)+0)=_;rw[hwd];rw[fH (by omega)];omega) q1 q2;rw[h.OX hg] at hgo;refine h.goes (r:=4) (by decide) hgo (jP hp) (a':=if dF a.buf m.aR (bA a.x)=a.l1 then {a with pt:=.rd,reads:=a.reads|||1<<<bA a.x} else {a with pt:=.yz}) ?_ (Same.ite (Same.of a {a with pt:=.rd,reads:=a.reads|||1<<<bA a.x} rfl rfl rfl) (Same.of a {a with pt:=.yz} rfl rfl rfl)) (k:=8) (by unfold cst;rw[hp];show 8<=229;decide) ?_
 ·unfold AS.act;rw[h.eq];simp only[hp];split<;>rfl
 ·rw[hs,aA];rw[<-hwd] at HB;have h3:=HA.dx.2;exact Vo X hl HB ho hk F ⟨b1,by omega⟩ ⟨hl1.2.1,by omega⟩
theorem aar.ro (h:aar W mm m ks n t a) (hp:a.pt= .ro) (hl:(W.rs n)[a.row]? =some l) (hr:gM (W.tx n) l (dw (W.rs n) a.row) a (t.ls (W.lo n) (W.hi n) mm)):Done W mm m ks n t a:=by
 have X:=h.ok.ctx n h.lt;have R:=bQ (W.tx n) (W.rs n) hl;have hwd:=h.ok.wd n h.lt;have hw0:=h.ok.words;have HA:=h.A;have HB:=HA.base (by rw[hp];intro q;cases q);unfold gM at hr;rw[hp] at hr;obtain⟨r0,r2,r3,r4,r5,r6,pv,hs,F⟩:=hr;have hc:t.code[t.at_.toNat]? =some ⟨12,0,(1:Nat),(7:Nat),0,7⟩:=by rw[h.s.code,jd hs];exact R.aQ 158 _ rfl
 have hgo:=zq (mm:=mm) (n:=n) h.s.pJ hc;rw[dO hs (a:=1) (by decide),dO hs (a:=7) (by decide),ax,az] at hgo;refine h.notes hgo (jP hp) (a':={a with pt:=.out}) ?_ (Same.of a ({a with pt:=.out}) rfl rfl rfl) (k:=4) (by unfold cst;rw[hp];show 4<=229;decide) ?_
 ·unfold AS.act;rw[h.eq];simp only[hp]
 ·rw[hs];exact YX X hl F
theorem aar.Hu (h:aar W mm m ks n t a) (hp:a.pt= .Hu) (hl:(W.rs n)[a.row]? =some l) (hr:gM (W.tx n) l (dw (W.rs n) a.row) a (t.ls (W.lo n) (W.hi n) mm)):Done W mm m ks n t a:=by
 have X:=h.ok.ctx n h.lt;have R:=bQ (W.tx n) (W.rs n) hl;have hwd:=h.ok.wd n h.lt;have hw0:=h.ok.words;have HA:=h.A;have HB:=HA.base (by rw[hp];intro q;cases q);have hnew:=HA.new;unfold gM at hr;rw[hp] at hr hnew;simp only at hnew;obtain⟨r0,r3,r4,r5,r6,pv,hs,F,hn⟩:=hr;have hck:=h.dx;have Tk:=HA.dx.1;have hc:t.code[t.at_.toNat]? =some ⟨12,0,(1:Nat),(2:Nat),0,7⟩:=by rw[h.s.code,jd hs];exact R.aQ 103 _ rfl
 have hgo:=zq (mm:=mm) (n:=n) h.s.pJ hc;rw[dO hs (a:=1) (by decide),dO hs (a:=2) (by decide),ax,ay] at hgo;refine h.notes hgo (jP hp) (a':=a.kE 0) ?_ ((Same.refl a).kE 0) (k:=216) (by unfold cst;rw[hp];show 216<=229;decide) ?_
 ·unfold AS.act;rw[h.eq];simp only[hp]
 ·rw[hs];exact UH X hl HB.len F hn ⟨by omega,by omega⟩
theorem aar.yz (h:aar W mm m ks n t a) (hp:a.pt= .yz) (hl:(W.rs n)[a.row]? =some l) (hr:gM (W.tx n) l (dw (W.rs n) a.row) a (t.ls (W.lo n) (W.hi n) mm)):Done W mm m ks n t a:=by
 have X:=h.ok.ctx n h.lt;have R:=bQ (W.tx n) (W.rs n) hl;have hwd:=h.ok.wd n h.lt;have hw0:=h.ok.words;have HA:=h.A;have HB:=HA.base (by rw[hp];intro q;cases q);unfold gM at hr;rw[hp] at hr;obtain⟨r0,r1,r2,r3,r4,r5,r6,pv,hs⟩:=hr;rw[show dw (W.rs n) a.row+181+aV l=dw (W.rs n) a.row+178+aV l+3 by omega] at hs;have hc:t.code[t.at_.toNat]? =some ⟨12,0,(7:Nat),(7:Nat),0,8⟩:=by rw[h.s.code,jd hs];exact R.tail 3 _ rfl
 have hgo:=zq (mm:=mm) (n:=n) h.s.pJ hc;rw[dO hs (a:=7) (by decide),az] at hgo;refine h.notes hgo (jP hp) (a':={a with pt:=.look}) ?_ (Same.of a ({a with pt:=.look}) rfl rfl rfl) (k:=9) (by unfold cst;rw[hp];show 9<=229;decide) ?_
 ·unfold AS.act;rw[h.eq];simp only[hp]
 ·rw[hs];exact(show dw (W.rs n) a.row+178+aV l+3+1=dw (W.rs n) a.row+182+aV l by omega) ▸ Vx X hl
theorem aar.Lx (h:aar W mm m ks n t a) (hp:a.pt= .Lx) (hl:(W.rs n)[a.row]? =some l) (hr:gM (W.tx n) l (dw (W.rs n) a.row) a (t.ls (W.lo n) (W.hi n) mm)):Done W mm m ks n t a:=by
 have X:=h.ok.ctx n h.lt;have R:=bQ (W.tx n) (W.rs n) hl;have hwd:=h.ok.wd n h.lt;have hw0:=h.ok.words;have HA:=h.A;have HB:=HA.base (by rw[hp];intro q;cases q);have bK:=HA.held;unfold gM at hr;rw[hp] at hr bK;simp only at bK;obtain⟨r0,r1,r2,r3,r4,pv,hs,F,O,hn⟩:=hr;have nX:=bK.1;have hc:t.code[t.at_.toNat]? =some ⟨4,0,(3:Nat),(5:Nat),0,0⟩:=by rw[h.s.code,jd hs];exact R.aQ 31 _ rfl
 obtain⟨b1,b2⟩:=h.inv.O_ h.ok.n h.lt nX;rw[h.eq] at b1 b2;have hck:=h.dx;obtain⟨q1,q2⟩:=h.yM nX;have hgo:=yY (mm:=mm) (n:=n) (x:=W.words+2+(a.s:Int)) h.s.pJ hc (by rw[dO hs (a:=5) (by decide)];show fV ((W.tx n).words+2+(a.s:Int)+0)=_;rw[hwd];rw[fH (by omega)];omega) q1 q2;rw[h.OX nX] at hgo;refine h.goes (r:=3) (by decide) hgo (jP hp) (a':=if dF a.buf m.aR a.s%2≠0 then a.bZ 0 else {a with pt:=.CR,l1:=dF a.buf m.aR a.s}) ?_ (Same.ite ((Same.refl a).bZ 0) (Same.of a {a with pt:=.CR,l1:=dF a.buf m.aR a.s} rfl rfl rfl)) (k:=216) (by unfold cst;rw[hp];show 216<=229;decide) ?_
 ·unfold AS.act;rw[h.eq];simp only[hp];split<;>rfl
 ·rw[hs,aD];exact Ve X hl F O hn
theorem aar.Gb (h:aar W mm m ks n t a) (hp:a.pt= .Gb) (hl:(W.rs n)[a.row]? =some l) (hr:gM (W.tx n) l (dw (W.rs n) a.row) a (t.ls (W.lo n) (W.hi n) mm)):Done W mm m ks n t a:=by
 have X:=h.ok.ctx n h.lt;have R:=bQ (W.tx n) (W.rs n) hl;have hwd:=h.ok.wd n h.lt;have hw0:=h.ok.words;have HA:=h.A;have HB:=HA.base (by rw[hp];intro q;cases q);have hsome:=HA.some;have hnew:=HA.new;unfold gM at hr;rw[hp] at hr hsome hnew;simp only at hsome hnew;obtain⟨r0,r1,r2,r3,r4,pv,hs,F,O,hn⟩:=hr;have nX:=hsome.2.1;have hth:=h.ok.th n h.lt;have hc:t.code[t.at_.toNat]? =some ⟨4,0,(2:Nat),(5:Nat),0,0⟩:=by rw[h.s.code,jd hs];exact R.aQ 79 _ rfl
 obtain⟨b1,b2⟩:=h.inv.O_ h.ok.n h.lt nX;rw[h.eq] at b1 b2;have hck:=h.dx;obtain⟨q1,q2⟩:=h.yM nX;have hgo:=yY (mm:=mm) (n:=n) (x:=W.words+2+(a.s:Int)) h.s.pJ hc (by rw[dO hs (a:=5) (by decide)];show fV ((W.tx n).words+2+(a.s:Int)+0)=_;rw[hwd];rw[fH (by omega)];omega) q1 q2;rw[h.OX nX] at hgo;have hO:dF a.buf m.aR a.s=2*(n:Int)+1->a.held a.s=true:=fun q=>by
  have hb:=HA.bare (by rw[hp];rfl);rw[hb] at q;have:=(h.inv.own n h.lt a.s nX).1 q;rw[h.eq] at this;rcases this with q1|⟨v,q1⟩
  ·exact q1
  ·rw[hb] at q1;simp at q1
 refine h.goes (r:=2) (by decide) hgo (jP hp) (a':=if dF a.buf m.aR a.s%2=0 then(if a.dx<dF a.buf m.aR a.s/2 then a.bZ 0 else a.dV (a.s+1)) else if dF a.buf m.aR a.s=2*(n:Int)+1 then(if a.dx<a.old a.s/2 then a.bZ 0 else a.dV (a.s+1)) else a.bZ 0) ?_ (Same.ite (Same.ite ((Same.refl a).bZ 0) ((Same.refl a).dV _)) (Same.ite (Same.ite ((Same.refl a).bZ 0) ((Same.refl a).dV _)) ((Same.refl a).bZ 0))) (k:=229) (by unfold cst;rw[hp];show 229<=229;decide) ?_
 ·unfold AS.act;rw[h.eq];simp only[hp]
  repeat' split
  all_goals rfl
 ·rw[hs,aC];rw[<-hwd] at HB;rw[<-hth] at hO⊢;exact Tu X hl HB nX F O hn ⟨b1,by omega⟩ hO (by omega)
theorem aar.full (h:aar W mm m ks n t a) (hp:a.pt= .full) (hl:(W.rs n)[a.row]? =some l) (hr:gM (W.tx n) l (dw (W.rs n) a.row) a (t.ls (W.lo n) (W.hi n) mm)):Done W mm m ks n t a:=by
 have X:=h.ok.ctx n h.lt;have R:=bQ (W.tx n) (W.rs n) hl;have hwd:=h.ok.wd n h.lt;have hw0:=h.ok.words;have HA:=h.A;have HB:=HA.base (by rw[hp];intro q;cases q);unfold gM at hr;rw[hp] at hr;obtain⟨o,r0,r1,r2,r3,r4,r5,r6,pv,ho,hk,hs⟩:=hr;have R1:=R.ops _ o ho;rw[if_neg hk] at R1;have hS:=h.s;have hc:t.code[t.at_.toNat]? =some ⟨13,0,0,0,0,6⟩:=by rw[h.s.code,jd hs];exact R1 22 _ rfl
 have hgo:=Ye (mm:=mm) (n:=n) h.s.pJ hc;have hact:m.act (W.rs n) n=(m.set n {a with pt:=.over,fin:=6}).tell n 11 6 0:=by
  unfold AS.act;rw[h.eq];simp only[hp]
 refine⟨0,jP hp,Nat.zero_le _,by rw[hgo],?_⟩;rw[hgo,hact];have e:(m.set n {a with pt:=.over,fin:=6}).tell n 11 6 0=⟨m.data,m.clock,m.aR,upd m.aT n {a with pt:=.over,fin:=6},mm.evs++[⟨n,11,6,0⟩]⟩:=by rw[h.Bn.evs];rfl
 rw[e];exact h.Bn.put (t':={t with fin:=6}) h.lt ⟨hS.code,hS.out,rfl,hS.pJ,hS.wait,hS.own,fun q=>absurd q (show ¬(6:Int)=0 by decide)⟩
theorem aar.halt (h:aar W mm m ks n t a) (hp:a.pt= .halt) (hr:∃r0 r1 r2 r3 r4 r5 r6 pv,t.ls (W.lo n) (W.hi n) mm=⟨dw (W.rs n) (W.rs n).length,r0,r1,r2,r3,r4,r5,r6,0,pv⟩):Done W mm m ks n t a:=by
 obtain⟨r0,r1,r2,r3,r4,r5,r6,pv,hs⟩:=hr;have hS:=h.s;have hc:t.code[t.at_.toNat]? =some ⟨14,0,0,0,0,0⟩:=by rw[h.s.code,jd hs];exact Qm _ _
 have hgo:=Xx (mm:=mm) (n:=n) h.s.pJ hc;have hact:m.act (W.rs n) n=(m.set n {a with pt:=.over,fin:=1}).tell n 10 0 0:=by
  unfold AS.act;rw[h.eq];simp only[hp]
 refine⟨0,jP hp,Nat.zero_le _,by rw[hgo],?_⟩;rw[hgo,hact];have e:(m.set n {a with pt:=.over,fin:=1}).tell n 10 0 0=⟨m.data,m.clock,m.aR,upd m.aT n {a with pt:=.over,fin:=1},mm.evs++[⟨n,10,0,0⟩]⟩:=by rw[h.Bn.evs];rfl
 rw[e];exact h.Bn.put (t':={t with fin:=1}) h.lt ⟨hS.code,hS.out,rfl,hS.pJ,hS.wait,hS.own,fun q=>absurd q (show ¬(1:Int)=0 by decide)⟩
theorem aar.out (h:aar W mm m ks n t a) (hp:a.pt= .out) (hl:(W.rs n)[a.row]? =some l) (hr:gM (W.tx n) l (dw (W.rs n) a.row) a (t.ls (W.lo n) (W.hi n) mm)):Done W mm m ks n t a:=by
 have X:=h.ok.ctx n h.lt;have R:=bQ (W.tx n) (W.rs n) hl;have hwd:=h.ok.wd n h.lt;have hw0:=h.ok.words;have HA:=h.A;have HB:=HA.base (by rw[hp];intro q;cases q);unfold gM at hr;rw[hp] at hr;obtain⟨r0,r2,r3,r4,r5,r6,pv,hs⟩:=hr;rw[show dw (W.rs n) a.row+9+aV l+170=dw (W.rs n) a.row+178+aV l+1 by omega] at hs;have hS:=h.s;have hc:t.code[t.at_.toNat]? =some ⟨11,0,(1:Nat),0,0,0⟩:=by rw[h.s.code,jd hs];exact R.tail 1 _ rfl
 have hgo:=abS (mm:=mm) (n:=n) h.s.pJ hc;rw[dO hs (a:=1) (by decide),ax] at hgo;have hact:m.act (W.rs n) n=(m.set n ({a with row:=a.row+1,out:=a.out++[a.sum]}.jT (W.rs n))).tell n 9 a.sum 0:=by
  unfold AS.act;rw[h.eq];simp only[hp]
 refine⟨7,jP hp,by unfold cst;rw[hp];show 7<=229;decide,by rw[hgo],?_⟩;rw[hgo,hact];have hsm:=(Same.of {a with row:=a.row+1,out:=a.out++[a.sum]} {a with row:=a.row+1,out:=a.out++[a.sum]} rfl rfl rfl).jT (W.rs n);have nP:=UI (r0:=r0) (r1:=a.sum) (r2:=r2) (r3:=r3) (r4:=r4) (r5:=r5) (r6:=r6) (pv:=pv) X hl (a.out++[a.sum]);generalize({a with row:=a.row+1,out:=a.out++[a.sum]}.jT (W.rs n):aY)=a' at hsm nP;have e:(m.set n a').tell n 9 a.sum 0=⟨m.data,m.clock,m.aR,upd m.aT n a',mm.evs++[⟨n,9,a.sum,0⟩]⟩:=by rw[h.Bn.evs];rfl
 rw[e];have e2:=YC (lo:=W.lo n) (hi:=W.hi n) (mm:=mm) (j5:=⟨mm.mem,mm.aT.set n (t.told a.sum),mm.evs++[⟨n,9,a.sum,0⟩]⟩) hS.pJ rfl a.sum;refine h.Bn.put (t':=t.told a.sum) h.lt ⟨hS.code,by rw[hsm.out,<-hS.out];rfl,by rw[hsm.fin];exact hS.fin,by have:=hS.pJ;simp only[MT.told];omega,by rw[hsm.buf];exact hS.wait,hS.own,fun _=>?_⟩;rw[hs] at e2;rw[show dw (W.rs n) a.row+9+aV l+171=dw (W.rs n) a.row+178+aV l+1+1 by omega] at nP;have e3:(t.told a.sum).ls (W.lo n) (W.hi n) ⟨mm.mem,mm.aT.set n (t.told a.sum),mm.evs++[⟨n,9,a.sum,0⟩]⟩=⟨dw (W.rs n) a.row+178+aV l+1+1,r0,a.sum,r2,r3,r4,r5,r6,0,pv⟩:=e2;rw[<-e3] at nP;exact nP
end
end
end Go.Proofs.YtopdcjimpdalpaaGreat

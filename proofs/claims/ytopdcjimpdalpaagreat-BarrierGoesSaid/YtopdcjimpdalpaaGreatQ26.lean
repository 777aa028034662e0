import Derived.Test.YtopdcjimpdalpaaGreatQ25
namespace Go.Proofs.YtopdcjimpdalpaaGreat
open Go.RowKit
set_option linter.all false
section
variable {t:dw} {lo hi words C:Int} {rs:List (List Tx)} {l:List Tx} {a:aO} {pv:Int->Int} {r0 r1 r2 r3 r4 r5 r6:Int} {s H:Nat} {o:Tx}
theorem tQ.more (B:tQ words C a) (k:Nat) (sum:Int):tQ words C {a with op:=k,sum:=sum}:=⟨B.len,B.keys,B.tJ,B.rd,B.bX,B.fin,B.old⟩
theorem Oi {c:Int} (X:Ctx t lo hi rs) (hl:rs[a.row]? =some l) (hf:a.fin=0) (hc:0<=c/\c<=C) (h1:pv (t.base+1)=0) (h2:pv (t.base+2)=0) (h3:pv (t.base+3)=0) (h6:pv (t.base+6)=0):
  dX (bI t rs) lo hi (vU t rs ({a with bX:=c,reads:=0,log:=[],sum:=0,held:=fun _=>false,op:=0}.bL l)) 252 ⟨b_ rs a.row+7,c,r1,r2,r3,r4,r5,r6,0,pv⟩:=by
 have L:=X.lay;have R:=bK t rs hl;have hb:=L.base;have hsm:=L.sum;refine dX.le (k:=250+2) ?_ (by omega);refine .step (R.begin 7 _ rfl) (.store (a:=7) (b:=0) (by decide) (by decide) (L.b (by decide) (by decide)).1 (L.b (by decide) (by decide)).2.1 (L.b (by decide) (by decide)).2.2) ?_;dsimp only[ay,az,ax,au,ak,aD,aG,aA,ah,ai,aB,aC,aF,aH,aj,LS.at,LS.aT];refine .step (R.begin 8 _ rfl) (.store (a:=7) (b:=7) (by decide) (by decide) (L.s).1 (L.s).2.1 (L.s).2.2) ?_;dsimp only[ay,az,ax,au,ak,aD,aG,aA,ah,ai,aB,aC,aF,aH,aj,LS.at,LS.aT];have F:Fr t c 0 [] 0 0 (yw (yw pv (t.base+0) c) t.sum 0):=by
  refine⟨?_,?_,?_,?_,?_,gu _ _ _,fun i d hd=>by simp at hd⟩
  ·rw[aW _ (by omega),gu]
  ·rw[aW _ (by omega),aW _ (by omega),h1];rfl
  ·rw[aW _ (by omega),aW _ (by omega),h2];rfl
  ·rw[aW _ (by omega),aW _ (by omega),h3]
  ·rw[aW _ (by omega),aW _ (by omega),h6];rfl
 have B:tQ t.words C {a with bX:=c,reads:=0,log:=[],sum:=0,held:=fun _=>false,op:=0}:=⟨by simp,by simp,by simp,Nat.zero_lt_succ 65535,hc,hf,fun k hk=>by simp at hk⟩;have:=vI (r0:=c) (r1:=r1) (r2:=r2) (r3:=r3) (r4:=r4) (r5:=r5) (r6:=r6) (a:={a with bX:=c,reads:=0,log:=[],sum:=0,held:=fun _=>false,op:=0}) X hl B (fun _=>rfl) (Nat.zero_le _) F;simpa [aS] using this
theorem VQ (X:Ctx t lo hi rs) (hl:rs[a.row]? =some l) (B:tQ t.words C a) (hh:∀k,a.held k=false) (ho:l[a.op]? =some o) (hk:o.kind=2) (F:wH t a 0 pv):
  dX (bI t rs) lo hi (vU t rs ({a with op:=a.op+1,sum:=fq (a.sum+a.v)}.bL l)) (253+23*a.log.length) ⟨b_ rs a.row+9+aS (l.take a.op)+45,r0,a.x,a.v,r3,r4,r5,r6,0,pv⟩:=by
 have L:=X.lay;have R:=bK t rs hl;have R1:=R.ops a.op o ho;rw[if_pos hk] at R1;obtain⟨H,F1,hH,hb⟩:=id F;obtain rfl:H=0:=MV hH (by decide) (fun i hi=>by rw[hb i (Nat.zero_le _) hi,hh i];simp);obtain⟨v,hv⟩:∃v,v=fq (a.sum+a.v):=⟨_,rfl⟩;rw[<-hv];refine dX.le (k:=250+23*a.log.length+3) ?_ (by omega);refine .step (R1 45 _ rfl) (.load (a:=1) (b:=7) (by decide) (by decide) (L.s).1 (L.s).2.1 (L.s).2.2) ?_;dsimp only[ay,az,ax,au,ak,aD,aG,aA,ah,ai,aB,aC,aF,aH,aj,LS.at,LS.aT];rw[F1.sum];refine .step (R1 46 _ rfl) (.nQ (a:=1) (b:=2) (by decide) (by decide) (dR (hv.symm))) ?_;dsimp only[ay,az,ax,au,ak,aD,aG,aA,ah,ai,aB,aC,aF,aH,aj,LS.at,LS.aT];refine .step (R1 47 _ rfl) (.store (a:=7) (b:=1) (by decide) (by decide) (L.s).1 (L.s).2.1 (L.s).2.2) ?_;dsimp only[ay,az,ax,au,ak,aD,aG,aA,ah,ai,aB,aC,aF,aH,aj,LS.at,LS.aT];have:=vI (r0:=r0) (r1:=v) (r2:=a.v) (r3:=r3) (r4:=r4) (r5:=r5) (r6:=r6) (a:={a with op:=a.op+1,sum:=v}) X hl (B.more _ _) hh (Nat.succ_le_of_lt (bE.1 ho).1) (F1.XJ L B.len v);rw[show({a with op:=a.op+1,sum:=v}:aO).op=a.op+1 from rfl,show({a with op:=a.op+1,sum:=v}:aO).row=a.row from rfl,aae ho hk] at this;exact this
theorem V7 (X:Ctx t lo hi rs) (hl:rs[a.row]? =some l) (B:tQ t.words C a) (hh:∀k,a.held k=false) (ho:l[a.op]? =some o) (hk:o.kind≠2) (hx:1<=a.x/\a.x<=t.words) (hr:place a.log a.x<a.log.length\/a.log.length<64) (F:wH t {a with log:=kz a.log a.x a.v} 0 pv):
  dX (bI t rs) lo hi (vU t rs ({a with op:=a.op+1,log:=kz a.log a.x a.v}.bL l)) (250+23*(kz a.log a.x a.v).length) ⟨b_ rs a.row+9+aS (l.take a.op)+33,r0,r1,r2,r3,r4,r5,r6,0,pv⟩:=by
 obtain⟨H,F1,hH,hb⟩:=id F;obtain rfl:H=0:=MV hH (by decide) (fun i hi=>by rw[hb i (Nat.zero_le _) hi];simp only;rw[hh i];simp);obtain⟨p1,p2,p3⟩:=Nh (v:=a.v) B.len B.keys B.tJ hr hx;have:=vI (r0:=r0) (r1:=r1) (r2:=r2) (r3:=r3) (r4:=r4) (r5:=r5) (r6:=r6) (a:={a with op:=a.op+1,log:=kz a.log a.x a.v}) X hl ⟨p1,p2,p3,B.rd,B.bX,B.fin,B.old⟩ hh (Nat.succ_le_of_lt (bE.1 ho).1) F1;rw[show({a with op:=a.op+1,log:=kz a.log a.x a.v}:aO).op=a.op+1 from rfl,show({a with op:=a.op+1,log:=kz a.log a.x a.v}:aO).row=a.row from rfl,aaG ho hk] at this;exact this
theorem Ul {V:Int} (X:Ctx t lo hi rs) (hl:rs[a.row]? =some l) (ho:l[a.op]? =some o) (hk:o.kind=2) (F:wH t a 0 pv) (hV:0<=V/\V<9223372036854775808):
  dX (bI t rs) lo hi (vU t rs (if V%2≠0\/a.bX<V/2 then {a with pt:=.u6} else {a with pt:=.dat,l1:=V})) 11 ⟨b_ rs a.row+9+aS (l.take a.op)+20,(aV a.x:Int),a.x,r2,V,r4,t.words+2+(aV a.x:Int),r6,0,pv⟩:=by
 have L:=X.lay;have R:=bK t rs hl;have R1:=R.ops a.op o ho;rw[if_pos hk] at R1;obtain⟨H,F1,hH,hb⟩:=id F;refine .step (R1 20 _ rfl) (.move (a:=6) (b:=3) (by decide) (by decide)) ?_;dsimp only[ay,az,ax,au,ak,aD,aG,aA,ah,ai,aB,aC,aF,aH,aj,LS.at,LS.aT];refine .step (R1 21 _ rfl) (.set (a:=4) (by decide)) ?_;dsimp only[ay,az,ax,au,ak,aD,aG,aA,ah,ai,aB,aC,aF,aH,aj,LS.at,LS.aT];refine .step (R1 22 _ rfl) (.nQ (a:=6) (b:=4) (by decide) (by decide) (wJ _)) ?_;dsimp only[ay,az,ax,au,ak,aD,aG,aA,ah,ai,aB,aC,aF,aH,aj,LS.at,LS.aT];by_cases h1:V%2=0
 ·rw[h1];refine .step (R1 23 _ rfl) (.zero (a:=6) (by decide) (rfl)) ?_;dsimp only[ay,az,ax,au,ak,aD,aG,aA,ah,ai,aB,aC,aF,aH,aj,LS.at,LS.aT];refine .step (R1 25 _ rfl) (.move (a:=6) (b:=3) (by decide) (by decide)) ?_;dsimp only[ay,az,ax,au,ak,aD,aG,aA,ah,ai,aB,aC,aF,aH,aj,LS.at,LS.aT];refine .step (R1 26 _ rfl) (.set (a:=4) (by decide)) ?_;dsimp only[ay,az,ax,au,ak,aD,aG,aA,ah,ai,aB,aC,aF,aH,aj,LS.at,LS.aT];refine .step (R1 27 _ rfl) (.nQ (a:=6) (b:=4) (by decide) (by decide) (El hV)) ?_;dsimp only[ay,az,ax,au,ak,aD,aG,aA,ah,ai,aB,aC,aF,aH,aj,LS.at,LS.aT];refine .step (R1 28 _ rfl) (.load (a:=4) (b:=7) (by decide) (by decide) (L.b (by decide) (by decide)).1 (L.b (by decide) (by decide)).2.1 (L.b (by decide) (by decide)).2.2) ?_;dsimp only[ay,az,ax,au,ak,aD,aG,aA,ah,ai,aB,aC,aF,aH,aj,LS.at,LS.aT];rw[F1.bX];by_cases h2:a.bX<V/2
  ·rw[if_pos (.inr h2)];refine .step (R1 29 _ rfl) (.nQ (a:=4) (b:=6) (by decide) (by decide) (vo (h2))) ?_;dsimp only[ay,az,ax,au,ak,aD,aG,aA,ah,ai,aB,aC,aF,aH,aj,LS.at,LS.aT];refine .step (R1 30 _ rfl) (.more (a:=4) (by decide) (Int.one_ne_zero)) ?_;dsimp only[ay,az,ax,au,ak,aD,aG,aA,ah,ai,aB,aC,aF,aH,aj,LS.at,LS.aT];refine .step (R1 31 _ rfl) (.jump) ?_;dsimp only[ay,az,ax,au,ak,aD,aG,aA,ah,ai,aB,aC,aF,aH,aj,LS.at,LS.aT];exact .here (.inr (.inr ⟨l,hl,_,_,_,_,_,_,_,_,rfl⟩))
  ·rw[if_neg (fun q=>q.elim (fun q=>q rfl) h2)];refine .step (R1 29 _ rfl) (.nQ (a:=4) (b:=6) (by decide) (by decide) (BD (h2))) ?_;dsimp only[ay,az,ax,au,ak,aD,aG,aA,ah,ai,aB,aC,aF,aH,aj,LS.at,LS.aT];refine .step (R1 30 _ rfl) (.zero (a:=4) (by decide) (rfl)) ?_;dsimp only[ay,az,ax,au,ak,aD,aG,aA,ah,ai,aB,aC,aF,aH,aj,LS.at,LS.aT];exact .here (.inr (.inr ⟨l,hl,o,_,_,_,_,ho,hk,rfl,F⟩))
 ·rw[if_pos (.inl h1)];refine .step (R1 23 _ rfl) (.more (a:=6) (by decide) (h1)) ?_;dsimp only[ay,az,ax,au,ak,aD,aG,aA,ah,ai,aB,aC,aF,aH,aj,LS.at,LS.aT];refine .step (R1 24 _ rfl) (.jump) ?_;dsimp only[ay,az,ax,au,ak,aD,aG,aA,ah,ai,aB,aC,aF,aH,aj,LS.at,LS.aT];exact .here (.inr (.inr ⟨l,hl,_,_,_,_,_,_,_,_,rfl⟩))
theorem RI {V:Int} (X:Ctx t lo hi rs) (hl:rs[a.row]? =some l) (B:tQ t.words C a) (ho:l[a.op]? =some o) (hk:o.kind=2) (F:wH t a 0 pv) (hV:0<=V/\V<9223372036854775808) (hL:0<=a.l1/\a.l1<9223372036854775808):
  dX (bI t rs) lo hi (vU t rs (if V=a.l1 then {a with pt:=.rd,reads:=a.reads|||1<<<aV a.x} else {a with pt:=.u6})) 8 ⟨b_ rs a.row+9+aS (l.take a.op)+34,(aV a.x:Int),a.x,a.v,a.l1,V,t.words+2+(aV a.x:Int),r6,0,pv⟩:=by
 have L:=X.lay;have R:=bK t rs hl;have R1:=R.ops a.op o ho;rw[if_pos hk] at R1;obtain⟨H,F1,hH,hb⟩:=id F;refine .step (R1 34 _ rfl) (.nQ (a:=4) (b:=3) (by decide) (by decide) (qH (eT (x:=V - a.l1) (by omega)))) ?_;dsimp only[ay,az,ax,au,ak,aD,aG,aA,ah,ai,aB,aC,aF,aH,aj,LS.at,LS.aT];by_cases h1:V=a.l1
 ·rw[if_pos h1,h1,Int.sub_self];have hs:=bO a.x;refine .step (R1 35 _ rfl) (.zero (a:=4) (by decide) (rfl)) ?_;dsimp only[ay,az,ax,au,ak,aD,aG,aA,ah,ai,aB,aC,aF,aH,aj,LS.at,LS.aT];refine .step (R1 37 _ rfl) (.set (a:=4) (by decide)) ?_;dsimp only[ay,az,ax,au,ak,aD,aG,aA,ah,ai,aB,aC,aF,aH,aj,LS.at,LS.aT];refine .step (R1 38 _ rfl) (.nQ (a:=4) (b:=0) (by decide) (by decide) (Dm hs)) ?_;dsimp only[ay,az,ax,au,ak,aD,aG,aA,ah,ai,aB,aC,aF,aH,aj,LS.at,LS.aT];refine .step (R1 39 _ rfl) (.load (a:=6) (b:=7) (by decide) (by decide) (L.b (by decide) (by decide)).1 (L.b (by decide) (by decide)).2.1 (L.b (by decide) (by decide)).2.2) ?_;dsimp only[ay,az,ax,au,ak,aD,aG,aA,ah,ai,aB,aC,aF,aH,aj,LS.at,LS.aT];rw[F1.reads];refine .step (R1 40 _ rfl) (.nQ (a:=6) (b:=4) (by decide) (by decide) (Gz B.rd (sw hs))) ?_;dsimp only[ay,az,ax,au,ak,aD,aG,aA,ah,ai,aB,aC,aF,aH,aj,LS.at,LS.aT];refine .step (R1 41 _ rfl) (.store (a:=7) (b:=6) (by decide) (by decide) (L.b (by decide) (by decide)).1 (L.b (by decide) (by decide)).2.1 (L.b (by decide) (by decide)).2.2) ?_;dsimp only[ay,az,ax,au,ak,aD,aG,aA,ah,ai,aB,aC,aF,aH,aj,LS.at,LS.aT];refine .step (R1 42 _ rfl) (.jump) ?_;dsimp only[ay,az,ax,au,ak,aD,aG,aA,ah,ai,aB,aC,aF,aH,aj,LS.at,LS.aT];refine .here (.inr (.inr ⟨l,hl,o,_,_,_,_,_,_,ho,hk,rfl,H,?_,hH,hb⟩));rw[Nat.one_shiftLeft];exact F1.TC L B.len _
 ·rw[if_neg h1];refine .step (R1 35 _ rfl) (.more (a:=4) (by decide) ((show V - a.l1≠0 by omega))) ?_;dsimp only[ay,az,ax,au,ak,aD,aG,aA,ah,ai,aB,aC,aF,aH,aj,LS.at,LS.aT];refine .step (R1 36 _ rfl) (.jump) ?_;dsimp only[ay,az,ax,au,ak,aD,aG,aA,ah,ai,aB,aC,aF,aH,aj,LS.at,LS.aT];exact .here (.inr (.inr ⟨l,hl,_,_,_,_,_,_,_,_,rfl⟩))
theorem Sl {V:Int} (X:Ctx t lo hi rs) (hl:rs[a.row]? =some l) (F:wH t a 0 pv) (O:Ol t a pv) (hn:pv (t.base+7)=(needs a.log:Int)):
  dX (bI t rs) lo hi (vU t rs (if V%2≠0 then a.bJ 0 else {a with pt:=.zw,l1:=V})) 216 ⟨b_ rs a.row+9+aS l+32,r0,r1,r2,V,r4,t.words+2+(a.s:Int),(a.s:Int),0,pv⟩:=by
 have L:=X.lay;have R:=bK t rs hl;refine dX.le (k:=211+5) ?_ (by omega);refine .step (R.aL 32 _ rfl) (.move (a:=4) (b:=3) (by decide) (by decide)) ?_;dsimp only[ay,az,ax,au,ak,aD,aG,aA,ah,ai,aB,aC,aF,aH,aj,LS.at,LS.aT];refine .step (R.aL 33 _ rfl) (.set (a:=2) (by decide)) ?_;dsimp only[ay,az,ax,au,ak,aD,aG,aA,ah,ai,aB,aC,aF,aH,aj,LS.at,LS.aT];refine .step (R.aL 34 _ rfl) (.nQ (a:=4) (b:=2) (by decide) (by decide) (wJ _)) ?_;dsimp only[ay,az,ax,au,ak,aD,aG,aA,ah,ai,aB,aC,aF,aH,aj,LS.at,LS.aT];by_cases h1:V%2=0
 ·rw[if_neg (fun q=>q h1),h1];refine .step (R.aL 35 _ rfl) (.zero (a:=4) (by decide) (rfl)) ?_;dsimp only[ay,az,ax,au,ak,aD,aG,aA,ah,ai,aB,aC,aF,aH,aj,LS.at,LS.aT];refine .step (R.aL 37 _ rfl) (.move (a:=4) (b:=3) (by decide) (by decide)) ?_;dsimp only[ay,az,ax,au,ak,aD,aG,aA,ah,ai,aB,aC,aF,aH,aj,LS.at,LS.aT];refine .step (R.aL 38 _ rfl) (.set (a:=2) (by decide)) ?_;dsimp only[ay,az,ax,au,ak,aD,aG,aA,ah,ai,aB,aC,aF,aH,aj,LS.at,LS.aT];exact .here (.inr (.inr ⟨l,hl,_,_,_,rfl,F,O,hn⟩))
 ·rw[if_pos h1];refine .step (R.aL 35 _ rfl) (.more (a:=4) (by decide) (h1)) ?_;dsimp only[ay,az,ax,au,ak,aD,aG,aA,ah,ai,aB,aC,aF,aH,aj,LS.at,LS.aT];refine .step (R.aL 36 _ rfl) (.jump) ?_;dsimp only[ay,az,ax,au,ak,aD,aG,aA,ah,ai,aB,aC,aF,aH,aj,LS.at,LS.aT];exact wG X hl F O
theorem Q9 {V:Int} (X:Ctx t lo hi rs) (hl:rs[a.row]? =some l) (hlen:a.log.length<=64) (hs:a.s<16) (h16:∀k,a.held k=true->k<16) (hno:a.held a.s=false) (F:wH t a 0 pv) (O:Ol t a pv) (hn:pv (t.base+7)=(needs a.log:Int)) (hV:0<=V/\V<9223372036854775808) (hL:0<=a.l1/\a.l1<9223372036854775808):
  dX (bI t rs) lo hi (vU t rs (if V=a.l1 then({a with held:=upd a.held a.s true,old:=upd a.old a.s a.l1}.cu (a.s+1)) else a.bJ 0)) 224 ⟨b_ rs a.row+9+aS l+40,r0,r1,r2,a.l1,V,t.words+2+(a.s:Int),(a.s:Int),0,pv⟩:=by
 have L:=X.lay;have R:=bK t rs hl;obtain⟨H,F1,hH,hb⟩:=id F;have hb1:=L.base;have hb2:=L.log;refine dX.le (k:=210+14) ?_ (by omega);refine .step (R.aL 40 _ rfl) (.nQ (a:=4) (b:=3) (by decide) (by decide) (qH (eT (x:=V - a.l1) (by omega)))) ?_;dsimp only[ay,az,ax,au,ak,aD,aG,aA,ah,ai,aB,aC,aF,aH,aj,LS.at,LS.aT];by_cases h1:V=a.l1
 ·rw[if_pos h1,h1,Int.sub_self];refine .step (R.aL 41 _ rfl) (.zero (a:=4) (by decide) (rfl)) ?_;dsimp only[ay,az,ax,au,ak,aD,aG,aA,ah,ai,aB,aC,aF,aH,aj,LS.at,LS.aT];refine .step (R.aL 43 _ rfl) (.move (a:=5) (b:=6) (by decide) (by decide)) ?_;dsimp only[ay,az,ax,au,ak,aD,aG,aA,ah,ai,aB,aC,aF,aH,aj,LS.at,LS.aT];refine .step (R.aL 44 _ rfl) (.set (a:=4) (by decide)) ?_;dsimp only[ay,az,ax,au,ak,aD,aG,aA,ah,ai,aB,aC,aF,aH,aj,LS.at,LS.aT];refine .step (R.aL 45 _ rfl) (.nQ (a:=5) (b:=4) (by decide) (by decide) (dR (L.o5 hs))) ?_;dsimp only[ay,az,ax,au,ak,aD,aG,aA,ah,ai,aB,aC,aF,aH,aj,LS.at,LS.aT];refine .step (R.aL 46 _ rfl) (.store (a:=5) (b:=3) (by decide) (by decide) (L.o hs).1 (L.o hs).2.1 (L.o hs).2.2) ?_;dsimp only[ay,az,ax,au,ak,aD,aG,aA,ah,ai,aB,aC,aF,aH,aj,LS.at,LS.aT];refine .step (R.aL 47 _ rfl) (.set (a:=4) (by decide)) ?_;dsimp only[ay,az,ax,au,ak,aD,aG,aA,ah,ai,aB,aC,aF,aH,aj,LS.at,LS.aT];refine .step (R.aL 48 _ rfl) (.nQ (a:=4) (b:=6) (by decide) (by decide) (Dm hs)) ?_;dsimp only[ay,az,ax,au,ak,aD,aG,aA,ah,ai,aB,aC,aF,aH,aj,LS.at,LS.aT];refine .step (R.aL 49 _ rfl) (.load (a:=3) (b:=7) (by decide) (by decide) (L.b (by decide) (by decide)).1 (L.b (by decide) (by decide)).2.1 (L.b (by decide) (by decide)).2.2) ?_;dsimp only[ay,az,ax,au,ak,aD,aG,aA,ah,ai,aB,aC,aF,aH,aj,LS.at,LS.aT];rw[aW _ (show t.base+6≠t.base+8+(a.s:Int) by omega),F1.held];refine .step (R.aL 50 _ rfl) (.nQ (a:=3) (b:=4) (by decide) (by decide) (Gz hH (sw hs))) ?_;dsimp only[ay,az,ax,au,ak,aD,aG,aA,ah,ai,aB,aC,aF,aH,aj,LS.at,LS.aT];refine .step (R.aL 51 _ rfl) (.store (a:=7) (b:=3) (by decide) (by decide) (L.b (by decide) (by decide)).1 (L.b (by decide) (by decide)).2.1 (L.b (by decide) (by decide)).2.2) ?_;dsimp only[ay,az,ax,au,ak,aD,aG,aA,ah,ai,aB,aC,aF,aH,aj,LS.at,LS.aT];refine .step (R.aL 52 _ rfl) (.set (a:=3) (by decide)) ?_;dsimp only[ay,az,ax,au,ak,aD,aG,aA,ah,ai,aB,aC,aF,aH,aj,LS.at,LS.aT];refine .step (R.aL 53 _ rfl) (.nQ (a:=6) (b:=3) (by decide) (by decide) (dR (r9 (a:=a.s) (by omega)))) ?_;dsimp only[ay,az,ax,au,ak,aD,aG,aA,ah,ai,aB,aC,aF,aH,aj,LS.at,LS.aT];refine .step (R.aL 54 _ rfl) (.jump) ?_;dsimp only[ay,az,ax,au,ak,aD,aG,aA,ah,ai,aB,aC,aF,aH,aj,LS.at,LS.aT];have F2:=(F1.other (a:=t.base+8+(a.s:Int)) (v:=a.l1) L hlen (.inr (.inr ⟨by omega,by omega⟩))).UR L hlen (H|||2 ^ a.s);refine(Em (s:=a.s+1) (a:={a with held:=upd a.held a.s true,old:=upd a.old a.s a.l1}) X hl ⟨H|||2 ^ a.s,F2,Nat.or_lt_two_pow (n:=16) hH (sw hs),fun k _ hk=>?_⟩ (fun k hk=>?_) ?_ (by omega)).le (by omega)
  ·rw[Nat.testBit_or,hb k (Nat.zero_le _) hk,Nat.testBit_two_pow];simp only[bN];by_cases e:k=a.s
   ·subst e;simp
   ·rw[if_neg e];simp[show ¬a.s=k from fun q=>e q.symm]
  ·simp only[bN] at hk⊢;rw[aW _ (show t.base+8+(k:Int)≠t.base+6 by omega)];by_cases e:k=a.s
   ·subst e;rw[if_pos rfl,gu]
   ·rw[if_neg e] at hk⊢;rw[aW _ (by omega)];exact O k hk
  ·rw[aW _ (by omega),aW _ (by omega)];exact hn
 ·rw[if_neg h1];refine .step (R.aL 41 _ rfl) (.more (a:=4) (by decide) ((show V - a.l1≠0 by omega))) ?_;dsimp only[ay,az,ax,au,ak,aD,aG,aA,ah,ai,aB,aC,aF,aH,aj,LS.at,LS.aT];refine .step (R.aL 42 _ rfl) (.jump) ?_;dsimp only[ay,az,ax,au,ak,aD,aG,aA,ah,ai,aB,aC,aF,aH,aj,LS.at,LS.aT];exact(wG X hl F O).le (by omega)
theorem OB {c:Int} (X:Ctx t lo hi rs) (hl:rs[a.row]? =some l) (B:tQ t.words C a) (F:wH t a 0 pv) (O:Ol t a pv) (hc:0<=c/\c<2305843009213693951):
  dX (bI t rs) lo hi (vU t rs ({a with new:=c+1}.cz 0)) 219 ⟨b_ rs a.row+9+aS l+57,r0,c,r2,r3,r4,r5,r6,0,pv⟩:=by
 have L:=X.lay;have R:=bK t rs hl;obtain⟨H,F1,hH,hb⟩:=id F;have hb1:=L.base;have hb2:=L.log;refine dX.le (k:=210+9) ?_ (by omega);refine .step (R.aL 57 _ rfl) (.set (a:=4) (by decide)) ?_;dsimp only[ay,az,ax,au,ak,aD,aG,aA,ah,ai,aB,aC,aF,aH,aj,LS.at,LS.aT];refine .step (R.aL 58 _ rfl) (.nQ (a:=1) (b:=4) (by decide) (by decide) (dR (eT (x:=c+1) (by omega)))) ?_;dsimp only[ay,az,ax,au,ak,aD,aG,aA,ah,ai,aB,aC,aF,aH,aj,LS.at,LS.aT];refine .step (R.aL 59 _ rfl) (.store (a:=7) (b:=1) (by decide) (by decide) (L.b (by decide) (by decide)).1 (L.b (by decide) (by decide)).2.1 (L.b (by decide) (by decide)).2.2) ?_;dsimp only[ay,az,ax,au,ak,aD,aG,aA,ah,ai,aB,aC,aF,aH,aj,LS.at,LS.aT];refine .step (R.aL 60 _ rfl) (.move (a:=2) (b:=1) (by decide) (by decide)) ?_;dsimp only[ay,az,ax,au,ak,aD,aG,aA,ah,ai,aB,aC,aF,aH,aj,LS.at,LS.aT];refine .step (R.aL 61 _ rfl) (.set (a:=4) (by decide)) ?_;dsimp only[ay,az,ax,au,ak,aD,aG,aA,ah,ai,aB,aC,aF,aH,aj,LS.at,LS.aT];refine .step (R.aL 62 _ rfl) (.nQ (a:=2) (b:=4) (by decide) (by decide) (vo ((by omega:c+1<2305843009213693952)))) ?_;dsimp only[ay,az,ax,au,ak,aD,aG,aA,ah,ai,aB,aC,aF,aH,aj,LS.at,LS.aT];refine .step (R.aL 63 _ rfl) (.more (a:=2) (by decide) (Int.one_ne_zero)) ?_;dsimp only[ay,az,ax,au,ak,aD,aG,aA,ah,ai,aB,aC,aF,aH,aj,LS.at,LS.aT];refine .step (R.aL 64 _ rfl) (.jump) ?_;dsimp only[ay,az,ax,au,ak,aD,aG,aA,ah,ai,aB,aC,aF,aH,aj,LS.at,LS.aT];refine .step (R.aL 66 _ rfl) (.set (a:=6) (by decide)) ?_;dsimp only[ay,az,ax,au,ak,aD,aG,aA,ah,ai,aB,aC,aF,aH,aj,LS.at,LS.aT];refine(Js (s:=0) (a:={a with new:=c+1}) X hl B.rd ⟨H,F1.other L B.len (.inr (.inr ⟨by omega,by omega⟩)),hH,hb⟩ (fun k hk=>?_) (gu _ _ _) (by decide)).le (by omega);rw[aW _ (by omega)];exact O k hk
theorem TQ {V:Int} (X:Ctx t lo hi rs) (hl:rs[a.row]? =some l) (B:tQ t.words C a) (hs:a.s<16) (F:wH t a 0 pv) (O:Ol t a pv) (hn:pv (t.base+7)=a.new) (hV:0<=V/\V<9223372036854775808) (hO:V=2*t.th+1->a.held a.s=true) (hC:C<=2305843009213693952):
  dX (bI t rs) lo hi (vU t rs (if V%2=0 then(if a.bX<V/2 then a.bJ 0 else a.cz (a.s+1)) else if V=2*t.th+1 then(if a.bX<a.old a.s/2 then a.bJ 0 else a.cz (a.s+1)) else a.bJ 0)) 229 ⟨b_ rs a.row+9+aS l+80,r0,r1,V,r3,r4,t.words+2+(a.s:Int),(a.s:Int),0,pv⟩:=by
 have L:=X.lay;have R:=bK t rs hl;have hth:=L.th;obtain⟨H,F1,hH,hb⟩:=id F;have rest:∀(U r3 r4 r5:Int),0<=U/\U<9223372036854775808->dX (bI t rs) lo hi (vU t rs (if a.bX<U/2 then a.bJ 0 else a.cz (a.s+1))) 218 ⟨b_ rs a.row+9+aS l+92,r0,r1,U,r3,r4,r5,(a.s:Int),0,pv⟩:=by
  intro U r3 r4 r5 hU;refine dX.le (k:=210+8) ?_ (by omega);refine .step (R.aL 92 _ rfl) (.set (a:=3) (by decide)) ?_;dsimp only[ay,az,ax,au,ak,aD,aG,aA,ah,ai,aB,aC,aF,aH,aj,LS.at,LS.aT];refine .step (R.aL 93 _ rfl) (.nQ (a:=2) (b:=3) (by decide) (by decide) (El hU)) ?_;dsimp only[ay,az,ax,au,ak,aD,aG,aA,ah,ai,aB,aC,aF,aH,aj,LS.at,LS.aT];refine .step (R.aL 94 _ rfl) (.load (a:=4) (b:=7) (by decide) (by decide) (L.b (by decide) (by decide)).1 (L.b (by decide) (by decide)).2.1 (L.b (by decide) (by decide)).2.2) ?_;dsimp only[ay,az,ax,au,ak,aD,aG,aA,ah,ai,aB,aC,aF,aH,aj,LS.at,LS.aT];rw[F1.bX];by_cases h2:a.bX<U/2
  ·rw[if_pos h2];refine .step (R.aL 95 _ rfl) (.nQ (a:=4) (b:=2) (by decide) (by decide) (vo (h2))) ?_;dsimp only[ay,az,ax,au,ak,aD,aG,aA,ah,ai,aB,aC,aF,aH,aj,LS.at,LS.aT];refine .step (R.aL 96 _ rfl) (.more (a:=4) (by decide) (Int.one_ne_zero)) ?_;dsimp only[ay,az,ax,au,ak,aD,aG,aA,ah,ai,aB,aC,aF,aH,aj,LS.at,LS.aT];refine .step (R.aL 97 _ rfl) (.jump) ?_;dsimp only[ay,az,ax,au,ak,aD,aG,aA,ah,ai,aB,aC,aF,aH,aj,LS.at,LS.aT];exact(wG X hl F O).le (by omega)
  ·rw[if_neg h2];refine .step (R.aL 95 _ rfl) (.nQ (a:=4) (b:=2) (by decide) (by decide) (BD (h2))) ?_;dsimp only[ay,az,ax,au,ak,aD,aG,aA,ah,ai,aB,aC,aF,aH,aj,LS.at,LS.aT];refine .step (R.aL 96 _ rfl) (.zero (a:=4) (by decide) (rfl)) ?_;dsimp only[ay,az,ax,au,ak,aD,aG,aA,ah,ai,aB,aC,aF,aH,aj,LS.at,LS.aT];refine .step (R.aL 98 _ rfl) (.set (a:=3) (by decide)) ?_;dsimp only[ay,az,ax,au,ak,aD,aG,aA,ah,ai,aB,aC,aF,aH,aj,LS.at,LS.aT];refine .step (R.aL 99 _ rfl) (.nQ (a:=6) (b:=3) (by decide) (by decide) (dR (r9 (a:=a.s) (by omega)))) ?_;dsimp only[ay,az,ax,au,ak,aD,aG,aA,ah,ai,aB,aC,aF,aH,aj,LS.at,LS.aT];refine .step (R.aL 100 _ rfl) (.jump) ?_;dsimp only[ay,az,ax,au,ak,aD,aG,aA,ah,ai,aB,aC,aF,aH,aj,LS.at,LS.aT];exact(Js (s:=a.s+1) X hl B.rd F O hn (by omega)).le (by omega)
 refine dX.le (k:=218+11) ?_ (by omega);refine .step (R.aL 80 _ rfl) (.move (a:=4) (b:=2) (by decide) (by decide)) ?_;dsimp only[ay,az,ax,au,ak,aD,aG,aA,ah,ai,aB,aC,aF,aH,aj,LS.at,LS.aT];refine .step (R.aL 81 _ rfl) (.set (a:=3) (by decide)) ?_;dsimp only[ay,az,ax,au,ak,aD,aG,aA,ah,ai,aB,aC,aF,aH,aj,LS.at,LS.aT];refine .step (R.aL 82 _ rfl) (.nQ (a:=4) (b:=3) (by decide) (by decide) (wJ _)) ?_;dsimp only[ay,az,ax,au,ak,aD,aG,aA,ah,ai,aB,aC,aF,aH,aj,LS.at,LS.aT];by_cases h1:V%2=0
 ·rw[if_pos h1,h1];refine .step (R.aL 83 _ rfl) (.zero (a:=4) (by decide) (rfl)) ?_;dsimp only[ay,az,ax,au,ak,aD,aG,aA,ah,ai,aB,aC,aF,aH,aj,LS.at,LS.aT];exact(rest V _ _ _ (by omega)).le (by omega)
 ·rw[if_neg h1];refine .step (R.aL 83 _ rfl) (.more (a:=4) (by decide) (h1)) ?_;dsimp only[ay,az,ax,au,ak,aD,aG,aA,ah,ai,aB,aC,aF,aH,aj,LS.at,LS.aT];refine .step (R.aL 84 _ rfl) (.set (a:=3) (by decide)) ?_;dsimp only[ay,az,ax,au,ak,aD,aG,aA,ah,ai,aB,aC,aF,aH,aj,LS.at,LS.aT];refine .step (R.aL 85 _ rfl) (.nQ (a:=2) (b:=3) (by decide) (by decide) (qH (eT (x:=V - (2*t.th+1)) (by omega)))) ?_;dsimp only[ay,az,ax,au,ak,aD,aG,aA,ah,ai,aB,aC,aF,aH,aj,LS.at,LS.aT];by_cases h2:V=2*t.th+1
  ·rw[if_pos h2];have hh:=hO h2;rw[show V - (2*t.th+1)=0 by omega];refine .step (R.aL 86 _ rfl) (.zero (a:=2) (by decide) (rfl)) ?_;dsimp only[ay,az,ax,au,ak,aD,aG,aA,ah,ai,aB,aC,aF,aH,aj,LS.at,LS.aT];refine .step (R.aL 88 _ rfl) (.move (a:=5) (b:=6) (by decide) (by decide)) ?_;dsimp only[ay,az,ax,au,ak,aD,aG,aA,ah,ai,aB,aC,aF,aH,aj,LS.at,LS.aT];refine .step (R.aL 89 _ rfl) (.set (a:=4) (by decide)) ?_;dsimp only[ay,az,ax,au,ak,aD,aG,aA,ah,ai,aB,aC,aF,aH,aj,LS.at,LS.aT];refine .step (R.aL 90 _ rfl) (.nQ (a:=5) (b:=4) (by decide) (by decide) (dR (L.o5 hs))) ?_;dsimp only[ay,az,ax,au,ak,aD,aG,aA,ah,ai,aB,aC,aF,aH,aj,LS.at,LS.aT];refine .step (R.aL 91 _ rfl) (.load (a:=2) (b:=5) (by decide) (by decide) (L.o hs).1 (L.o hs).2.1 (L.o hs).2.2) ?_;dsimp only[ay,az,ax,au,ak,aD,aG,aA,ah,ai,aB,aC,aF,aH,aj,LS.at,LS.aT];rw[O a.s hh];obtain⟨-, -,o3,o4⟩:=B.old a.s hh;have o5:a.old a.s<9223372036854775808:=by omega
   exact(rest (a.old a.s) _ _ _ ⟨o3,o5⟩).le (by omega)
  ·rw[if_neg h2];refine .step (R.aL 86 _ rfl) (.more (a:=2) (by decide) ((show V - (2*t.th+1)≠0 by omega))) ?_;dsimp only[ay,az,ax,au,ak,aD,aG,aA,ah,ai,aB,aC,aF,aH,aj,LS.at,LS.aT];refine .step (R.aL 87 _ rfl) (.jump) ?_;dsimp only[ay,az,ax,au,ak,aD,aG,aA,ah,ai,aB,aC,aF,aH,aj,LS.at,LS.aT];exact(wG X hl F O).le (by omega)
theorem Sn (X:Ctx t lo hi rs) (hl:rs[a.row]? =some l) (hlen:a.log.length<=64) (F:wH t a 0 pv) (hn:pv (t.base+7)=a.new) (hnew:0<=a.new/\a.new<=2305843009213693952):
  dX (bI t rs) lo hi (vU t rs (a.iB 0)) 216 ⟨b_ rs a.row+9+aS l+104,r0,r1,r2,r3,r4,r5,r6,0,pv⟩:=by
 have L:=X.lay;have R:=bK t rs hl;obtain⟨H,F1,hH,hb⟩:=id F;refine dX.le (k:=214+2) ?_ (by omega);refine .step (R.aL 104 _ rfl) (.load (a:=6) (b:=7) (by decide) (by decide) (L.b (by decide) (by decide)).1 (L.b (by decide) (by decide)).2.1 (L.b (by decide) (by decide)).2.2) ?_;dsimp only[ay,az,ax,au,ak,aD,aG,aA,ah,ai,aB,aC,aF,aH,aj,LS.at,LS.aT];rw[F1.cnt];refine .step (R.aL 105 _ rfl) (.set (a:=5) (by decide)) ?_;dsimp only[ay,az,ax,au,ak,aD,aG,aA,ah,ai,aB,aC,aF,aH,aj,LS.at,LS.aT];have:=MW (i:=0) (r0:=r0) (r1:=r1) (r2:=r2) (r3:=r3) (r4:=r4) X hl hlen F hn hnew (Nat.zero_le _);simpa using this
theorem TH (X:Ctx t lo hi rs) (hl:rs[a.row]? =some l) (hlen:a.log.length<=64) (F:wH t a 0 pv) (hn:pv (t.base+7)=a.new) (hnew:0<=a.new/\a.new<=2305843009213693952) (hil:a.i<a.log.length) (x v:Int):
  dX (bI t rs) lo hi (vU t rs ({a with buf:=a.buf++[fF.dat x v]}.iB (a.i+1))) 219 ⟨b_ rs a.row+9+aS l+110,r0,r1,r2,r3,r4,t.log+2*(a.i:Int),((a.log.length - a.i:Nat):Int),0,pv⟩:=by
 have L:=X.lay;have R:=bK t rs hl;refine dX.le (k:=214+5) ?_ (by omega);have hw:fq (t.log+2*(a.i:Int)+2)=t.log+2*((a.i+1:Nat):Int):=by
  obtain⟨l1,l2,l3,l4,l5,l6,l7,l8⟩:=L;rw[eT (by omega)];omega
 have hw2:fq (((a.log.length - a.i:Nat):Int) - 1)=((a.log.length - (a.i+1):Nat):Int):=by rw[eT (by omega)];omega
 refine .step (R.aL 110 _ rfl) (.set (a:=4) (by decide)) ?_;dsimp only[ay,az,ax,au,ak,aD,aG,aA,ah,ai,aB,aC,aF,aH,aj,LS.at,LS.aT];refine .step (R.aL 111 _ rfl) (.nQ (a:=5) (b:=4) (by decide) (by decide) (dR (hw))) ?_;dsimp only[ay,az,ax,au,ak,aD,aG,aA,ah,ai,aB,aC,aF,aH,aj,LS.at,LS.aT];refine .step (R.aL 112 _ rfl) (.set (a:=4) (by decide)) ?_;dsimp only[ay,az,ax,au,ak,aD,aG,aA,ah,ai,aB,aC,aF,aH,aj,LS.at,LS.aT];refine .step (R.aL 113 _ rfl) (.nQ (a:=6) (b:=4) (by decide) (by decide) (qH (hw2))) ?_;dsimp only[ay,az,ax,au,ak,aD,aG,aA,ah,ai,aB,aC,aF,aH,aj,LS.at,LS.aT];refine .step (R.aL 114 _ rfl) (.jump) ?_;dsimp only[ay,az,ax,au,ak,aD,aG,aA,ah,ai,aB,aC,aF,aH,aj,LS.at,LS.aT];exact MW (i:=a.i+1) (a:={a with buf:=a.buf++[fF.dat x v]}) X hl hlen F hn hnew (by simp only;omega)
theorem Pv (X:Ctx t lo hi rs) (hl:rs[a.row]? =some l) (F:wH t a a.s pv) (hs:a.s<16) (b:List fF):
  dX (bI t rs) lo hi (vU t rs ({a with buf:=b,held:=upd a.held a.s false}.dV (a.s+1))) 213 ⟨b_ rs a.row+9+aS l+131,r0,2*a.new,r2,r3,r4,r5,(a.s:Int),0,pv⟩:=by
 have R:=bK t rs hl;obtain⟨H,F1,hH,hb⟩:=id F;refine dX.le (k:=210+3) ?_ (by omega);refine .step (R.aL 131 _ rfl) (.set (a:=3) (by decide)) ?_;dsimp only[ay,az,ax,au,ak,aD,aG,aA,ah,ai,aB,aC,aF,aH,aj,LS.at,LS.aT];refine .step (R.aL 132 _ rfl) (.nQ (a:=6) (b:=3) (by decide) (by decide) (dR (r9 (a:=a.s) (by omega)))) ?_;dsimp only[ay,az,ax,au,ak,aD,aG,aA,ah,ai,aB,aC,aF,aH,aj,LS.at,LS.aT];refine .step (R.aL 133 _ rfl) (.jump) ?_;dsimp only[ay,az,ax,au,ak,aD,aG,aA,ah,ai,aB,aC,aF,aH,aj,LS.at,LS.aT];exact JN (s:=a.s+1) (a:={a with buf:=b,held:=upd a.held a.s false}) X hl ⟨H,F1,hH,fun k h1 h2=>by
  rw[hb k (by omega) h2];simp only[bN];rw[if_neg (by omega)]⟩ (by omega)
theorem PN (X:Ctx t lo hi rs) (hl:rs[a.row]? =some l) (F:wH t a a.s pv) (O:Ol t a pv) (hs:a.s<16) (b:List fF):
  dX (bI t rs) lo hi (vU t rs ({a with buf:=b,held:=upd a.held a.s false}.bJ (a.s+1))) 213 ⟨b_ rs a.row+9+aS l+153,r0,r1,r2,r3,r4,r5,(a.s:Int),0,pv⟩:=by
 have R:=bK t rs hl;obtain⟨H,F1,hH,hb⟩:=id F;refine dX.le (k:=210+3) ?_ (by omega);refine .step (R.aL 153 _ rfl) (.set (a:=3) (by decide)) ?_;dsimp only[ay,az,ax,au,ak,aD,aG,aA,ah,ai,aB,aC,aF,aH,aj,LS.at,LS.aT];refine .step (R.aL 154 _ rfl) (.nQ (a:=6) (b:=3) (by decide) (by decide) (dR (r9 (a:=a.s) (by omega)))) ?_;dsimp only[ay,az,ax,au,ak,aD,aG,aA,ah,ai,aB,aC,aF,aH,aj,LS.at,LS.aT];refine .step (R.aL 155 _ rfl) (.jump) ?_;dsimp only[ay,az,ax,au,ak,aD,aG,aA,ah,ai,aB,aC,aF,aH,aj,LS.at,LS.aT];exact Hw (s:=a.s+1) (a:={a with buf:=b,held:=upd a.held a.s false}) X hl ⟨H,F1,hH,fun k h1 h2=>by
  rw[hb k (by omega) h2];simp only[bN];rw[if_neg (by omega)]⟩ (fun k hk=>by
  simp only[bN] at hk;by_cases e:k=a.s
  ·rw[if_pos e] at hk;cases hk
  ·rw[if_neg e] at hk;exact O k hk) (by omega)
theorem QO (X:Ctx t lo hi rs) (hl:rs[a.row]? =some l):dX (bI t rs) lo hi (vU t rs {a with pt:=.look}) 9 ⟨b_ rs a.row+182+aS l,r0,r1,r2,r3,r4,r5,r6,0,pv⟩:=by
 have L:=X.lay;have R:=bK t rs hl;rw[show b_ rs a.row+182+aS l=b_ rs a.row+178+aS l+4 by omega];refine .step (R.tail 4 _ rfl) (.load (a:=1) (b:=7) (by decide) (by decide) (L.b (by decide) (by decide)).1 (L.b (by decide) (by decide)).2.1 (L.b (by decide) (by decide)).2.2) ?_;dsimp only[ay,az,ax,au,ak,aD,aG,aA,ah,ai,aB,aC,aF,aH,aj,LS.at,LS.aT];refine .step (R.tail 5 _ rfl) (.store (a:=7) (b:=1) (by decide) (by decide) (L.b (by decide) (by decide)).1 (L.b (by decide) (by decide)).2.1 (L.b (by decide) (by decide)).2.2) ?_;dsimp only[ay,az,ax,au,ak,aD,aG,aA,ah,ai,aB,aC,aF,aH,aj,LS.at,LS.aT];refine .step (R.tail 6 _ rfl) (.jump) ?_;dsimp only[ay,az,ax,au,ak,aD,aG,aA,ah,ai,aB,aC,aF,aH,aj,LS.at,LS.aT];exact JL X hl
theorem UT (X:Ctx t lo hi rs) (hl:rs[a.row]? =some l) (F:wH t a 0 pv):dX (bI t rs) lo hi (vU t rs {a with pt:=.out}) 4 ⟨b_ rs a.row+9+aS l+159,r0,r1,r2,r3,r4,r5,r6,0,pv⟩:=by
 obtain⟨H,F1,hH,hb⟩:=F;exact Ez X hl F1.prints F1.sum
theorem RO (X:Ctx t lo hi rs) (hl:rs[a.row]? =some l) (o':List Int):dX (bI t rs) lo hi (vU t rs ({a with row:=a.row+1,out:=o'}.fu rs)) 7 ⟨b_ rs a.row+9+aS l+171,r0,r1,r2,r3,r4,r5,r6,0,pv⟩:=by
 have R:=bK t rs hl;rw[show b_ rs a.row+9+aS l+171=b_ rs a.row+178+aS l+2 by omega];refine .step (R.tail 2 _ rfl) (.jump) ?_;dsimp only[ay,az,ax,au,ak,aD,aG,aA,ah,ai,aB,aC,aF,aH,aj,LS.at,LS.aT];rw[<-Oc hl];exact E8 (a:={a with row:=a.row+1,out:=o'}) X (Nat.succ_le_of_lt (bE.1 hl).1)
end
section
structure zB where
 N:Nat
 words:Int
 size:Int
 tx:Nat->dw
 rs:Nat->List (List Tx)
 lo:Nat->Int
 hi:Nat->Int
structure oH (W:zB):Prop where
 n:W.N<=4
 words:0<=W.words/\W.words<=262144
 ctx:∀n,n<W.N->Ctx (W.tx n) (W.lo n) (W.hi n) (W.rs n)
 wd:∀n,n<W.N->(W.tx n).words=W.words
 th:∀n,n<W.N->(W.tx n).th=n
 size:∀n,n<W.N->W.hi n<=W.size
 apart:∀n k,n<W.N->k<W.N->n≠k->W.hi n<=W.lo k\/W.hi k<=W.lo n
def fF.cell (words:Int):fF->Int×Int
 |.dat x v=>(x,v)
 |.lock s v=>(words+2+(s:Int),v)
structure M7 (W:zB) (mm:MM) (n:Nat) (t:MT) (a:aO) (k:Nat):Prop where
 code:t.code=bI (W.tx n) (W.rs n)
 out:t.out=a.out
 fin:t.fin=a.fin
 oC:0<=t.at_
 wait:t.wait.filter (fun c=>decide (c.1<W.words+18))=a.buf.map (fF.cell W.words)
 own:∀c∈t.wait,c.1<W.words+18\/W.lo n<=c.1/\c.1<W.hi n
 will:a.fin=0->dX (bI (W.tx n) (W.rs n)) (W.lo n) (W.hi n) (vU (W.tx n) (W.rs n) a) k (t.ls (W.lo n) (W.hi n) mm)
structure xm (W:zB) (mm:MM) (m:AS) (ks:Nat->Nat):Prop where
 n:mm.aM.length=W.N
 len:(mm.mem.length:Int)=W.size
 evs:mm.evs=m.evs
 data:∀x,1<=x->x<=W.words->mm.at x=m.data x
 clock:mm.at (W.words+1)=m.clock
 aN:∀s:Nat,s<16->mm.at (W.words+2+(s:Int))=m.aN s
 th:∀n t,mm.aM[n]? =some t->M7 W mm n t (m.aM n) (ks n)
variable {W:zB} {mm iZ:MM} {m:AS} {ks:Nat->Nat} {n k:Nat} {t t':MT} {a a':aO} {lo hi words:Int} {b:List fF}
theorem N9 (a:Int):jS [] a=none:=rfl
theorem Fu {p:Int×Int->Bool} {a:Int} (hp:∀c:Int×Int,c.1=a->p c=true) (q:List (Int×Int)):jS (q.filter p) a=jS q a:=by
 induction q using yM with
 |h0=>rfl
 |h1 q c ih=>
  obtain⟨x,v⟩:=c;rw[List.filter_append,gm];by_cases h:a=x
  ·subst h;rw[if_pos rfl,List.filter_cons_of_pos (hp _ rfl),List.filter_nil,gm,if_pos rfl]
  ·rw[if_neg h];by_cases hx:p (x,v)=true
   ·rw[List.filter_cons_of_pos hx,List.filter_nil,gm,if_neg h,ih]
   ·rw[List.filter_cons_of_neg hx,List.filter_nil,List.append_nil,ih]
theorem OZ (hb:∀x v,fF.dat x v∈b->x<=words) (s:Nat) (d:Int):(jS (b.map (fF.cell words)) (words+2+(s:Int))).getD d=b.foldl (sL s) d:=by
 induction b using yM with
 |h0=>rfl
 |h1 b e ih=>
  have ih:=ih (fun x v h=>hb x v (List.mem_append_left _ h));rw[List.map_append,List.foldl_append,List.map_cons,List.map_nil];cases e with
  |dat x v=>
   have:=hb x v (by simp);show(jS (_++[(x,v)]) _).getD d=_;rw[gm,if_neg (by omega),ih];rfl
  |lock k v=>
   show(jS (_++[(words+2+(k:Int),v)]) _).getD d=_;rw[gm];show _=if k=s then v else b.foldl (sL s) d
   by_cases e:k=s
   ·subst e;rw[if_pos rfl,if_pos rfl];rfl
   ·rw[if_neg (by omega),if_neg e,ih]
theorem Sc {x:Int} (hx:x<=words) (d:Int):(jS (b.map (fF.cell words)) x).getD d=b.foldl (sD x) d:=by
 induction b using yM with
 |h0=>rfl
 |h1 b e ih=>
  rw[List.map_append,List.foldl_append,List.map_cons,List.map_nil];cases e with
  |dat y v=>
   show(jS (_++[(y,v)]) _).getD d=_;rw[gm];show _=if y=x then v else b.foldl (sD x) d
   by_cases e:y=x
   ·subst e;rw[if_pos rfl,if_pos rfl];rfl
   ·rw[if_neg (fun q=>e q.symm),if_neg e,ih]
  |lock k v=>
   show(jS (_++[(words+2+(k:Int),v)]) _).getD d=_;rw[gm,if_neg (by omega),ih];rfl
theorem Tg (hb:∀x v,fF.dat x v∈b->x<=words):jS (b.map (fF.cell words)) (words+1)=none:=by
 induction b using yM with
 |h0=>rfl
 |h1 b e ih=>
  have ih:=ih (fun x v h=>hb x v (List.mem_append_left _ h));rw[List.map_append,List.map_cons,List.map_nil];cases e with
  |dat x v=>
   have:=hb x v (by simp);show jS (_++[(x,v)]) _=_;rw[gm,if_neg (by omega),ih]
  |lock k v=>
   show jS (_++[(words+2+(k:Int),v)]) _=_;rw[gm,if_neg (by omega),ih]
theorem nO.low {words C:Int} (h:nO words C a):∀x v,fF.dat x v∈a.buf->1<=x/\x<=words:=fun x v hx=>by
 obtain⟨l1,l2,e⟩:=List.append_of_mem hx;exact(h.dat l1 l2 x v e).1
theorem M7.found {C:Int} (h:M7 W mm n t a k) {x:Int} (hx:x<W.words+18):mm.found t x=(jS (a.buf.map (fF.cell W.words)) x).getD (mm.at x):=by
 unfold MM.found;rw[<-h.wait,Fu (fun c hc=>by simp[hc];omega)]
theorem xm.lock (h:xm W mm m ks) (ht:mm.aM[n]? =some t) {C:Int} (hb:nO W.words C (m.aM n)) {s:Nat} (hs:s<16):mm.found t (W.words+2+(s:Int))=dh (m.aM n).buf m.aN s:=by
 rw[(h.th n t ht).found (C:=C) (by omega),h.aN s hs];exact OZ (fun x v q=>(hb.low x v q).2) s _
theorem xm.dat (h:xm W mm m ks) (ht:mm.aM[n]? =some t) {x:Int} (hx:1<=x/\x<=W.words):mm.found t x=sU (m.aM n).buf m.data x:=by
 rw[(h.th n t ht).found (C:=0) (by omega),h.data x hx.1 hx.2];exact Sc hx.2 _
theorem xm.bX (h:xm W mm m ks) (ht:mm.aM[n]? =some t) {C:Int} (hb:nO W.words C (m.aM n)):mm.found t (W.words+1)=m.clock:=by
 rw[(h.th n t ht).found (C:=C) (by omega),Tg (fun x v q=>(hb.low x v q).2),h.clock];rfl
def MT.told (t:MT) (v:Int):MT:=⟨t.code,t.reg,t.at_+1,t.wait,t.out++[v],t.fin⟩
def MT.stored (t:MT) (x v:Int):MT:=⟨t.code,t.reg,t.at_+1,t.wait++[(x,v)],t.out,t.fin⟩
theorem QV (ht:mm.aM[n]? =some t) (hf:t.fin=0):mm.step n=mm.go n t:=by
 unfold MM.step MM.xq;rw[if_neg (by omega),Int.toNat_natCast,ht];simp only;rw[if_neg (by simp[hf])]
theorem NH (ht:mm.aM[n]? =some t) (hf:t.fin≠0):mm.step n=(false,mm):=by
 unfold MM.step MM.xq;rw[if_neg (by omega),Int.toNat_natCast,ht];simp only;rw[if_pos hf]
theorem O1 (hn:mm.aM.length<=n):mm.step n=(false,mm):=by
 unfold MM.step MM.xq;rw[if_neg (by omega),Int.toNat_natCast,List.getElem?_eq_none hn]
theorem yS {o:bM} (h0:0<=t.at_) (hc:t.code[t.at_.toNat]? =some o):(if t.at_<0 then none else t.code[t.at_.toNat]?)=some o:=by rw[if_neg (by omega)];exact hc
theorem yQ {c d j:Int} {p q:Nat} (h0:0<=t.at_) (hc:t.code[t.at_.toNat]? =some ⟨12,c,p,q,d,j⟩):mm.go n t=(true,(mm.put n t.next).tell n j (t.reg p) (t.reg q)):=by
 unfold MM.go;rw[yS h0 hc];simp[MT.word,MT.waits,MM.act,MT.r]
theorem Y7 {c d j q:Int} {p:Nat} (h0:0<=t.at_) (hc:t.code[t.at_.toNat]? =some ⟨11,c,p,q,d,j⟩):mm.go n t=(true,(mm.put n (t.told (t.reg p))).tell n 9 (t.reg p) 0):=by
 unfold MM.go;rw[yS h0 hc];simp[MT.word,MT.waits,MM.act,MT.r,MT.told,MT.next]
theorem VY {c d j p q:Int} (h0:0<=t.at_) (hc:t.code[t.at_.toNat]? =some ⟨13,c,p,q,d,j⟩):mm.go n t=(true,mm.stop n t j):=by
 unfold MM.go;rw[yS h0 hc];simp[MT.word,MT.waits,MM.act]
theorem V8 {c d j p q:Int} (h0:0<=t.at_) (hc:t.code[t.at_.toNat]? =some ⟨14,c,p,q,d,j⟩):mm.go n t=(true,mm.stop n t 1):=by
 unfold MM.go;rw[yS h0 hc];simp[MT.word,MT.waits,MM.act]
theorem yE {c d j x:Int} {p q:Nat} (h0:0<=t.at_) (hc:t.code[t.at_.toNat]? =some ⟨4,c,p,q,d,j⟩) (hx:fq (t.reg q+j)=x) (h1:0<=x) (h2:x<mm.mem.length):mm.go n t=(true,mm.put n (t.goes p (mm.found t x))):=by
 have hhas:mm.has x=true:=by simp only[MM.has,decide_eq_true_eq];omega
 unfold MM.go;rw[yS h0 hc];simp[MT.word,MT.waits,MM.act,MT.r,hx,hhas]
theorem UX {c d j x:Int} {p q:Nat} (h0:0<=t.at_) (hc:t.code[t.at_.toNat]? =some ⟨15,c,p,q,d,j⟩) (hx:fq (t.reg q+j)=x) (h1:0<=x) (h2:x<mm.mem.length):mm.go n t=(true,(mm.put n (t.goes p (mm.found t x))).tell n 1 (mm.found t x) 0):=by
 have hhas:mm.has x=true:=by simp only[MM.has,decide_eq_true_eq];omega
 unfold MM.go;rw[yS h0 hc];simp[MT.word,MT.waits,MM.act,MT.r,hx,hhas]
theorem Db {c d j x:Int} {p q:Nat} (h0:0<=t.at_) (hc:t.code[t.at_.toNat]? =some ⟨5,c,p,q,d,j⟩) (hx:fq (t.reg p+j)=x) (h1:0<=x) (h2:x<mm.mem.length):
  mm.go n t=(false,mm)/\64<=t.wait.length\/mm.go n t=(true,mm.put n (t.stored x (t.reg q))):=by
 have hhas:mm.has x=true:=by simp only[MM.has,decide_eq_true_eq];omega
 unfold MM.go;rw[yS h0 hc];by_cases hf:64<=t.wait.length
 ·left
  refine⟨?_,hf⟩;simp[MT.word,MT.waits,MT.r,hx,hhas,hf]
 ·right
  simp[MT.word,MT.waits,MM.act,MT.r,hx,hhas,hf,MT.stored,MT.next]
theorem Y1 {c j x:Int} {p q r:Nat} (h0:0<=t.at_) (hc:t.code[t.at_.toNat]? =some ⟨8,c,p,q,r,j⟩) (hx:fq (t.reg p+j)=x) (h1:0<=x) (h2:x<mm.mem.length):
  mm.go n t=(false,mm)/\t.wait≠[]\/t.wait=[]/\mm.go n t=(true,{mm with mem:=if mm.at x=t.reg q then mm.mem.set x.toNat (t.reg r) else mm.mem}.put n (t.goes q (mm.at x))):=by
 have hhas:mm.has x=true:=by simp only[MM.has,decide_eq_true_eq];omega
 unfold MM.go;rw[yS h0 hc];by_cases hf:t.wait=[]
 ·right
  refine⟨hf,?_⟩;simp[MT.word,MT.waits,MM.act,MT.r,hx,hhas,hf];rfl
 ·left
  refine⟨?_,hf⟩;have:0<t.wait.length:=List.length_pos_iff.2 hf;simp[MT.word,MT.waits,MT.r,hx,hhas,this]
theorem V4 {c d j x:Int} {p q:Nat} (h0:0<=t.at_) (hc:t.code[t.at_.toNat]? =some ⟨9,c,p,q,d,j⟩) (hx:fq (t.reg p+j)=x) (h1:0<=x) (h2:x<mm.mem.length):
  mm.go n t=(false,mm)/\t.wait≠[]\/t.wait=[]/\mm.go n t=(true,{mm with mem:=mm.mem.set x.toNat (fq (mm.at x+t.reg q))}.put n (t.goes q (mm.at x))):=by
 have hhas:mm.has x=true:=by simp only[MM.has,decide_eq_true_eq];omega
 unfold MM.go;rw[yS h0 hc];by_cases hf:t.wait=[]
 ·right
  refine⟨hf,?_⟩;simp[MT.word,MT.waits,MM.act,MT.r,hx,hhas,hf]
 ·left
  refine⟨?_,hf⟩;have:0<t.wait.length:=List.length_pos_iff.2 hf;simp[MT.word,MT.waits,MT.r,hx,hhas,this]
theorem Vi {iZ:MM} (h0:0<=t.at_) (hm:iZ.mem=mm.mem):t.next.ls lo hi iZ=(t.ls lo hi mm).at ((t.ls lo hi mm).pc+1):=by
 have hpc:(t.at_+1).toNat=t.at_.toNat+1:=by omega
 have hf:∀x,iZ.found t.next x=mm.found t x:=fun x=>by unfold MM.found MM.at;rw[hm];rfl
 simp only[MT.ls,LS.at,hf];simp only[MT.next,hpc]
theorem Kn {iZ:MM} (hm:iZ.mem=mm.mem) {q:MT} {x v:Int} (hq:q.wait=t.wait++[(x,v)]) {y:Int} (hy:y≠x):iZ.found q y=mm.found t y:=by
 unfold MM.found MM.at;rw[hm,hq,gm,if_neg hy]
theorem VN {iZ:MM} (h0:0<=t.at_) (hm:iZ.mem=mm.mem) (v:Int):(t.told v).ls lo hi iZ=(t.ls lo hi mm).at ((t.ls lo hi mm).pc+1):=by
 have hpc:(t.at_+1).toNat=t.at_.toNat+1:=by omega
 have hf:∀x,iZ.found (t.told v) x=mm.found t x:=fun x=>by unfold MM.found MM.at;rw[hm];rfl
 simp only[MT.ls,LS.at,hf];simp only[MT.told,hpc]
theorem QF {iZ:MM} (h0:0<=t.at_) (hm:iZ.mem=mm.mem) {x v:Int} (hx:¬(lo<=x/\x<hi)):(t.stored x v).ls lo hi iZ=(t.ls lo hi mm).at ((t.ls lo hi mm).pc+1):=by
 have hpc:(t.at_+1).toNat=t.at_.toNat+1:=by omega
 simp only[MT.ls,LS.at];simp only[MT.stored,hpc];congr 1
 funext y
 by_cases h:lo<=y/\y<hi
 ·rw[if_pos h,if_pos h];exact Kn hm rfl (fun e=>hx (by rw[<-e];exact h))
 ·rw[if_neg h,if_neg h]
theorem MC {iZ:MM} (hm:∀x,lo<=x->x<hi->iZ.at x=mm.at x):t.ls lo hi iZ=t.ls lo hi mm:=by
 unfold MT.ls;congr 1
 funext y
 by_cases h:lo<=y/\y<hi
 ·rw[if_pos h,if_pos h];unfold MM.found;rw[hm y h.1 h.2]
 ·rw[if_neg h,if_neg h]
theorem M7.mem {iZ:MM} (h:M7 W mm n t a k) (hm:∀x,W.lo n<=x->x<W.hi n->iZ.at x=mm.at x):M7 W iZ n t a k:=
 ⟨h.code,h.out,h.fin,h.oC,h.wait,h.own,fun hf=>by rw[MC hm];exact h.will hf⟩
theorem xm.put (h:xm W mm m ks) (hn:n<W.N) {evs:List Ev} (hS:M7 W ⟨mm.mem,mm.aM.set n t',evs⟩ n t' a' k):xm W ⟨mm.mem,mm.aM.set n t',evs⟩ ⟨m.data,m.clock,m.aN,upd m.aM n a',evs⟩ (upd ks n k):=by
 have hl:=h.n;refine⟨by simp[hl],h.len,rfl,h.data,h.clock,h.aN,fun j u hu=>?_⟩;simp only[bN];by_cases e:j=n
 ·subst e;rw[List.getElem?_set_self (by omega)] at hu;cases hu;rw[if_pos rfl,if_pos rfl];exact hS
 ·rw[List.getElem?_set_ne (fun q=>e q.symm)] at hu;rw[if_neg e,if_neg e];exact(h.th j u hu).mem (fun _ _ _=>rfl)
theorem wT {l:List Int} {aM:List MT} {evs:List Ev} {x y v:Int} (hx:0<=x) (hl:x<l.length) (hy:0<=y):(MM.mk (l.set x.toNat v) aM evs).at y=if y=x then v else(MM.mk l aM evs).at y:=by
 unfold MM.at;simp only[List.getD_eq_getElem?_getD];by_cases e:y=x
 ·subst e;rw[if_pos rfl,List.getElem?_set_self (by omega)];rfl
 ·rw[if_neg e,List.getElem?_set_ne (by omega)]
theorem xm.aT (h:xm W mm m ks) (ok:oH W) (hn:n<W.N) {x v:Int} {evs:List Ev} {D:Int->Int} {C:Int} {L:Nat->Int} (hx:1<=x/\x<W.words+18) (hl:x<mm.mem.length)
  (hD:∀y,1<=y->y<=W.words->D y=if y=x then v else m.data y) (hC:C=if W.words+1=x then v else m.clock) (hL:∀s:Nat,s<16->L s=if W.words+2+(s:Int)=x then v else m.aN s)
  (hS:M7 W ⟨mm.mem.set x.toNat v,mm.aM.set n t',evs⟩ n t' a' k):xm W ⟨mm.mem.set x.toNat v,mm.aM.set n t',evs⟩ ⟨D,C,L,upd m.aM n a',evs⟩ (upd ks n k):=by
 have hlen:=h.n;have hw:=ok.words;have hat:∀y,0<=y->(MM.mk (mm.mem.set x.toNat v) (mm.aM.set n t') evs).at y=if y=x then v else mm.at y:=fun y hy=>wT (by omega) hl hy
 refine⟨by simp[hlen],by simp[h.len],rfl,fun y h1 h2=>?_,?_,fun s hs=>?_,fun j u hu=>?_⟩
 ·show _=D y;rw[hat y (by omega),hD y h1 h2];split
  ·rfl
  ·exact h.data y h1 h2
 ·show _=C;rw[hat _ (by omega),hC];split
  ·rfl
  ·exact h.clock
 ·show _=L s;rw[hat _ (by omega),hL s hs];split
  ·rfl
  ·exact h.aN s hs
 ·simp only[bN];by_cases e:j=n
  ·subst e;rw[List.getElem?_set_self (by omega)] at hu;cases hu;rw[if_pos rfl,if_pos rfl];exact hS
  ·rw[List.getElem?_set_ne (fun q=>e q.symm)] at hu;rw[if_neg e,if_neg e];have hj:j<W.N:=by rw[<-hlen];exact(bE.1 hu).1
   have low:=(ok.ctx j hj).lay.low;have hwd:=ok.wd j hj;refine(h.th j u hu).mem (fun y hy _=>?_);rw[hat y (by omega),if_neg (by omega)]
end
section
variable {W:zB} {mm iZ:MM} {m:AS} {ks:Nat->Nat} {n k:Nat} {t t':MT} {a a':aO} {lo hi words:Int} {l:List Tx}
structure Same (a a':aO):Prop where
 buf:a'.buf=a.buf
 out:a'.out=a.out
 fin:a'.fin=a.fin
theorem Same.of (a a':aO) (h1:a'.buf=a.buf) (h2:a'.out=a.out) (h3:a'.fin=a.fin):Same a a':=⟨h1,h2,h3⟩
theorem Same.refl (a:aO):Same a a:=⟨rfl,rfl,rfl⟩
theorem Same.cu (h:Same a a') (s:Nat):Same a (a'.cu s):=by unfold aO.cu;split<;>exact⟨h.1,h.2,h.3⟩
theorem Same.cz (h:Same a a') (s:Nat):Same a (a'.cz s):=by unfold aO.cz;split<;>exact⟨h.1,h.2,h.3⟩
theorem Same.dV (h:Same a a') (s:Nat):Same a (a'.dV s):=by unfold aO.dV;split<;>exact⟨h.1,h.2,h.3⟩
theorem Same.bJ (h:Same a a') (s:Nat):Same a (a'.bJ s):=by unfold aO.bJ;split<;>exact⟨h.1,h.2,h.3⟩
theorem Same.iB (h:Same a a') (i:Nat):Same a (a'.iB i):=by
 unfold aO.iB;split
 ·exact⟨h.1,h.2,h.3⟩
 ·exact h.dV 0
theorem Same.fu (h:Same a a') (rs:List (List Tx)):Same a (a'.fu rs):=by unfold aO.fu;split<;>exact⟨h.1,h.2,h.3⟩
theorem Same.bL (h:Same a a') (l:List Tx):Same a (a'.bL l):=by
 unfold aO.bL;split
 ·split
  ·split<;>exact⟨h.1,h.2,h.3⟩
  ·split<;>exact⟨h.1,h.2,h.3⟩
 ·split
  ·exact⟨h.1,h.2,h.3⟩
  ·exact h.cu 0
theorem Same.ite {p:Prop} [Decidable p] {b:aO} (h1:Same a a') (h2:Same a b):Same a (if p then a' else b):=by split<;>assumption
theorem M7.turn {k0:Nat} (hS:M7 W mm n t a k0) (hc:t'.code=t.code) (ho:t'.out=t.out) (hf:t'.fin=t.fin) (h0:0<=t'.at_) (hw:t'.wait=t.wait) (hs:Same a a')
  (ng:dX (bI (W.tx n) (W.rs n)) (W.lo n) (W.hi n) (vU (W.tx n) (W.rs n) a') k (t'.ls (W.lo n) (W.hi n) iZ)):M7 W iZ n t' a' k:=
 ⟨by rw[hc];exact hS.code,by rw[ho,hs.out];exact hS.out,by rw[hf,hs.fin];exact hS.fin,h0,by rw[hw,hs.buf];exact hS.wait,by rw[hw];exact hS.own,fun _=>ng⟩
def cst (a:aO):Nat:=match a.pt with
 |.look=>252
 |.rd=>253+23*a.log.length
 |.wr=>273+23*a.log.length
 |_=>229
structure fJ (W:zB) (mm:MM) (m:AS) (ks:Nat->Nat) (n:Nat) (t:MT) (a:aO):Prop where
 ok:oH W
 tL:xm W mm m ks
 inv:bS W.N W.words m
 bX:m.clock<2305843009213693951
 th:mm.aM[n]? =some t
 lt:n<W.N
 eq:m.aM n=a
 fin:a.fin=0
def Done (W:zB) (mm:MM) (m:AS) (ks:Nat->Nat) (n:Nat) (t:MT) (a:aO):Prop:=∃k,a.bare/\k<=cst a/\(mm.go n t).1=true/\xm W (mm.go n t).2 (m.act (W.rs n) n) (upd ks n k)
theorem MK (mm:MM) (n:Nat) (t:MT):mm.put n t=⟨mm.mem,mm.aM.set n t,mm.evs⟩:=rfl
theorem fJ.s (h:fJ W mm m ks n t a):M7 W mm n t a (ks n):=by rw[<-h.eq];exact h.tL.th n t h.th
theorem fJ.A (h:fJ W mm m ks n t a):vP W.words m.clock a:=by rw[<-h.eq];exact h.inv.th n h.lt
theorem fJ.B (h:fJ W mm m ks n t a):nO W.words m.clock a:=by rw[<-h.eq];exact h.inv.buf n h.lt
theorem fJ.M9 (h:fJ W mm m ks n t a) {s:Nat} (hs:s<16):mm.found t (W.words+2+(s:Int))=dh a.buf m.aN s:=by
 have:=h.tL.lock h.th (C:=m.clock) (by rw[h.eq];exact h.B) hs;rw[h.eq] at this;exact this
theorem fJ.adG (h:fJ W mm m ks n t a) {x:Int} (hx:1<=x/\x<=W.words):mm.found t x=sU a.buf m.data x:=by
 have:=h.tL.dat h.th hx;rw[h.eq] at this;exact this
theorem fJ.xU (h:fJ W mm m ks n t a) {s:Nat} (hs:s<16):0<=W.words+2+(s:Int)/\W.words+2+(s:Int)<mm.mem.length:=by
 obtain⟨l1,l2,l3,l4,l5,l6,l7,l8⟩:=(h.ok.ctx n h.lt).lay;have h1:=h.ok.words;have h2:=h.ok.size n h.lt;have h3:=h.tL.len;have h4:=h.ok.wd n h.lt;omega
theorem fJ.ML (h:fJ W mm m ks n t a) {x:Int} (hx:1<=x/\x<=W.words+1):0<=x/\x<mm.mem.length:=by
 obtain⟨l1,l2,l3,l4,l5,l6,l7,l8⟩:=(h.ok.ctx n h.lt).lay;have h1:=h.ok.words;have h2:=h.ok.size n h.lt;have h3:=h.tL.len;have h4:=h.ok.wd n h.lt;omega
theorem fJ.goes (h:fJ W mm m ks n t a) {r:Nat} (hr:r<8) {v:Int} (hgo:mm.go n t=(true,mm.put n (t.goes r v))) (hb:a.bare) (hact:m.act (W.rs n) n=m.set n a') (hs:Same a a') {k:Nat} (hk:k<=cst a)
  (hw:dX (bI (W.tx n) (W.rs n)) (W.lo n) (W.hi n) (vU (W.tx n) (W.rs n) a') k ((t.ls (W.lo n) (W.hi n) mm).put r v)):Done W mm m ks n t a:=by
 have hS:=h.s;refine⟨k,hb,hk,by rw[hgo],?_⟩;rw[hgo,hact,MK];have e:m.set n a'=⟨m.data,m.clock,m.aN,upd m.aM n a',mm.evs⟩:=by rw[h.tL.evs];rfl
 rw[e];refine h.tL.put h.lt (hS.turn rfl rfl rfl (by have:=hS.oC;simp only[MT.goes];omega) rfl hs ?_);rw[rJ hS.oC rfl v r hr];exact hw
theorem fJ.notes (h:fJ W mm m ks n t a) {j x y:Int} (hgo:mm.go n t=(true,(mm.put n t.next).tell n j x y)) (hb:a.bare) (hact:m.act (W.rs n) n=(m.set n a').tell n j x y) (hs:Same a a') {k:Nat} (hk:k<=cst a)
  (hw:dX (bI (W.tx n) (W.rs n)) (W.lo n) (W.hi n) (vU (W.tx n) (W.rs n) a') k ((t.ls (W.lo n) (W.hi n) mm).at ((t.ls (W.lo n) (W.hi n) mm).pc+1))):Done W mm m ks n t a:=by
 have hS:=h.s;refine⟨k,hb,hk,by rw[hgo],?_⟩;rw[hgo,hact];have e:(m.set n a').tell n j x y=⟨m.data,m.clock,m.aN,upd m.aM n a',mm.evs++[⟨n,j,x,y⟩]⟩:=by rw[h.tL.evs];rfl
 rw[e];refine h.tL.put h.lt (hS.turn rfl rfl rfl (by have:=hS.oC;simp only[MT.next];omega) rfl hs ?_);have e2:=Vi (lo:=W.lo n) (hi:=W.hi n) (mm:=mm) (iZ:=⟨mm.mem,mm.aM.set n t.next,mm.evs++[⟨n,j,x,y⟩]⟩) hS.oC rfl;rw[<-e2] at hw;exact hw
theorem jE {p:Pt} (h:a.pt=p) (h1:p≠ .zw:=by intro q;cases q) (h2:p≠ .qG:=by intro q;cases q):a.bare:=fun q=>by
 rcases q with q|q
 ·exact absurd (h.symm.trans q) h1
 ·exact absurd (h.symm.trans q) h2
theorem iH {s:LS} (h:t.ls lo hi mm=s):t.at_.toNat=s.pc:=congrArg LS.pc h
theorem dI {s:LS} (h:t.ls lo hi mm=s) {a:Nat} (ha:a<8):t.reg a=s.get a:=by rw[<-h,SB a ha]
section
theorem fJ.look (h:fJ W mm m ks n t a) (hp:a.pt= .look) (hl:(W.rs n)[a.row]? =some l) (hr:fU (W.tx n) l (b_ (W.rs n) a.row) a (t.ls (W.lo n) (W.hi n) mm)):Done W mm m ks n t a:=by
 have X:=h.ok.ctx n h.lt;have R:=bK (W.tx n) (W.rs n) hl;have hwd:=h.ok.wd n h.lt;have hw0:=h.ok.words;have HA:=h.A;have HB:=HA.base (by rw[hp];intro q;cases q);unfold fU at hr;rw[hp] at hr;obtain⟨r0,r1,r2,r3,r4,r5,r6,pv,hs,p1,p2,p3,p6⟩:=hr;have hc:t.code[t.at_.toNat]? =some ⟨15,0,(0:Nat),(7:Nat),0,(W.tx n).words+1⟩:=by rw[h.s.code,iH hs];exact R.begin 6 _ rfl
 obtain⟨q1,q2⟩:=h.ML (x:=W.words+1) (by omega);have hgo:=UX (mm:=mm) (n:=n) (x:=W.words+1) h.s.oC hc (by rw[dI hs (a:=7) (by decide)];show fq (0+_)=_;rw[hwd,eT (by omega)];omega) q1 q2;rw[h.tL.bX h.th (by rw[h.eq];exact h.B)] at hgo;have hact:m.act (W.rs n) n=(m.set n ({a with bX:=m.clock,reads:=0,log:=[],sum:=0,held:=fun _=>false,op:=0}.bL l)).tell n 1 m.clock 0:=by
  unfold AS.act;rw[h.eq];simp only[hp];rw[List.getD_eq_getElem?_getD,hl];rfl
 have hS:=h.s;refine⟨252,jE hp,by unfold cst;rw[hp];exact aR _,by rw[hgo],?_⟩;rw[hgo,hact];have hsm:Same a ({a with bX:=m.clock,reads:=0,log:=[],sum:=0,held:=fun _=>false,op:=0}.bL l):=((Same.of a {a with bX:=m.clock,reads:=0,log:=[],sum:=0,held:=fun _=>false,op:=0} rfl rfl rfl).bL l);have ng:=Oi (r1:=r1) (r2:=r2) (r3:=r3) (r4:=r4) (r5:=r5) (r6:=r6) X hl h.fin ⟨h.inv.bX,Int.le_refl _⟩ p1 p2 p3 p6;generalize({a with bX:=m.clock,reads:=0,log:=[],sum:=0,held:=fun _=>false,op:=0}.bL l:aO)=a' at hsm ng;have e:(m.set n a').tell n 1 m.clock 0=⟨m.data,m.clock,m.aN,upd m.aM n a',mm.evs++[⟨n,1,m.clock,0⟩]⟩:=by rw[h.tL.evs];rfl
 rw[e];refine h.tL.put h.lt (hS.turn rfl rfl rfl (by have:=hS.oC;simp only[MT.goes];omega) rfl hsm ?_);have e2:=rJ (lo:=W.lo n) (hi:=W.hi n) (m:=mm) (m':=⟨mm.mem,mm.aM.set n (t.goes ((0:Nat):Int) m.clock),mm.evs++[⟨n,1,m.clock,0⟩]⟩) hS.oC rfl m.clock 0 (by decide);rw[hs,ay] at e2;rw[<-e2] at ng;exact ng
theorem fJ.rd (h:fJ W mm m ks n t a) (hp:a.pt= .rd) (hl:(W.rs n)[a.row]? =some l) (hr:fU (W.tx n) l (b_ (W.rs n) a.row) a (t.ls (W.lo n) (W.hi n) mm)):Done W mm m ks n t a:=by
 have X:=h.ok.ctx n h.lt;have R:=bK (W.tx n) (W.rs n) hl;have hwd:=h.ok.wd n h.lt;have hw0:=h.ok.words;have HA:=h.A;have HB:=HA.base (by rw[hp];intro q;cases q);have aY:=HA.held;unfold fU at hr;rw[hp] at hr aY;simp only at aY;obtain⟨o,r0,r3,r4,r5,r6,pv,ho,hk,hs,F⟩:=hr;have R1:=R.ops _ o ho;rw[if_pos hk] at R1;have hc:t.code[t.at_.toNat]? =some ⟨12,0,(1:Nat),(2:Nat),0,2⟩:=by rw[h.s.code,iH hs];exact R1 44 _ rfl
 have hgo:=yQ (mm:=mm) (n:=n) h.s.oC hc;rw[dI hs (a:=1) (by decide),dI hs (a:=2) (by decide),ah,ai] at hgo;refine h.notes hgo (jE hp) (a':=({a with op:=a.op+1,sum:=fq (a.sum+a.v)}.bL l)) ?_ ((Same.of a {a with op:=a.op+1,sum:=fq (a.sum+a.v)} rfl rfl rfl).bL l) (k:=253+23*a.log.length) (by unfold cst;rw[hp];exact aR _) ?_
 ·unfold AS.act;rw[h.eq];simp only[hp];rw[List.getD_eq_getElem?_getD,hl];rfl
 ·rw[hs];rw[<-hwd] at HB;exact VQ X hl HB aY ho hk F
theorem fJ.wr (h:fJ W mm m ks n t a) (hp:a.pt= .wr) (hl:(W.rs n)[a.row]? =some l) (hr:fU (W.tx n) l (b_ (W.rs n) a.row) a (t.ls (W.lo n) (W.hi n) mm)):Done W mm m ks n t a:=by
 have X:=h.ok.ctx n h.lt;have R:=bK (W.tx n) (W.rs n) hl;have hwd:=h.ok.wd n h.lt;have hw0:=h.ok.words;have HA:=h.A;have HB:=HA.base (by rw[hp];intro q;cases q);have aY:=HA.held;have hx:=HA.x;have hsome:=HA.some;unfold fU at hr;rw[hp] at hr aY hx hsome;simp only at aY hx hsome;obtain⟨o,r0,r3,r4,r5,r6,pv,ho,hk,hs,F⟩:=hr;have R1:=R.ops _ o ho;rw[if_neg hk] at R1;have hc:t.code[t.at_.toNat]? =some ⟨12,0,(1:Nat),(2:Nat),0,3⟩:=by rw[h.s.code,iH hs];exact R1 32 _ rfl
 have hgo:=yQ (mm:=mm) (n:=n) h.s.oC hc;rw[dI hs (a:=1) (by decide),dI hs (a:=2) (by decide),ah,ai] at hgo;have hlen:(kz a.log a.x a.v).length<=a.log.length+1:=by unfold kz;split<;>simp
 refine h.notes hgo (jE hp) (a':=({a with op:=a.op+1,log:=kz a.log a.x a.v}.bL l)) ?_ ((Same.of a {a with op:=a.op+1,log:=kz a.log a.x a.v} rfl rfl rfl).bL l) (k:=250+23*(kz a.log a.x a.v).length) (by unfold cst;rw[hp];simp only;omega) ?_
 ·unfold AS.act;rw[h.eq];simp only[hp];rw[List.getD_eq_getElem?_getD,hl];rfl
 ·rw[hs];rw[<-hwd] at HB hx;exact V7 X hl HB aY ho hk hx hsome F
end
end
section
variable {W:zB} {mm iZ:MM} {m:AS} {ks:Nat->Nat} {n k:Nat} {t t':MT} {a a':aO} {lo hi words:Int} {l:List Tx}
section
theorem fJ.Bz (h:fJ W mm m ks n t a) (hp:a.pt= .Bz) (hl:(W.rs n)[a.row]? =some l) (hr:fU (W.tx n) l (b_ (W.rs n) a.row) a (t.ls (W.lo n) (W.hi n) mm)):Done W mm m ks n t a:=by
 have X:=h.ok.ctx n h.lt;have R:=bK (W.tx n) (W.rs n) hl;have hwd:=h.ok.wd n h.lt;have hw0:=h.ok.words;have HA:=h.A;have HB:=HA.base (by rw[hp];intro q;cases q);have hx:=HA.x;unfold fU at hr;rw[hp] at hr hx;simp only at hx;obtain⟨o,r2,r3,r4,r6,pv,ho,hk,hs,F⟩:=hr;have R1:=R.ops _ o ho;rw[if_pos hk] at R1;have hc:t.code[t.at_.toNat]? =some ⟨4,0,(3:Nat),(5:Nat),0,0⟩:=by rw[h.s.code,iH hs];exact R1 19 _ rfl
 have hg:=bO a.x;obtain⟨b1,b2⟩:=h.inv.Nf h.ok.n h.lt hg;rw[h.eq] at b1 b2;have hck:=h.bX;obtain⟨q1,q2⟩:=h.xU hg;have hgo:=yE (mm:=mm) (n:=n) (x:=W.words+2+(aV a.x:Int)) h.s.oC hc (by rw[dI hs (a:=5) (by decide)];show fq ((W.tx n).words+2+(aV a.x:Int)+0)=_;rw[hwd];rw[eT (by omega)];omega) q1 q2;rw[h.M9 hg] at hgo;refine h.goes (r:=3) (by decide) hgo (jE hp) (a':=if dh a.buf m.aN (aV a.x)%2≠0\/a.bX<dh a.buf m.aN (aV a.x)/2 then {a with pt:=.u6} else {a with pt:=.dat,l1:=dh a.buf m.aN (aV a.x)}) ?_ (Same.ite (Same.of a {a with pt:=.u6} rfl rfl rfl) (Same.of a {a with pt:=.dat,l1:=dh a.buf m.aN (aV a.x)} rfl rfl rfl)) (k:=11) (by unfold cst;rw[hp];show 11<=229;decide) ?_
 ·unfold AS.act;rw[h.eq];simp only[hp];split<;>rfl
 ·rw[hs,au];exact Ul X hl ho hk F ⟨b1,by omega⟩
theorem fJ.dat (h:fJ W mm m ks n t a) (hp:a.pt= .dat) (hl:(W.rs n)[a.row]? =some l) (hr:fU (W.tx n) l (b_ (W.rs n) a.row) a (t.ls (W.lo n) (W.hi n) mm)):Done W mm m ks n t a:=by
 have X:=h.ok.ctx n h.lt;have R:=bK (W.tx n) (W.rs n) hl;have hwd:=h.ok.wd n h.lt;have hw0:=h.ok.words;have HA:=h.A;have HB:=HA.base (by rw[hp];intro q;cases q);have hx:=HA.x;unfold fU at hr;rw[hp] at hr hx;simp only at hx;obtain⟨o,r2,r4,r6,pv,ho,hk,hs,F⟩:=hr;have R1:=R.ops _ o ho;rw[if_pos hk] at R1;have hc:t.code[t.at_.toNat]? =some ⟨4,0,(2:Nat),(1:Nat),0,0⟩:=by rw[h.s.code,iH hs];exact R1 32 _ rfl
 obtain⟨q1,q2⟩:=h.ML (x:=a.x) (by omega);have hgo:=yE (mm:=mm) (n:=n) (x:=a.x) h.s.oC hc (by rw[dI hs (a:=1) (by decide)];show fq (a.x+0)=_;skip;rw[eT (by omega)];omega) q1 q2;rw[h.adG hx] at hgo;refine h.goes (r:=2) (by decide) hgo (jE hp) (a':={a with pt:=.ym,v:=sU a.buf m.data a.x}) ?_ (Same.of a {a with pt:=.ym,v:=sU a.buf m.data a.x} rfl rfl rfl) (k:=0) (Nat.zero_le _) ?_
 ·unfold AS.act;rw[h.eq];simp only[hp]
 ·rw[hs,ax];exact .here (.inr (.inr ⟨l,hl,o,_,_,_,ho,hk,rfl,F⟩))
theorem fJ.ym (h:fJ W mm m ks n t a) (hp:a.pt= .ym) (hl:(W.rs n)[a.row]? =some l) (hr:fU (W.tx n) l (b_ (W.rs n) a.row) a (t.ls (W.lo n) (W.hi n) mm)):Done W mm m ks n t a:=by
 have X:=h.ok.ctx n h.lt;have R:=bK (W.tx n) (W.rs n) hl;have hwd:=h.ok.wd n h.lt;have hw0:=h.ok.words;have HA:=h.A;have HB:=HA.base (by rw[hp];intro q;cases q);have hl1:=HA.l1;unfold fU at hr;rw[hp] at hr hl1;simp only at hl1;obtain⟨o,r4,r6,pv,ho,hk,hs,F⟩:=hr;have R1:=R.ops _ o ho;rw[if_pos hk] at R1;have hc:t.code[t.at_.toNat]? =some ⟨4,0,(4:Nat),(5:Nat),0,0⟩:=by rw[h.s.code,iH hs];exact R1 33 _ rfl
 have hg:=bO a.x;obtain⟨b1,b2⟩:=h.inv.Nf h.ok.n h.lt hg;rw[h.eq] at b1 b2;have hck:=h.bX;obtain⟨q1,q2⟩:=h.xU hg;have hgo:=yE (mm:=mm) (n:=n) (x:=W.words+2+(aV a.x:Int)) h.s.oC hc (by rw[dI hs (a:=5) (by decide)];show fq ((W.tx n).words+2+(aV a.x:Int)+0)=_;rw[hwd];rw[eT (by omega)];omega) q1 q2;rw[h.M9 hg] at hgo;refine h.goes (r:=4) (by decide) hgo (jE hp) (a':=if dh a.buf m.aN (aV a.x)=a.l1 then {a with pt:=.rd,reads:=a.reads|||1<<<aV a.x} else {a with pt:=.u6}) ?_ (Same.ite (Same.of a {a with pt:=.rd,reads:=a.reads|||1<<<aV a.x} rfl rfl rfl) (Same.of a {a with pt:=.u6} rfl rfl rfl)) (k:=8) (by unfold cst;rw[hp];show 8<=229;decide) ?_
 ·unfold AS.act;rw[h.eq];simp only[hp];split<;>rfl
 ·rw[hs,ak];rw[<-hwd] at HB;have h3:=HA.bX.2;exact RI X hl HB ho hk F ⟨b1,by omega⟩ ⟨hl1.2.1,by omega⟩
theorem fJ.ro (h:fJ W mm m ks n t a) (hp:a.pt= .ro) (hl:(W.rs n)[a.row]? =some l) (hr:fU (W.tx n) l (b_ (W.rs n) a.row) a (t.ls (W.lo n) (W.hi n) mm)):Done W mm m ks n t a:=by
 have X:=h.ok.ctx n h.lt;have R:=bK (W.tx n) (W.rs n) hl;have hwd:=h.ok.wd n h.lt;have hw0:=h.ok.words;have HA:=h.A;have HB:=HA.base (by rw[hp];intro q;cases q);unfold fU at hr;rw[hp] at hr;obtain⟨r0,r2,r3,r4,r5,r6,pv,hs,F⟩:=hr;have hc:t.code[t.at_.toNat]? =some ⟨12,0,(1:Nat),(7:Nat),0,7⟩:=by rw[h.s.code,iH hs];exact R.aL 158 _ rfl
 have hgo:=yQ (mm:=mm) (n:=n) h.s.oC hc;rw[dI hs (a:=1) (by decide),dI hs (a:=7) (by decide),ah,aj] at hgo;refine h.notes hgo (jE hp) (a':={a with pt:=.out}) ?_ (Same.of a ({a with pt:=.out}) rfl rfl rfl) (k:=4) (by unfold cst;rw[hp];show 4<=229;decide) ?_
 ·unfold AS.act;rw[h.eq];simp only[hp]
 ·rw[hs];exact UT X hl F
theorem fJ.BM (h:fJ W mm m ks n t a) (hp:a.pt= .BM) (hl:(W.rs n)[a.row]? =some l) (hr:fU (W.tx n) l (b_ (W.rs n) a.row) a (t.ls (W.lo n) (W.hi n) mm)):Done W mm m ks n t a:=by
 have X:=h.ok.ctx n h.lt;have R:=bK (W.tx n) (W.rs n) hl;have hwd:=h.ok.wd n h.lt;have hw0:=h.ok.words;have HA:=h.A;have HB:=HA.base (by rw[hp];intro q;cases q);have hnew:=HA.new;unfold fU at hr;rw[hp] at hr hnew;simp only at hnew;obtain⟨r0,r3,r4,r5,r6,pv,hs,F,hn⟩:=hr;have hck:=h.bX;have Ti:=HA.bX.1;have hc:t.code[t.at_.toNat]? =some ⟨12,0,(1:Nat),(2:Nat),0,7⟩:=by rw[h.s.code,iH hs];exact R.aL 103 _ rfl
 have hgo:=yQ (mm:=mm) (n:=n) h.s.oC hc;rw[dI hs (a:=1) (by decide),dI hs (a:=2) (by decide),ah,ai] at hgo;refine h.notes hgo (jE hp) (a':=a.iB 0) ?_ ((Same.refl a).iB 0) (k:=216) (by unfold cst;rw[hp];show 216<=229;decide) ?_
 ·unfold AS.act;rw[h.eq];simp only[hp]
 ·rw[hs];exact Sn X hl HB.len F hn ⟨by omega,by omega⟩
theorem fJ.u6 (h:fJ W mm m ks n t a) (hp:a.pt= .u6) (hl:(W.rs n)[a.row]? =some l) (hr:fU (W.tx n) l (b_ (W.rs n) a.row) a (t.ls (W.lo n) (W.hi n) mm)):Done W mm m ks n t a:=by
 have X:=h.ok.ctx n h.lt;have R:=bK (W.tx n) (W.rs n) hl;have hwd:=h.ok.wd n h.lt;have hw0:=h.ok.words;have HA:=h.A;have HB:=HA.base (by rw[hp];intro q;cases q);unfold fU at hr;rw[hp] at hr;obtain⟨r0,r1,r2,r3,r4,r5,r6,pv,hs⟩:=hr;rw[show b_ (W.rs n) a.row+181+aS l=b_ (W.rs n) a.row+178+aS l+3 by omega] at hs;have hc:t.code[t.at_.toNat]? =some ⟨12,0,(7:Nat),(7:Nat),0,8⟩:=by rw[h.s.code,iH hs];exact R.tail 3 _ rfl
 have hgo:=yQ (mm:=mm) (n:=n) h.s.oC hc;rw[dI hs (a:=7) (by decide),aj] at hgo;refine h.notes hgo (jE hp) (a':={a with pt:=.look}) ?_ (Same.of a ({a with pt:=.look}) rfl rfl rfl) (k:=9) (by unfold cst;rw[hp];show 9<=229;decide) ?_
 ·unfold AS.act;rw[h.eq];simp only[hp]
 ·rw[hs];exact(show b_ (W.rs n) a.row+178+aS l+3+1=b_ (W.rs n) a.row+182+aS l by omega) ▸ QO X hl
theorem fJ.Eg (h:fJ W mm m ks n t a) (hp:a.pt= .Eg) (hl:(W.rs n)[a.row]? =some l) (hr:fU (W.tx n) l (b_ (W.rs n) a.row) a (t.ls (W.lo n) (W.hi n) mm)):Done W mm m ks n t a:=by
 have X:=h.ok.ctx n h.lt;have R:=bK (W.tx n) (W.rs n) hl;have hwd:=h.ok.wd n h.lt;have hw0:=h.ok.words;have HA:=h.A;have HB:=HA.base (by rw[hp];intro q;cases q);have aY:=HA.held;unfold fU at hr;rw[hp] at hr aY;simp only at aY;obtain⟨r0,r1,r2,r3,r4,pv,hs,F,O,hn⟩:=hr;have lQ:=aY.1;have hc:t.code[t.at_.toNat]? =some ⟨4,0,(3:Nat),(5:Nat),0,0⟩:=by rw[h.s.code,iH hs];exact R.aL 31 _ rfl
 obtain⟨b1,b2⟩:=h.inv.Nf h.ok.n h.lt lQ;rw[h.eq] at b1 b2;have hck:=h.bX;obtain⟨q1,q2⟩:=h.xU lQ;have hgo:=yE (mm:=mm) (n:=n) (x:=W.words+2+(a.s:Int)) h.s.oC hc (by rw[dI hs (a:=5) (by decide)];show fq ((W.tx n).words+2+(a.s:Int)+0)=_;rw[hwd];rw[eT (by omega)];omega) q1 q2;rw[h.M9 lQ] at hgo;refine h.goes (r:=3) (by decide) hgo (jE hp) (a':=if dh a.buf m.aN a.s%2≠0 then a.bJ 0 else {a with pt:=.zw,l1:=dh a.buf m.aN a.s}) ?_ (Same.ite ((Same.refl a).bJ 0) (Same.of a {a with pt:=.zw,l1:=dh a.buf m.aN a.s} rfl rfl rfl)) (k:=216) (by unfold cst;rw[hp];show 216<=229;decide) ?_
 ·unfold AS.act;rw[h.eq];simp only[hp];split<;>rfl
 ·rw[hs,au];exact Sl X hl F O hn
theorem fJ.Bc (h:fJ W mm m ks n t a) (hp:a.pt= .Bc) (hl:(W.rs n)[a.row]? =some l) (hr:fU (W.tx n) l (b_ (W.rs n) a.row) a (t.ls (W.lo n) (W.hi n) mm)):Done W mm m ks n t a:=by
 have X:=h.ok.ctx n h.lt;have R:=bK (W.tx n) (W.rs n) hl;have hwd:=h.ok.wd n h.lt;have hw0:=h.ok.words;have HA:=h.A;have HB:=HA.base (by rw[hp];intro q;cases q);have hsome:=HA.some;have hnew:=HA.new;unfold fU at hr;rw[hp] at hr hsome hnew;simp only at hsome hnew;obtain⟨r0,r1,r2,r3,r4,pv,hs,F,O,hn⟩:=hr;have lQ:=hsome.2.1;have hth:=h.ok.th n h.lt;have hc:t.code[t.at_.toNat]? =some ⟨4,0,(2:Nat),(5:Nat),0,0⟩:=by rw[h.s.code,iH hs];exact R.aL 79 _ rfl
 obtain⟨b1,b2⟩:=h.inv.Nf h.ok.n h.lt lQ;rw[h.eq] at b1 b2;have hck:=h.bX;obtain⟨q1,q2⟩:=h.xU lQ;have hgo:=yE (mm:=mm) (n:=n) (x:=W.words+2+(a.s:Int)) h.s.oC hc (by rw[dI hs (a:=5) (by decide)];show fq ((W.tx n).words+2+(a.s:Int)+0)=_;rw[hwd];rw[eT (by omega)];omega) q1 q2;rw[h.M9 lQ] at hgo;have hO:dh a.buf m.aN a.s=2*(n:Int)+1->a.held a.s=true:=fun q=>by
  have hb:=HA.bare (by rw[hp];rfl);rw[hb] at q;have:=(h.inv.own n h.lt a.s lQ).1 q;rw[h.eq] at this;rcases this with q1|⟨v,q1⟩
  ·exact q1
  ·rw[hb] at q1;simp at q1
 refine h.goes (r:=2) (by decide) hgo (jE hp) (a':=if dh a.buf m.aN a.s%2=0 then(if a.bX<dh a.buf m.aN a.s/2 then a.bJ 0 else a.cz (a.s+1)) else if dh a.buf m.aN a.s=2*(n:Int)+1 then(if a.bX<a.old a.s/2 then a.bJ 0 else a.cz (a.s+1)) else a.bJ 0) ?_ (Same.ite (Same.ite ((Same.refl a).bJ 0) ((Same.refl a).cz _)) (Same.ite (Same.ite ((Same.refl a).bJ 0) ((Same.refl a).cz _)) ((Same.refl a).bJ 0))) (k:=229) (by unfold cst;rw[hp];show 229<=229;decide) ?_
 ·unfold AS.act;rw[h.eq];simp only[hp]
  repeat' split
  all_goals rfl
 ·rw[hs,ax];rw[<-hwd] at HB;rw[<-hth] at hO⊢;exact TQ X hl HB lQ F O hn ⟨b1,by omega⟩ hO (by omega)
theorem fJ.full (h:fJ W mm m ks n t a) (hp:a.pt= .full) (hl:(W.rs n)[a.row]? =some l) (hr:fU (W.tx n) l (b_ (W.rs n) a.row) a (t.ls (W.lo n) (W.hi n) mm)):Done W mm m ks n t a:=by
 have X:=h.ok.ctx n h.lt;have R:=bK (W.tx n) (W.rs n) hl;have hwd:=h.ok.wd n h.lt;have hw0:=h.ok.words;have HA:=h.A;have HB:=HA.base (by rw[hp];intro q;cases q);unfold fU at hr;rw[hp] at hr;obtain⟨o,r0,r1,r2,r3,r4,r5,r6,pv,ho,hk,hs⟩:=hr;have R1:=R.ops _ o ho;rw[if_neg hk] at R1;have hS:=h.s;have hc:t.code[t.at_.toNat]? =some ⟨13,0,0,0,0,6⟩:=by rw[h.s.code,iH hs];exact R1 22 _ rfl
 have hgo:=VY (mm:=mm) (n:=n) h.s.oC hc;have hact:m.act (W.rs n) n=(m.set n {a with pt:=.over,fin:=6}).tell n 11 6 0:=by
  unfold AS.act;rw[h.eq];simp only[hp]
 refine⟨0,jE hp,Nat.zero_le _,by rw[hgo],?_⟩;rw[hgo,hact];have e:(m.set n {a with pt:=.over,fin:=6}).tell n 11 6 0=⟨m.data,m.clock,m.aN,upd m.aM n {a with pt:=.over,fin:=6},mm.evs++[⟨n,11,6,0⟩]⟩:=by rw[h.tL.evs];rfl
 rw[e];exact h.tL.put (t':={t with fin:=6}) h.lt ⟨hS.code,hS.out,rfl,hS.oC,hS.wait,hS.own,fun q=>absurd q (show ¬(6:Int)=0 by decide)⟩
theorem fJ.halt (h:fJ W mm m ks n t a) (hp:a.pt= .halt) (hr:∃r0 r1 r2 r3 r4 r5 r6 pv,t.ls (W.lo n) (W.hi n) mm=⟨b_ (W.rs n) (W.rs n).length,r0,r1,r2,r3,r4,r5,r6,0,pv⟩):Done W mm m ks n t a:=by
 obtain⟨r0,r1,r2,r3,r4,r5,r6,pv,hs⟩:=hr;have hS:=h.s;have hc:t.code[t.at_.toNat]? =some ⟨14,0,0,0,0,0⟩:=by rw[h.s.code,iH hs];exact Qf _ _
 have hgo:=V8 (mm:=mm) (n:=n) h.s.oC hc;have hact:m.act (W.rs n) n=(m.set n {a with pt:=.over,fin:=1}).tell n 10 0 0:=by
  unfold AS.act;rw[h.eq];simp only[hp]
 refine⟨0,jE hp,Nat.zero_le _,by rw[hgo],?_⟩;rw[hgo,hact];have e:(m.set n {a with pt:=.over,fin:=1}).tell n 10 0 0=⟨m.data,m.clock,m.aN,upd m.aM n {a with pt:=.over,fin:=1},mm.evs++[⟨n,10,0,0⟩]⟩:=by rw[h.tL.evs];rfl
 rw[e];exact h.tL.put (t':={t with fin:=1}) h.lt ⟨hS.code,hS.out,rfl,hS.oC,hS.wait,hS.own,fun q=>absurd q (show ¬(1:Int)=0 by decide)⟩
theorem fJ.out (h:fJ W mm m ks n t a) (hp:a.pt= .out) (hl:(W.rs n)[a.row]? =some l) (hr:fU (W.tx n) l (b_ (W.rs n) a.row) a (t.ls (W.lo n) (W.hi n) mm)):Done W mm m ks n t a:=by
 have X:=h.ok.ctx n h.lt;have R:=bK (W.tx n) (W.rs n) hl;have hwd:=h.ok.wd n h.lt;have hw0:=h.ok.words;have HA:=h.A;have HB:=HA.base (by rw[hp];intro q;cases q);unfold fU at hr;rw[hp] at hr;obtain⟨r0,r2,r3,r4,r5,r6,pv,hs⟩:=hr;rw[show b_ (W.rs n) a.row+9+aS l+170=b_ (W.rs n) a.row+178+aS l+1 by omega] at hs;have hS:=h.s;have hc:t.code[t.at_.toNat]? =some ⟨11,0,(1:Nat),0,0,0⟩:=by rw[h.s.code,iH hs];exact R.tail 1 _ rfl
 have hgo:=Y7 (mm:=mm) (n:=n) h.s.oC hc;rw[dI hs (a:=1) (by decide),ah] at hgo;have hact:m.act (W.rs n) n=(m.set n ({a with row:=a.row+1,out:=a.out++[a.sum]}.fu (W.rs n))).tell n 9 a.sum 0:=by
  unfold AS.act;rw[h.eq];simp only[hp]
 refine⟨7,jE hp,by unfold cst;rw[hp];show 7<=229;decide,by rw[hgo],?_⟩;rw[hgo,hact];have hsm:=(Same.of {a with row:=a.row+1,out:=a.out++[a.sum]} {a with row:=a.row+1,out:=a.out++[a.sum]} rfl rfl rfl).fu (W.rs n);have ng:=RO (r0:=r0) (r1:=a.sum) (r2:=r2) (r3:=r3) (r4:=r4) (r5:=r5) (r6:=r6) (pv:=pv) X hl (a.out++[a.sum]);generalize({a with row:=a.row+1,out:=a.out++[a.sum]}.fu (W.rs n):aO)=a' at hsm ng;have e:(m.set n a').tell n 9 a.sum 0=⟨m.data,m.clock,m.aN,upd m.aM n a',mm.evs++[⟨n,9,a.sum,0⟩]⟩:=by rw[h.tL.evs];rfl
 rw[e];have e2:=VN (lo:=W.lo n) (hi:=W.hi n) (mm:=mm) (iZ:=⟨mm.mem,mm.aM.set n (t.told a.sum),mm.evs++[⟨n,9,a.sum,0⟩]⟩) hS.oC rfl a.sum;refine h.tL.put (t':=t.told a.sum) h.lt ⟨hS.code,by rw[hsm.out,<-hS.out];rfl,by rw[hsm.fin];exact hS.fin,by have:=hS.oC;simp only[MT.told];omega,by rw[hsm.buf];exact hS.wait,hS.own,fun _=>?_⟩;rw[hs] at e2;rw[show b_ (W.rs n) a.row+9+aS l+171=b_ (W.rs n) a.row+178+aS l+1+1 by omega] at ng;have e3:(t.told a.sum).ls (W.lo n) (W.hi n) ⟨mm.mem,mm.aM.set n (t.told a.sum),mm.evs++[⟨n,9,a.sum,0⟩]⟩=⟨b_ (W.rs n) a.row+178+aS l+1+1,r0,a.sum,r2,r3,r4,r5,r6,0,pv⟩:=e2;rw[<-e3] at ng;exact ng
end
end
end Go.Proofs.YtopdcjimpdalpaaGreat

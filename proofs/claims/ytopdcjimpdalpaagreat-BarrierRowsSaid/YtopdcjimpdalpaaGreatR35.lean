import Derived.Test.YtopdcjimpdalpaaGreatR34
import Derived.OwnWalk
import Derived.Deep.RegionHeld3
namespace Go.Proofs.YtopdcjimpdalpaaGreat
open Go.RowKit
set_option linter.all false
set_option maxHeartbeats 8000000
set_option maxRecDepth 100000
section
variable {N n k M:Nat} {words C C':Int} {m m':AS} {a a':aY} {b:bJ} {rs:Nat->List (List Tx)} {l:List bJ} {x v:Int} {s s':HS} {cw:List bJ}
theorem Dy {rs:List (List Tx)} {r:Nat} {row:List Tx} (h:rs[r]? =some row):rs.getD r []=row:=by rw[List.getD_eq_getElem?_getD,h];rfl
theorem Dx {rs:List (List Tx)} (h:a.row<=rs.length):((a.jT rs).pt= .look/\(a.jT rs).row<rs.length)\/((a.jT rs).pt= .halt/\(a.jT rs).row=rs.length):=by
 unfold aY.jT;split
 ·rename_i q;exact .inl ⟨rfl,q⟩
 ·rename_i q;exact .inr ⟨rfl,by show a.row=rs.length;omega⟩
section
theorem A9 (R:RInv N rs m s) (I:eB N words M m s cw) (L:cZ N words m) (hn:n<N) (hN:N<=4) (ha:m.aT n=a) (hfin:a.fin=0) (xX:a.pt.nY=true) (a':aY) (hev:m'.evs=m.evs) (hth:m'.aT=upd m.aT n a') (adO:a'.pt.nY=true) (h1:a'.row=a.row) (h2:a'.out=a.out) (h3:a'.sum=a.sum) (h4:a'.op=a.op) (hp:∀row,(rs n)[a.row]? =some row->vG row a->vG row a'):∃s',RInv N rs m' s':=by
 have T:=R.th n hn;rw[ha] at T;obtain⟨q1,q2,row,j,b,q3,q4,q5,q6,q7,q8⟩:=T.open_ xX;refine⟨s,R.quiet (n:=n) hev (fun k hk=>by rw[hth,jG _ _ hk]) (fun _=>?_)⟩;rw[hth,gm];exact wF.at adO (by rw[h1];exact q1) (by rw[h2];exact q2) q3 q4 (by rw[h1];exact q5) (by rw[h3];exact q6) (by rw[h4];exact q7) (hp row q5 q8)
theorem ado (R:RInv N rs m s) (I:eB N words M m s cw) (L:cZ N words m) (hn:n<N) (hN:N<=4) (ha:m.aT n=a) (hfin:a.fin=0) (hb:a.pt= .wb\/a.pt= .rel\/a.pt= .out) (a':aY) (hev:m'.evs=m.evs) (hth:m'.aT=upd m.aT n a') (hb':a'.pt= .wb\/a'.pt= .rel\/a'.pt= .out) (h1:a'.row=a.row) (h2:a'.out=a.out) (h3:a'.sum=a.sum):∃s',RInv N rs m' s':=by
 have T:=R.th n hn;rw[ha] at T;obtain⟨q1,q2,q3⟩:=T.done hb;refine⟨s,R.quiet (n:=n) hev (fun k hk=>by rw[hth,jG _ _ hk]) (fun _=>?_)⟩;rw[hth,gm];exact wF.fine hb' (by rw[h1];exact q1) (by rw[h2,h3];exact q2) (by rw[h1];exact q3)
theorem CE (R:RInv N rs m s) (I:eB N words M m s cw) (L:cZ N words m) (hn:n<N) (hN:N<=4) (ha:m.aT n=a) (hfin:a.fin=0) (a:aY) (i:Nat) (row:List Tx):vG row (a.bZ i):=by
 unfold aY.bZ;split<;>trivial
theorem RInv.act (R:RInv N rs m s) (I:eB N words M m s cw) (L:cZ N words m) (hn:n<N) (hN:N<=4) (ha:m.aT n=a) (hfin:a.fin=0) (hbare:a.bare):∃s',RInv N rs (m.act (rs n) n) s':=by
 have T:=R.th n hn;rw[ha] at T;have hlive:s.ended n=false:=I.live n hn (by rw[ha];exact hfin);have hok:=I.eF.hok;cases hp:a.pt with
 |look=>
  obtain⟨q1,q2⟩:=T.idle (.inl hp);have q3:=T.look hp;have ho:s.opn n=none:=I.idle n hn (by rw[ha,hp];rfl);have hrow:=eO q3;generalize(rs n)[a.row]=row at hrow;rw[z_ ha hp,Dy hrow];have mv:=jM {a with dx:=m.clock,reads:=0,log:=[],sum:=0,held:=fun _=>false,op:=0} row;obtain⟨t1,t2,t3⟩:=qL {a with dx:=m.clock,reads:=0,log:=[],sum:=0,held:=fun _=>false,op:=0} row;have rp:=yD (row:=row) (a:={a with dx:=m.clock,reads:=0,log:=[],sum:=0,held:=fun _=>false,op:=0}) (Nat.zero_le _);generalize({a with dx:=m.clock,reads:=0,log:=[],sum:=0,held:=fun _=>false,op:=0}.di row:aY)=a' at mv t1 t2 t3 rp⊢;have hs:fC s ⟨n,1,m.clock,0⟩ m.evs.length=some ⟨s.aU++[begun ⟨n,1,m.clock,0⟩ m.evs.length],upd s.opn n (some s.aU.length),s.ended⟩:=by
   unfold fC;rw[if_neg (by simp only;omega)];simp only[Int.toNat_natCast];rw[if_neg (by rw[hlive];simp),ho];simp
  have hcm:=fun u=>Va s.aU (begun ⟨n,1,m.clock,0⟩ m.evs.length) u rfl
  refine⟨_,R.event (n:=n) rfl hs (fun k hk=>jG _ _ hk) (fun i x hx=>?_) (fun k hk=>jG _ _ hk) (fun k j hk hj=>?_) (fun k _=>hcm k) (fun _=>?_)⟩
  ·rcases Nat.lt_or_ge i s.aU.length with hi|hi
   ·have hx':s.aU[i]? =some x:=by
     have:(s.aU++[begun ⟨n,1,m.clock,0⟩ m.evs.length])[i]? =some x:=hx
     rwa [List.getElem?_append_left hi] at this
    obtain⟨u,row',z,g1,g2,g3,g4⟩:=R.rows i x hx';refine⟨u,row',z,g1,g2,?_,g4⟩;show(rs u)[vI ((s.aU++[begun ⟨n,1,m.clock,0⟩ m.evs.length]).take i) u]? =_;rw[List.take_append_of_le_length (by omega)];exact g3
   ·have hx':(s.aU++[begun ⟨n,1,m.clock,0⟩ m.evs.length])[i]? =some x:=hx;have hil:=(bu.1 hx').1;simp only[List.length_append,List.length_cons,List.length_nil] at hil;obtain rfl:i=s.aU.length:=by omega
    simp at hx';subst hx';refine⟨n,row,0,hn,rfl,?_,.nil,fun q=>by simp[begun] at q⟩;show(rs n)[vI ((s.aU++[begun ⟨n,1,m.clock,0⟩ m.evs.length]).take s.aU.length) n]? =_;rw[List.take_left,q1];exact hrow
  ·obtain⟨c,hc, -⟩:=I.eF.kR hj;exact List.getElem?_append_left (bu.1 hc).1
  ·show wF (rs n) _ n (upd m.aT n a' n) (upd s.opn n _ n);rw[gm,gm];exact wF.at (b:=begun ⟨n,1,m.clock,0⟩ m.evs.length) t2 (by rw[(hcm n).1,q1,mv.row]) (by rw[(hcm n).2,mv.out];exact q2) rfl (by simp) (by rw[mv.row];exact hrow) (by rw[mv.sum];exact .nil) (by rw[mv.op];rfl) rp
 |rd=>
  obtain⟨q1,q2,row,j,b,q3,q4,q5,q6,q7,q8⟩:=T.open_ (by rw[hp];rfl);rw[hp] at q8;obtain⟨o,q8,q9,XA⟩:=q8;rw[G7 ha hp,Dy q5];obtain⟨b',hb',ht, -,hk0, -⟩:=I.eF.kR q3;rw[q4] at hb';cases hb';have mv:=jM {a with op:=a.op+1,sum:=fV (a.sum+a.v)} row;obtain⟨t1,t2,t3⟩:=qL {a with op:=a.op+1,sum:=fV (a.sum+a.v)} row;have hlt:=(bu.1 q8).1;have rp:=yD (row:=row) (a:={a with op:=a.op+1,sum:=fV (a.sum+a.v)}) (Nat.succ_le_of_lt hlt);generalize({a with op:=a.op+1,sum:=fV (a.sum+a.v)}.di row:aY)=a' at mv t1 t2 t3 rp⊢;have hs:=(kN (i:=m.evs.length) (e:=⟨n,2,a.x,a.v⟩) (show n<4 by omega) rfl hlive q3).1 (by simp) (by simp);have hcm:=fun u=>vv (f:=more ⟨n,2,a.x,a.v⟩) q4 hk0 (by show b.kind≠1;omega) u
  have aaz:∀row',(rs n)[vI (s.aU.take j) n]? =some row'->row'=row:=fun row' h=>by
   rw[zH hok q3 q4 hk0,q1,q5] at h;cases h;rfl
  have hmore:rY row (b.done++[⟨n,2,a.x,a.v⟩]) 0 (fV (a.sum+a.v)):=q6.aaA (by rw[q7];exact q8) q9 XA rfl;refine⟨_,R.event (n:=n) rfl hs (fun k hk=>jG _ _ hk) (R.rows.modify hok q3 q4 hk0 ht rfl (fun row' z g1 g2=>?_)) (fun _ _=>rfl) (fun k i hk hi=>kV (I.eF.other hk q3 hi)) (fun k _=>hcm k) (fun _=>?_)⟩
  ·obtain rfl:=aaz row' g1;exact⟨_,hmore,fun q=>absurd q (by show b.kind≠1;omega)⟩
  ·show wF (rs n) _ n (upd m.aT n a' n) (s.opn n);rw[gm];exact wF.at t2 (by rw[(hcm n).1,q1,mv.row]) (by rw[(hcm n).2,mv.out];exact q2) q3 (sJ q4) (by rw[mv.row];exact q5) (by rw[mv.sum];exact hmore) (by rw[mv.op];show(b.done++[_]).length=_;simp[q7]) rp
 |wr=>
  obtain⟨q1,q2,row,j,b,q3,q4,q5,q6,q7,q8⟩:=T.open_ (by rw[hp];rfl);rw[hp] at q8;obtain⟨o,q8,q9,XA,I9⟩:=q8;rw[Hy ha hp,Dy q5];obtain⟨b',hb',ht, -,hk0, -⟩:=I.eF.kR q3;rw[q4] at hb';cases hb';have mv:=jM {a with op:=a.op+1,log:=mK a.log a.x a.v} row;obtain⟨t1,t2,t3⟩:=qL {a with op:=a.op+1,log:=mK a.log a.x a.v} row;have hlt:=(bu.1 q8).1;have rp:=yD (row:=row) (a:={a with op:=a.op+1,log:=mK a.log a.x a.v}) (Nat.succ_le_of_lt hlt);generalize({a with op:=a.op+1,log:=mK a.log a.x a.v}.di row:aY)=a' at mv t1 t2 t3 rp⊢;have hs:=(kN (i:=m.evs.length) (e:=⟨n,3,a.x,a.v⟩) (show n<4 by omega) rfl hlive q3).1 (by simp) (by simp);have hcm:=fun u=>vv (f:=more ⟨n,3,a.x,a.v⟩) q4 hk0 (by show b.kind≠1;omega) u
  have aaz:∀row',(rs n)[vI (s.aU.take j) n]? =some row'->row'=row:=fun row' h=>by
   rw[zH hok q3 q4 hk0,q1,q5] at h;cases h;rfl
  have hmore:rY row (b.done++[⟨n,3,a.x,a.v⟩]) 0 a.sum:=q6.ZU (by rw[q7];exact q8) q9 XA rfl I9;refine⟨_,R.event (n:=n) rfl hs (fun k hk=>jG _ _ hk) (R.rows.modify hok q3 q4 hk0 ht rfl (fun row' z g1 g2=>?_)) (fun _ _=>rfl) (fun k i hk hi=>kV (I.eF.other hk q3 hi)) (fun k _=>hcm k) (fun _=>?_)⟩
  ·obtain rfl:=aaz row' g1;exact⟨_,hmore,fun q=>absurd q (by show b.kind≠1;omega)⟩
  ·show wF (rs n) _ n (upd m.aT n a' n) (s.opn n);rw[gm];exact wF.at t2 (by rw[(hcm n).1,q1,mv.row]) (by rw[(hcm n).2,mv.out];exact q2) q3 (sJ q4) (by rw[mv.row];exact q5) (by rw[mv.sum];exact hmore) (by rw[mv.op];show(b.done++[_]).length=_;simp[q7]) rp
 |JY=>
  rw[CG ha hp];split
  ·exact A9 R I L hn hN ha hfin (by rw[hp];rfl) {a with pt:=.yz} rfl rfl rfl rfl rfl rfl rfl (fun _ _ _=>trivial)
  ·exact A9 R I L hn hN ha hfin (by rw[hp];rfl) {a with pt:=.dat,l1:=dF a.buf m.aR (bA a.x)} rfl rfl rfl rfl rfl rfl rfl (fun _ _ q=>by unfold vG at q⊢;rw[hp] at q;exact q)
 |dat=>
  rw[CQ ha hp];exact A9 R I L hn hN ha hfin (by rw[hp];rfl) {a with pt:=.Dq,v:=uq a.buf m.data a.x} rfl rfl rfl rfl rfl rfl rfl (fun _ _ q=>by unfold vG at q⊢;rw[hp] at q;exact q)
 |Dq=>
  rw[CX ha hp];split
  ·exact A9 R I L hn hN ha hfin (by rw[hp];rfl) {a with pt:=.rd,reads:=a.reads|||1<<<bA a.x} rfl rfl rfl rfl rfl rfl rfl (fun _ _ q=>by unfold vG at q⊢;rw[hp] at q;exact q)
  ·exact A9 R I L hn hN ha hfin (by rw[hp];rfl) {a with pt:=.yz} rfl rfl rfl rfl rfl rfl rfl (fun _ _ _=>trivial)
 |full=>
  obtain⟨q1,q2,row,j,b,q3,q4, -⟩:=T.open_ (by rw[hp];rfl);obtain⟨b',hb',ht, -,hk0, -⟩:=I.eF.kR q3;rw[q4] at hb';cases hb';rw[zA ha hp];have hs:fC s ⟨n,11,6,0⟩ m.evs.length=some ⟨s.aU.modify j (closed 3 m.evs.length),upd s.opn n none,upd s.ended n true⟩:=by
   unfold fC;rw[if_neg (by simp only;omega)];simp only[Int.toNat_natCast];rw[if_neg (by rw[hlive];simp),q3];simp
  have hcm:=fun u=>vv (f:=closed 3 m.evs.length) q4 hk0 (by simp[closed]) u
  refine⟨_,R.event (n:=n) rfl hs (fun k hk=>jG _ _ hk) (R.rows.modify hok q3 q4 hk0 ht rfl (fun row' z g1 g2=>⟨z,g2,fun q=>by simp[closed] at q⟩)) (fun k hk=>jG _ _ hk) (fun k i hk hi=>kV (I.eF.other hk q3 hi)) (fun k _=>hcm k) (fun _=>?_)⟩;show wF (rs n) _ n (upd m.aT n _ n) (upd s.opn n none n);rw[gm,gm];exact wF.gone rfl T.le (.inr rfl) (by rw[(hcm n).2];exact q2)
 |ro=>
  obtain⟨q1,q2,row,j,b,q3,q4,q5,q6,q7,q8⟩:=T.open_ (by rw[hp];rfl);rw[hp] at q8;obtain⟨b',hb',ht, -,hk0, -⟩:=I.eF.kR q3;rw[q4] at hb';cases hb';rw[IM ha hp];have hs:=(kN (i:=m.evs.length) (e:=⟨n,7,a.dx,0⟩) (show n<4 by omega) rfl hlive q3).2.1 rfl;obtain⟨c1,c2,c3⟩:=Ew (f:=bW ⟨n,7,a.dx,0⟩ m.evs.length) hok q3 q4 hk0 ht rfl rfl;have hsum:Xq b.done=a.sum:=q6.sum;refine⟨_,R.event (n:=n) rfl hs (fun k hk=>jG _ _ hk) (R.rows.modify hok q3 q4 hk0 ht rfl (fun row' z g1 g2=>⟨z,g2,fun _=>?_⟩)) (fun k hk=>jG _ _ hk) (fun k i hk hi=>kV (I.eF.other hk q3 hi)) (fun k hk=>c3 k hk) (fun _=>?_)⟩
  ·rw[zH hok q3 q4 hk0,q1,q5] at g1;cases g1;show b.done.length=_;rw[q7];exact q8
  ·show wF (rs n) _ n (upd m.aT n _ n) (upd s.opn n none n);rw[gm,gm];exact wF.fine (.inr (.inr rfl)) (by show vI _ n=a.row+1;rw[c2,q1]) (by rw[c1];show _=a.out++[a.sum];rw[q2,<-hsum];rfl) (bu.1 q5).1
 |Lx=>
  rw[Cy ha hp];split
  ·exact A9 R I L hn hN ha hfin (by rw[hp];rfl) (a.bZ 0) rfl rfl (p8 (N:=N) (m:=m) (cw:=cw) (n:=n) (b:=⟨0,0,0,0,0,0,false,[]⟩) a 0).2.1 (iR a 0).row (iR a 0).out (iR a 0).sum (iR a 0).op (fun row _ _=>CE R I L hn hN ha hfin a 0 row)
  ·exact A9 R I L hn hN ha hfin (by rw[hp];rfl) {a with pt:=.CR,l1:=dF a.buf m.aR a.s} rfl rfl rfl rfl rfl rfl rfl (fun _ _ q=>by unfold vG at q⊢;rw[hp] at q;exact q)
 |CR=>
  rw[CS ha hp];split
  ·have mv:=Cx {a with held:=upd a.held a.s true,old:=upd a.old a.s a.l1} (a.s+1);refine A9 R I L hn hN ha hfin (by rw[hp];rfl) ({a with held:=upd a.held a.s true,old:=upd a.old a.s a.l1}.eu (a.s+1)) rfl rfl (Ba (N:=N) (m:=m) (cw:=cw) (n:=n) (b:=⟨0,0,0,0,0,0,false,[]⟩) _ _).2.1 mv.row mv.out mv.sum mv.op (fun row _ q=>?_);unfold vG at q;rw[hp] at q;unfold aY.eu;split<;>exact q
  ·exact A9 R I L hn hN ha hfin (by rw[hp];rfl) (a.bZ 0) rfl rfl (p8 (N:=N) (m:=m) (cw:=cw) (n:=n) (b:=⟨0,0,0,0,0,0,false,[]⟩) a 0).2.1 (iR a 0).row (iR a 0).out (iR a 0).sum (iR a 0).op (fun row _ _=>CE R I L hn hN ha hfin a 0 row)
 |vO=>
  rw[yZ ha hp];have mv:=vV {a with new:=m.clock+1} 0;refine A9 R I L hn hN ha hfin (by rw[hp];rfl) ({a with new:=m.clock+1}.dV 0) rfl rfl (zF _ _).2.1 mv.row mv.out mv.sum mv.op (fun row _ q=>?_);unfold vG at q;rw[hp] at q;unfold aY.dV;split<;>exact q
 |Gb=>
  rw[CV ha hp];have u1:∃s',RInv N rs (m.set n (a.bZ 0)) s':=A9 R I L hn hN ha hfin (by rw[hp];rfl) (a.bZ 0) rfl rfl (p8 (N:=N) (m:=m) (cw:=cw) (n:=n) (b:=⟨0,0,0,0,0,0,false,[]⟩) a 0).2.1 (iR a 0).row (iR a 0).out (iR a 0).sum (iR a 0).op (fun row _ _=>CE R I L hn hN ha hfin a 0 row);have u2:∃s',RInv N rs (m.set n (a.dV (a.s+1))) s':=by
   have mv:=vV a (a.s+1);refine A9 R I L hn hN ha hfin (by rw[hp];rfl) (a.dV (a.s+1)) rfl rfl (zF _ _).2.1 mv.row mv.out mv.sum mv.op (fun row _ q=>?_);unfold vG at q;rw[hp] at q;unfold aY.dV;split<;>exact q
  repeat' split
  all_goals first|exact u1|exact u2
 |Hu=>
  obtain⟨q1,q2,row,j,b,q3,q4,q5,q6,q7,q8⟩:=T.open_ (by rw[hp];rfl);rw[hp] at q8;obtain⟨b',hb',ht, -,hk0, -⟩:=I.eF.kR q3;rw[q4] at hb';cases hb';have HA:=L.th n hn;rw[ha] at HA;have hne:=HA.some;rw[hp] at hne;have e1:a.kE 0={a with pt:=.wb,i:=0}:=by unfold aY.kE;rw[if_pos (List.length_pos_iff.2 hne)]
  rw[Cr ha hp,e1];have hs:=(kN (i:=m.evs.length) (e:=⟨n,7,a.new,1⟩) (show n<4 by omega) rfl hlive q3).2.1 rfl;obtain⟨c1,c2,c3⟩:=Ew (f:=bW ⟨n,7,a.new,1⟩ m.evs.length) hok q3 q4 hk0 ht rfl rfl;have hsum:Xq b.done=a.sum:=q6.sum;refine⟨_,R.event (n:=n) rfl hs (fun k hk=>jG _ _ hk) (R.rows.modify hok q3 q4 hk0 ht rfl (fun row' z g1 g2=>⟨z,g2,fun _=>?_⟩)) (fun k hk=>jG _ _ hk) (fun k i hk hi=>kV (I.eF.other hk q3 hi)) (fun k hk=>c3 k hk) (fun _=>?_)⟩
  ·rw[zH hok q3 q4 hk0,q1,q5] at g1;cases g1;show b.done.length=_;rw[q7];exact q8
  ·show wF (rs n) _ n (upd m.aT n _ n) (upd s.opn n none n);rw[gm,gm];exact wF.fine (.inl rfl) (by show vI _ n=a.row+1;rw[c2,q1]) (by rw[c1];show _=a.out++[a.sum];rw[q2,<-hsum];rfl) (bu.1 q5).1
 |wb=>
  cases hc:a.log[a.i]? with
  |none=>
   refine⟨s,?_⟩;unfold AS.act;rw[ha];simp only[hp,hc];exact R
  |some c=>
   rw[GQ ha hp hc];have mv:=BC {a with buf:=a.buf++[gD.dat c.1 c.2]} (a.i+1);refine ado R I L hn hN ha hfin (.inl hp) ({a with buf:=a.buf++[gD.dat c.1 c.2]}.kE (a.i+1)) rfl rfl ?_ mv.row mv.out mv.sum;unfold aY.kE aY.iw
   repeat' split
   all_goals first|exact .inl rfl|exact .inr (.inl rfl)|exact .inr (.inr rfl)
 |rel=>
  rw[Cs ha hp];have mv:=vT {a with buf:=a.buf++[gD.lock a.s (2*a.new)],held:=upd a.held a.s false} (a.s+1);refine ado R I L hn hN ha hfin (.inr (.inl hp)) ({a with buf:=a.buf++[gD.lock a.s (2*a.new)],held:=upd a.held a.s false}.iw (a.s+1)) rfl rfl ?_ mv.row mv.out mv.sum;unfold aY.iw;split
  ·exact .inr (.inl rfl)
  ·exact .inr (.inr rfl)
 |Kn=>
  rw[CO ha hp];have mv:=iR {a with buf:=a.buf++[gD.lock a.s (a.old a.s)],held:=upd a.held a.s false} (a.s+1);exact A9 R I L hn hN ha hfin (by rw[hp];rfl) ({a with buf:=a.buf++[gD.lock a.s (a.old a.s)],held:=upd a.held a.s false}.bZ (a.s+1)) rfl rfl (p8 (N:=N) (m:=m) (cw:=cw) (n:=n) (b:=⟨0,0,0,0,0,0,false,[]⟩) _ _).2.1 mv.row mv.out mv.sum mv.op (fun row _ _=>CE R I L hn hN ha hfin _ _ row)
 |yz=>
  obtain⟨q1,q2,row,j,b,q3,q4,q5, -⟩:=T.open_ (by rw[hp];rfl);obtain⟨b',hb',ht, -,hk0, -⟩:=I.eF.kR q3;rw[q4] at hb';cases hb';rw[Cu ha hp];have hs:=(kN (i:=m.evs.length) (e:=⟨n,8,0,0⟩) (show n<4 by omega) rfl hlive q3).2.2 rfl;have hcm:=fun u=>vv (f:=closed 2 m.evs.length) q4 hk0 (by simp[closed]) u
  refine⟨_,R.event (n:=n) rfl hs (fun k hk=>jG _ _ hk) (R.rows.modify hok q3 q4 hk0 ht rfl (fun row' z g1 g2=>⟨z,g2,fun q=>by simp[closed] at q⟩)) (fun k hk=>jG _ _ hk) (fun k i hk hi=>kV (I.eF.other hk q3 hi)) (fun k _=>hcm k) (fun _=>?_)⟩;show wF (rs n) _ n (upd m.aT n _ n) (upd s.opn n none n);rw[gm,gm];exact wF.rest (.inl ⟨rfl,(bu.1 q5).1⟩) (by rw[(hcm n).1];exact q1) (by rw[(hcm n).2];exact q2)
 |out=>
  obtain⟨q1,q2,q3⟩:=T.done (.inr (.inr hp));have ho:s.opn n=none:=I.idle n hn (by rw[ha,hp];rfl);rw[Cv ha hp];have mv:=yF {a with row:=a.row+1,out:=a.out++[a.sum]} (rs n);have hre:=Dx (a:={a with row:=a.row+1,out:=a.out++[a.sum]}) (rs:=rs n) (Nat.succ_le_of_lt q3);generalize({a with row:=a.row+1,out:=a.out++[a.sum]}.jT (rs n):aY)=a' at mv hre⊢;refine⟨_,R.event (n:=n) rfl (DJ (show n<4 by omega) hlive ho) (fun k hk=>jG _ _ hk) R.rows (fun _ _=>rfl) (fun _ _ _ _=>rfl) (fun _ _=>⟨rfl,rfl⟩) (fun _=>?_)⟩;show wF (rs n) _ n (upd m.aT n a' n) (s.opn n);rw[gm];exact wF.rest hre (by rw[mv.row];exact q1) (by rw[mv.out];exact q2.symm)
 |halt=>
  obtain⟨q1,q2⟩:=T.idle (.inr hp);have q3:=T.halt hp;have ho:s.opn n=none:=I.idle n hn (by rw[ha,hp];rfl);rw[Aa ha hp];refine⟨_,R.event (n:=n) rfl (EJ (show n<4 by omega) hlive ho) (fun k hk=>jG _ _ hk) R.rows (fun _ _=>rfl) (fun _ _ _ _=>rfl) (fun _ _=>⟨rfl,rfl⟩) (fun _=>?_)⟩;show wF (rs n) _ n (upd m.aT n _ n) (s.opn n);rw[gm];exact wF.gone rfl T.le (.inl ⟨rfl,by rw[q1,q3]⟩) q2
 |over=>rw[zn ha hp];exact⟨s,R⟩
end
theorem RInv.start (N:Nat) (rs:Nat->List (List Tx)):RInv N rs (AS.start rs) HS.init:=by
 refine⟨rfl,fun i x hx=>by simp[HS.init] at hx,fun n hn=>?_⟩;have h:=Dx (a:=aY.none) (rs:=rs n) (Nat.zero_le _);exact wF.rest h (yF aY.none (rs n)).row.symm (yF aY.none (rs n)).out
end
def lq (W:FC) (M:Nat) (st:MM×Int):Prop:=∃m ks s cw,Ak W st.1 m ks/\cZ W.N W.words m/\eB W.N W.words M m s cw/\RInv W.N W.rs m s/\m.clock<=st.2
theorem lq.act {W:FC} {M:Nat} {st:MM×Int} (ok:yt W) (hM:(M:Int)=W.words+1) (h:lq W M st) (hst:st.2<2305843009213693951) (a:BO):lq W M (nW st a):=by
 obtain⟨m,ks,s,cw,h1,h2,h3,hr,h4⟩:=h;cases a with
 |step z=>
  show lq W M ((st.1.step z).2,if(st.1.step z).1=true then st.2+1 else st.2);by_cases hz:z<0
  ·rw[(K7 hz).1];exact⟨m,ks,s,cw,h1,h2,h3,hr,h4⟩
  ·obtain⟨n,rfl⟩:∃n:Nat,z=n:=⟨z.toNat,by omega⟩;cases h1.step ok h2 (by omega) n with
   |none e _=>rw[e];exact⟨m,ks,s,cw,h1,h2,h3,hr,h4⟩
   |own k e _ _ hs=>rw[if_pos e];exact⟨m,_,s,cw,hs,h2,h3,hr,by show m.clock<=st.2+1;omega⟩
   |act k e hn hf hb _ hs=>
    obtain⟨L',s',O4,I'⟩:=h3.act (rs:=W.rs n) h2 hn ok.n (FC.wf ok hn) hM hf hb;obtain⟨s2,R'⟩:=RInv.act hr h3 h2 hn ok.n rfl hf hb;have es:s2=s':=by
     have e1:=R'.eF;rw[I'.eF.eF] at e1;cases e1;rfl
    rw[if_pos e];have:=R3 (W.rs n) m n;exact⟨_,_,s',O4,hs,L',I',by rw[<-es];exact R',by show(m.act (W.rs n) n).clock<=st.2+1;omega⟩
 |flush z=>
  show lq W M ((st.1.flush z).2,st.2);by_cases hz:z<0
  ·rw[(K7 hz).2];exact⟨m,ks,s,cw,h1,h2,h3,hr,h4⟩
  ·obtain⟨n,rfl⟩:∃n:Nat,z=n:=⟨z.toNat,by omega⟩;rcases h1.flush ok h2 n with q|⟨hn,hb,q⟩
   ·exact⟨m,ks,s,cw,q,h2,h3,hr,h4⟩
   ·exact⟨_,ks,s,cw,q,h2.flush hn,h3.flush h2 hn,hr.flush n,by rw[Jr];exact h4⟩
theorem lq.acts {W:FC} {M:Nat} (ok:yt W) (hM:(M:Int)=W.words+1) (l:List BO):∀{st:MM×Int},lq W M st->st.2+l.length<2305843009213693951->lq W M (a_ st l):=by
 induction l with
 |nil=>intro st h _;exact h
 |cons a l ih=>
  intro st h hl;simp only[List.length_cons] at hl;have:=U8 st a;exact ih (h.act ok hM (by omega) a) (by omega)
theorem lq.start {W:FC} {M:Nat} (ok:yt W) (hsz:W.words+18<=W.size):lq W M (gF W.size ((List.range W.N).map (fun n=>bM (W.tx n) (W.rs n))) [],0):=
 ⟨_,_,_,_,Ak.start ok hsz,cZ.start _ _ _,eB.start _ _ _ _,RInv.start _ _,Int.le_refl _⟩
section
variable {w w':World} {base:Nat}
structure D9 (w:World) (base x:Nat) (l:List dB) (v:Value):Prop where
 box:w.heap[x]? =some (.cells #[v] 23 (0,0))
 row:w.ownsRow base 42 3 v l.length (l.flatMap fU)
 ne:v.ownBlock≠some x
theorem D9.keep {x:Nat} {l:List dB} {v:Value} (h:D9 w base x l v) (hk:∀g,g=x\/v.ownBlock=some g->g<w.heap.size->w'.heap[g]? =w.heap[g]?):D9 w' base x l v:=
 ⟨(hk x (.inl rfl) (lt_of_block h.box)).trans h.box,aP h.row fun g hg hl=>hk g (.inr hg) hl,h.ne⟩
end
section
variable {w w':World} {base:Nat}
structure LU (w0 w:World) (xa xb:Nat) (A B:List dB) (va vb:Value):Prop where
 a:D9 w w0.heap.size xa A va
 b:D9 w w0.heap.size xb B vb
 ab:va.ownBlock≠some xb
 ba:vb.ownBlock≠some xa
 rows:∀g,va.ownBlock=some g->vb.ownBlock≠some g
 ne:xa≠xb
 la:w0.heap.size<=xa
 lb:w0.heap.size<=xb
 old:Below w0.heap.size w0 w
theorem LU.below {w0 w w':World} {xa xb:Nat} {A B:List dB} {va vb:Value} (h:LU w0 w xa xb A B va vb) (hb:Below w.heap.size w w'):LU w0 w' xa xb A B va vb:=
 ⟨h.a.keep fun g _ hl=>hb.block g hl,h.b.keep fun g _ hl=>hb.block g hl,h.ab,h.ba,h.rows,h.ne,h.la,h.lb,h.old.trans (hb.mono h.old.size)⟩
theorem vk {l:List dB} (h:(dK l).2=0):l.length<=65536/\l.any nO=false/\total l<=1048576/\(dK l).1=total l:=by
 unfold dK at h⊢;split at h
 ·cases h
 split at h
 ·cases h
 split at h
 ·cases h
 rename_i h1 h2 h3;rw[if_neg h1,if_neg h2,if_neg h3];exact⟨by omega,by simpa using h2,by omega,rfl⟩
end
section
variable {w w':World}
def tZ (mem:Int) (l:List (Value×List bR)) (cs:List (Int×Int)) (sc:List dB):Int:=if cB mem l cs≠0 then cB mem l cs else(dK sc).2
end
def x_ (mm:MM) (r:Bool×MM):Prop:=r.2.evs.length<=mm.evs.length+(if r.1=true then 1 else 0)
theorem abx (mm:MM) (n:Nat) (t:MT):x_ mm (mm.go n t):=by
 have hst:∀k,x_ mm (true,mm.stop n t k):=fun k=>by simp[x_,MM.stop,MM.tell,MM.put]
 have adW:∀o a,(mm.act n t o a).evs.length<=mm.evs.length+1:=fun o a=>by
  unfold MM.act;by_cases h1:o.kind=1
  ·rw[if_pos h1];simp[MM.put,MM.tell,MM.stop]
  rw[if_neg h1];by_cases h2:o.kind=2
  ·rw[if_pos h2];simp[MM.put,MM.tell,MM.stop]
  rw[if_neg h2];by_cases h3:o.kind=3
  ·rw[if_pos h3];cases gX o.bD (t.r o.a) (t.r o.b)<;>simp[MM.put,MM.tell,MM.stop]
  rw[if_neg h3];by_cases h4:o.kind=4
  ·rw[if_pos h4];simp[MM.put,MM.tell,MM.stop]
  rw[if_neg h4];by_cases h5:o.kind=5
  ·rw[if_pos h5];simp[MM.put,MM.tell,MM.stop]
  rw[if_neg h5];by_cases h6:o.kind=6
  ·rw[if_pos h6];simp[MM.put,MM.tell,MM.stop]
  rw[if_neg h6];by_cases h7:o.kind=7
  ·rw[if_pos h7];simp[MM.put,MM.tell,MM.stop]
  rw[if_neg h7];by_cases h8:o.kind=8
  ·rw[if_pos h8];simp[MM.put,MM.tell,MM.stop]
  rw[if_neg h8];by_cases h9:o.kind=9
  ·rw[if_pos h9];simp[MM.put,MM.tell,MM.stop]
  rw[if_neg h9];by_cases h10:o.kind=10
  ·rw[if_pos h10];simp[MM.put,MM.tell,MM.stop]
  rw[if_neg h10];by_cases h11:o.kind=11
  ·rw[if_pos h11];simp[MM.put,MM.tell,MM.stop]
  rw[if_neg h11];by_cases h12:o.kind=12
  ·rw[if_pos h12];simp[MM.put,MM.tell,MM.stop]
  rw[if_neg h12];by_cases CK:o.kind=13
  ·rw[if_pos CK];simp[MM.put,MM.tell,MM.stop]
  rw[if_neg CK];by_cases xY:o.kind=14
  ·rw[if_pos xY];simp[MM.put,MM.tell,MM.stop]
  rw[if_neg xY];by_cases ES:o.kind=15
  ·rw[if_pos ES];simp[MM.put,MM.tell,MM.stop]
  rw[if_neg ES];exact Nat.le_succ _
 have hact:∀o a,x_ mm (true,mm.act n t o a):=fun o a=>adW o a
 have hno:x_ mm (false,mm):=by simp[x_]
 unfold MM.go;split
 ·exact hst _
 ·split
  ·split
   ·exact hno
   ·exact hact _ _
  ·split
   ·split
    ·exact hno
    ·exact hact _ _
   ·exact hst _
theorem Ti (mm:MM) (z:Int):x_ mm (mm.step z):=by
 have hno:x_ mm (false,mm):=by simp[x_]
 unfold MM.step;split
 ·exact hno
 ·split
  ·exact hno
  ·exact abx _ _ _
theorem Q7 (mm:MM) (z:Int):(mm.flush z).2.evs=mm.evs:=by
 unfold MM.flush;split
 ·rfl
 ·split<;>rfl
theorem Yn (st:MM×Int) (a:BO):((nW st a).1.evs.length:Int) - (nW st a).2<=(st.1.evs.length:Int) - st.2:=by
 cases a with
 |step z=>
  have:=Ti st.1 z;unfold x_ at this;show(((st.1.step z).2.evs.length:Int) - (if(st.1.step z).1=true then st.2+1 else st.2))<=_;split at this
  ·rename_i h;rw[if_pos h];omega
  ·rename_i h;rw[if_neg h];omega
 |flush z=>
  show(((st.1.flush z).2.evs.length:Int) - st.2)<=_;rw[Q7];exact Int.le_refl _
theorem Vy (l:List BO):∀(st:MM×Int),((a_ st l).1.evs.length:Int) - (a_ st l).2<=(st.1.evs.length:Int) - st.2:=by
 induction l with
 |nil=>intro st;exact Int.le_refl _
 |cons a l ih=>intro st;exact Int.le_trans (ih (nW st a)) (Yn st a)
theorem S9 (p:dB) (k:Nat):∀(st:MM×Int),(a_ st (bP p k)).2<=st.2+k/\(bP p k).length<=2*k:=by
 induction k with
 |zero=>intro st;exact⟨by show st.2<=_;omega,aB _⟩
 |succ k ih=>
  intro st;obtain⟨h1,h2⟩:=ih st;unfold bP;rw[iU,List.length_append];have h3:=(uQ (a_ st (bP p k)) p).2;have h4:(jB p).length<=2:=by unfold jB;(repeat' split)<;>simp
  exact⟨by omega,by omega⟩
theorem YI (l:List dB) (hb:l.any nO=false) (ht:total l<=1048576):∀(st:MM×Int),(a_ st (gy l)).2<=st.2+total l/\((gy l).length:Int)<=2*total l:=by
 induction l with
 |nil=>intro st;exact⟨by show st.2<=st.2+0;omega,Int.le_refl _⟩
 |cons p l ih=>
  intro st;simp only[List.any_cons,Bool.or_eq_false_iff] at hb;have hp:=hb.1;have h0:=oI hb.2;have hpl:=zD hp;have e:total (p::l)=pF p+total l:=by simp[total]
  rw[e] at ht⊢;have hn:(p.n.toNat:Int)<=pF p:=by
   unfold nO at hp;simp only[Bool.or_eq_false_iff,decide_eq_false_iff_not] at hp;unfold pF at ht⊢;split at ht
   ·rename_i h;rw[if_pos h];omega
   ·rename_i h;rw[if_neg h];omega
  obtain⟨h1,h2⟩:=S9 p p.n.toNat st;obtain⟨h3,h4⟩:=ih hb.2 (by omega) (a_ st (bP p p.n.toNat));have e2:gy (p::l)=bP p p.n.toNat++gy l:=rfl;rw[e2,iU,List.length_append];exact⟨by omega,by omega⟩
theorem E8 {s s':HS} {x:Ev} {i:Nat} (hok:yV s i) (hs:fC s x i=some s'):s'.aU.length+(s'.aU.map fun a=>a.done.length).sum<=s.aU.length+(s.aU.map fun a=>a.done.length).sum+1:=by
 have hmod:∀(l:List bJ) (j:Nat) (f:bJ->bJ),(∀a,(f a).done.length<=a.done.length+1)->((l.modify j f).map fun a=>a.done.length).sum<=(l.map fun a=>a.done.length).sum+1:=by
  intro l;induction l with
  |nil=>intro j f _;simp
  |cons a l ih=>
   intro j f hf;cases j with
   |zero=>
    have:=hf a;simp;omega
   |succ j=>
    have:=ih j f hf;simp only[List.modify_succ_cons,List.map_cons,List.sum_cons];omega
 unfold fC at hs;by_cases c1:x.th<0\/4<=x.th
 ·rw[if_pos c1] at hs;cases hs
 rw[if_neg c1] at hs;by_cases c2:s.ended x.th.toNat=true
 ·rw[if_pos c2] at hs;cases hs
 rw[if_neg c2] at hs;have fin:∀(j:Nat) (f:bJ->bJ) (o:Nat->Option Nat) (e:Nat->Bool),(∀a,(f a).done.length<=a.done.length+1)->some (⟨s.aU.modify j f,o,e⟩:HS)=some s'->s'.aU.length+(s'.aU.map fun a=>a.done.length).sum<=s.aU.length+(s.aU.map fun a=>a.done.length).sum+1:=by
  intro j f o e hf h;cases h;have:=hmod s.aU j f hf;simp only[List.length_modify];omega
 cases ho:s.opn x.th.toNat with
 |none=>
  rw[ho] at hs;simp only at hs;split at hs
  ·cases hs;simp[begun];omega
  ·split at hs
   ·cases hs;omega
   ·split at hs
    ·cases hs;simp only;omega
    ·cases hs
 |some j=>
  rw[ho] at hs;simp only at hs;split at hs
  ·exact fin j _ _ _ (fun a=>by simp[more]) hs
  ·split at hs
   ·exact fin j _ _ _ (fun a=>by simp[bW]) hs
   ·split at hs
    ·exact fin j _ _ _ (fun a=>by simp[closed]) hs
    ·split at hs
     ·exact fin j _ _ _ (fun a=>by simp[closed]) hs
     ·cases hs
theorem YQ (l:List Ev):∀{s s':HS} {i:Nat},yV s i->jK l i s= .inl s'->s'.aU.length+(s'.aU.map fun a=>a.done.length).sum<=s.aU.length+(s.aU.map fun a=>a.done.length).sum+l.length:=by
 induction l with
 |nil=>intro s s' i _ hr;simp only[jK,Sum.inl.injEq] at hr;subst hr;simp
 |cons x l ih=>
  intro s s' i h hr;simp only[jK] at hr;cases hs:fC s x i with
  |none=>rw[hs] at hr;cases hr
  |some t=>
   rw[hs] at hr;have h1:=ih (h.step hs) hr;have h2:=E8 h hs;simp only[List.length_cons];omega
theorem Nr {words:Int} {rs:List (List (List Tx))} (h:gp words (dU rs.length)=0) (h4:rs.length<=4) (hwf:∀r∈rs,∀l∈r,∀o∈l,1<=o.at_/\o.at_<=words) {sl:List dB} (hl:(dK sl).2=0):
  lq (He words rs) (words+1).toNat (a_ (gF (dA words rs.length) ((List.range rs.length).map (fun n=>bM (fF words rs.length n) (rs.getD n []))) [],0) (gy sl))/\(a_ (gF (dA words rs.length) ((List.range rs.length).map (fun n=>bM (fF words rs.length n) (rs.getD n []))) [],0) (gy sl)).1.evs.length<=1048576:=by
 obtain⟨w0,hsz,hle, -⟩:=IC h;obtain⟨-,l1,l2, -⟩:=vk hl;have ok:=Qs h h4 hwf;have b:=YI sl l1 l2 (gF (dA words rs.length) ((List.range rs.length).map (fun n=>bM (fF words rs.length n) (rs.getD n []))) [],0);have b2:=Vy (gy sl) (gF (dA words rs.length) ((List.range rs.length).map (fun n=>bM (fF words rs.length n) (rs.getD n []))) [],0);have e0:(gF (dA words rs.length) ((List.range rs.length).map (fun n=>bM (fF words rs.length n) (rs.getD n []))) []).evs=[]:=rfl;simp only[e0] at b b2;refine⟨lq.acts ok (by show((words+1).toNat:Int)=words+1;omega) _ (lq.start (W:=He words rs) ok (by show words+18<=dA words rs.length;omega)) (by simp only;omega),by have b3:=b.1;have e1:(([]:List Ev).length:Int)=0:=rfl;rw[e1] at b2;omega⟩
theorem Bb.below {w w':World} {v:Value} {ls:List SX} (h:Bb w v ls) (hb:Below w.heap.size w w'):Bb w' v ls:=⟨Rd.below h.rows hb,fun s hs=>Rd.below (h.each s hs) hb⟩
section
variable {w w':World} {base b:Nat}
theorem XY {ca oL sa:Option Addr} {fo h_ yG:Nat} {l:List (Value×List bR)} {cs:List (Int×Int)} {sc:List dB} (h:mX w (.slice ca l.length fo) l) (hc:dH dQ w 2 (.slice oL cs.length h_) cs) (mem:Int) (hl:l.length<=6000000000000) (hcl:cs.length<=9000000000000) (hk:cB mem l cs=0)
  (hs:dH fU w 3 (.slice sa sc.length yG) sc) (hm:sc.length<=9000000000000) (hn:∀p∈sc, -9223372036854775808<=p.n/\0<=p.kind) (he:(dK sc).2=0):
  Calls Tryz.prog 29 #[.agg #[.slice ca l.length fo,.int .i64 mem,.slice oL cs.length h_],.slice sa sc.length yG] w (Jf (a_ (gF mem (l.map (·.2)) cs,0) (gy sc)) w):=by
 have H:=ag h;have HC:=ag hc;have HS:=ag hs;have HN:=ag hn;have HL:=ag hl;have Cb:=ag hcl;have HM:=ag hm;have HK:=ag hk;clear h hc hs hn hl hcl hm hk;have o1:=fun w a=>run_store Tryz.prog w a .nilFunc .plain rfl
 have o2:=fun w a f c d=>run_store Tryz.prog w a (.func f c d) .plain rfl
 have YO:∀(fn:Fn) (first cap:Array Value) (w:World),(Instr.makeFunc fn first cap).run Tryz.prog w= .ok (.func fn first cap) w:=fun _ _ _ _=>rfl
 go_in;have hb0:Below w.heap.size w ((w.alloc (.cells #[.slice ca l.length fo,.int .i64 mem,.slice oL cs.length h_] 30)).alloc (.cells #[.slice none 0 0,.slice none 0 0,.int .i64 0] 66)):=((au w.heap.size w).alloc (aB _) _).alloc (by simp) _;have htr:=iT w (.cells #[.slice ca l.length fo,.int .i64 mem,.slice oL cs.length h_] 30) (.cells #[.slice none 0 0,.slice none 0 0,.int .i64 0] 66);have H0:=ag (H.out.below hb0);have CY:=ag (Rd.below HC.out hb0);have HB0:=ag hb0;have ZQ:=ag htr;clear hb0 htr;go_wp2_with fail;refine(YY H0.out CY.out mem HL.out Cb.out HK.out).mono ?_;rintro e w1 ⟨b,own,xs,mv,tv,rfl,xq,hb⟩;have Tq:=ag xq;have HB:=ag (Iz (au w.heap.size w) hb);have HT1:=ag (blk hb ZQ.out);clear xq hb ZQ;go_wp2_with fail;have hbx:Below w1.heap.size w1 (w1.alloc (.cells #[.pointer (some ⟨b,0,none⟩)] 144)):=(au _ _).alloc (aB _) _;have ET:=ag (show w.heap.size+2<=w1.heap.size from by have h9:=(mH.zO (tQ.of Tq.out (Hz H0.out HK.out))).fQ;simpa using h9);have Lr:=ag (((mH.zO (show tQ w1 (w.heap.size+2) b _ 0 from by have h9:=tQ.of Tq.out (Hz H0.out HK.out);simpa using h9)).aaX (q:=w.heap.size+1) (by omega)).alloc (.cells #[.pointer (some ⟨b,0,none⟩)] 144));have vP:=ag (fe HB.out hbx);have HTX:=ag (blk hbx HT1.out);have KO:=ag (aj w1 (.cells #[.pointer (some ⟨b,0,none⟩)] 144));clear hbx HT1 Tq HB;refine(Oj (Rd.below HS.out vP.out) HM.out HN.out).mono ?_;rintro e w2 ⟨rfl,hb⟩;rw[he];have HB2:=ag (fe vP.out hb);have HT2:=ag (blk hb HTX.out);have MZ:=ag (blk hb KO.out);have Lp:=ag (Lr.out.below hb);clear hb HTX KO Lr vP;have hrun:j4 ((w2.alloc (.cells #[.int .i64 0] 3)).alloc (.cells #[.func (.func 62) #[] #[.pointer (some ⟨w1.heap.size,0,none⟩),.pointer (some ⟨w2.heap.size,0,none⟩)]] 147)) (w.heap.size+2) b w1.heap.size w2.heap.size (w2.heap.size+1) (gF mem (l.map (·.2)) cs) 0 0 [w2.heap.size+1,w2.heap.size,w1.heap.size,w.heap.size+1]:=by
  have h0:=Lp.out;have h1:=(h0.alloc (.cells #[.int .i64 0] 3)).alloc (.cells #[.func (.func 62) #[] #[.pointer (some ⟨w1.heap.size,0,none⟩),.pointer (some ⟨w2.heap.size,0,none⟩)]] 147);rw[World.size_alloc] at h1;have hl:=lt_of_block MZ.out;have hl2:=HB2.out.size;have hl3:=h0.fQ;exact⟨h1,aZ (aZ MZ.out),aZ (aj _ _),iT _ _ _,by simp,by simp,by simp,by omega,by omega,by omega⟩
 have EX:=ag hrun;have HT3:=ag (aZ (o:=.cells #[.func (.func 62) #[] #[.pointer (some ⟨w1.heap.size,0,none⟩),.pointer (some ⟨w2.heap.size,0,none⟩)]] 147) (aZ (o:=.cells #[.int .i64 0] 3) HT2.out));have HB3:=ag ((HB2.out.alloc HB2.out.size (.cells #[.int .i64 0] 3)).alloc (by have:=HB2.out.size;simp;omega) (.cells #[.func (.func 62) #[] #[.pointer (some ⟨w1.heap.size,0,none⟩),.pointer (some ⟨w2.heap.size,0,none⟩)]] 147));have O1:=ag (vk he);clear hrun he;go_wp2_with fail;go_loopw [36] (fun i w'=>∃k:Nat,k<=sc.length/\i= .int .i64 (k:Int)/\Hid (∃N':Nat,(N':Int)<=total (sc.take k)/\0<=(a_ (gF mem (l.map (·.2)) cs,0) (gy (sc.take k))).2/\(a_ (gF mem (l.map (·.2)) cs,0) (gy (sc.take k))).2<=N'/\
  j4 w' (w.heap.size+2) b w1.heap.size w2.heap.size (w2.heap.size+1) (a_ (gF mem (l.map (·.2)) cs,0) (gy (sc.take k))).1 (a_ (gF mem (l.map (·.2)) cs,0) (gy (sc.take k))).2 N' [w2.heap.size+1,w2.heap.size,w1.heap.size,w.heap.size+1])/\
  Hid (w'.heap[w.heap.size+1]? =some (.cells #[.slice none 0 0,.slice none 0 0,.int .i64 0] 66 (0,0)))/\Hid (Below w.heap.size w w')) (fun i _=>((sc.length:Int) - intOf i).toNat)
 case atStart=>exact⟨0,by omega,rfl,⟨0,by simp[total],by simp[gy,a_],by simp[gy,a_],EX.out⟩,HT3,HB3⟩
 case round=>
  clear HT3 HB3 EX HT2 HB2 MZ Lp;obtain⟨k,hk,rfl,HR,HT,HB⟩:=hrel;by_cases hlt:k<sc.length
  ·obtain⟨x,hx⟩:=bE hlt;obtain⟨b1,o1',rfl,hs1,hc1⟩:=dH.at qN (Rd.below HS.out HB.out) hx;have x0:=hc1 0 _ rfl;have x1:=hc1 1 _ rfl;have x2:=hc1 2 _ rfl;simp only[Nat.add_zero] at x0;obtain⟨kk,th,nn⟩:=x;simp only at x0 x1 x2;have hbx:nO ⟨kk,th,nn⟩=false:=by
    have:=List.any_eq_false.1 O1.out.2.1 _ (bC hx);simpa using this
   have hn0:0<=nn:=by unfold nO at hbx;simp at hbx;omega
   have hp0:=zD hbx;have htk:total (sc.take (k+1))<=1048576:=by
    have h1:=xB (sc.take (k+1)) (sc.drop (k+1));rw[List.take_append_drop] at h1;have:0<=total (sc.drop (k+1)):=oI (by
     refine List.any_eq_false.2 fun y hy=>?_
     exact List.any_eq_false.1 O1.out.2.1 y (List.mem_of_mem_drop hy))
    have:=O1.out.2.2.1;omega
   have ht0:0<=total (sc.take k):=oI (by
    refine List.any_eq_false.2 fun y hy=>?_
    exact List.any_eq_false.1 O1.out.2.1 y (List.mem_of_mem_take hy))
   rw[bU hx,nM] at htk;have hpl:nn<=pF ⟨kk,th,nn⟩:=by
    unfold pF at htk⊢;simp only at htk⊢;split at htk<;>split<;>omega
   obtain⟨N0,hN0,hq0,hq1,hR⟩:=HR.out;obtain⟨S,hS⟩:∃S,S=a_ (gF mem (l.map (·.2)) cs,0) (gy (sc.take k)):=⟨_,rfl⟩;rw[<-hS] at hq0 hq1 hR;have aal:=ag hS.symm;have Sv:=ag hN0;have Fe:=ag hpl;have Cq:Hid (nn<=1048576/\total (sc.take k)<=1048576):=ag ⟨by omega,by omega⟩;have HX:=ag hx;have hnb:nn<=1048576:=Cq.out.1;have hkb:sc.length<=65536:=O1.out.1;obtain⟨w3,rfl⟩:∃q,q=wr:=⟨_,rfl⟩;clear hc1 hx hbx hp0 htk ht0 hpl hN0 hS HR;by_cases hk1:kk=1
   ·subst hk1;go_wp2_with fail;have hpb:=aj w3 (.cells (fU ⟨1,th,nn⟩).toArray 42);have F8:=ag hpb;clear hpb;have ZG:=ag (hR.MU (.cells (fU ⟨1,th,nn⟩).toArray 42));have Ze:=ag (aZ (o:=.cells (fU ⟨1,th,nn⟩).toArray 42) HT.out);have Zi:=ag (HB.out.alloc HB.out.size (.cells (fU ⟨1,th,nn⟩).toArray 42));have hne:w3.heap.size≠w2.heap.size:=by have:=lt_of_block hR.s;omega
    have hne2:w.heap.size+1≠w2.heap.size:=by have:=hR.lo;omega
    have Fh:=ag hne;have VF:=ag hne2;have EU:Hid (0<=S.2/\S.2<=N0):=ag ⟨hq0,hq1⟩;clear hR hq0 hq1 hne hne2 HT HB;go_loopw [51] (fun i w'=>∃j:Nat,(j:Int)<=nn/\i= .int .i64 (j:Int)/\Hid (∃N':Nat,(N':Int)<=N0+j/\0<=(a_ S (bP ⟨1,th,nn⟩ j)).2/\(a_ S (bP ⟨1,th,nn⟩ j)).2<=N'/\
     j4 w' (w.heap.size+2) b w1.heap.size w2.heap.size (w2.heap.size+1) (a_ S (bP ⟨1,th,nn⟩ j)).1 (a_ S (bP ⟨1,th,nn⟩ j)).2 N' [w3.heap.size,w2.heap.size+1,w2.heap.size,w1.heap.size,w.heap.size+1])/\
     Hid (w'.heap[w3.heap.size]? =some (.cells (fU ⟨1,th,nn⟩).toArray 42 (0,0)))/\Hid (w'.heap[w.heap.size+1]? =some (.cells #[.slice none 0 0,.slice none 0 0,.int .i64 0] 66 (0,0)))/\Hid (Below w.heap.size w w')) (fun i _=>nn.toNat - (intOf i).toNat)
    case atStart=>exact⟨0,hn0,rfl,⟨N0,by simp,by simpa [bP,a_] using EU.out.1,by simpa [bP,a_] using EU.out.2,ZG.out⟩,F8,Ze,Zi⟩
    case round=>
     clear F8 Ze Zi ZG;obtain⟨j,hj,rfl,HR,F8,HT,HB⟩:=hrel;by_cases hlt2:(j:Int)<nn
     ·obtain⟨N1,hN1,h0,h1,hR⟩:=HR.out;have HRR:=ag hR;have H0:=ag h0;have H1:=ag h1;have X5:=ag hN1;clear HR hR h0 h1 hN1;go_wp2_with fail;refine(afw HRR.out F8.out rfl).mono ?_;rintro e w4 ⟨rfl,hr4,hst,hb4⟩;have hsn:a_ S (bP ⟨1,th,nn⟩ (j+1))=a_ (a_ S (bP ⟨1,th,nn⟩ j)) (jB ⟨1,th,nn⟩):=by rw[bP,iU]
      rw[show((a_ S (bP ⟨1,th,nn⟩ j)).1,(a_ S (bP ⟨1,th,nn⟩ j)).2)=a_ S (bP ⟨1,th,nn⟩ j) from rfl,<-hsn] at hr4;have hstp:=uQ (a_ S (bP ⟨1,th,nn⟩ j)) ⟨1,th,nn⟩;rw[<-hsn] at hstp;have HR4:=ag hr4;have HST:=ag hstp;have Vr:=ag ((hst w3.heap.size (by simp) Fh.out).trans F8.out);have Md:=ag ((hst (w.heap.size+1) (by simp) VF.out).trans HT.out);have sN:=ag (HB.out.trans (hb4.mono (by omega)));clear hr4 hst hb4 hsn hstp;go_wp2_with fail;exact⟨⟨j+1,by omega,by go_num,⟨N1+1,by have:=X5.out;omega,by have:=H0.out;have:=HST.out;omega,by have:=H1.out;have:=HST.out;omega,HR4.out.more⟩,Vr,Md,sN⟩,by simp[intOf];omega⟩
     ·have hjn:nn.toNat=j:=by omega
      go_wp2_with fail;obtain⟨N1,hN1,h0,h1,hR⟩:=HR.out;have hfin:a_ (gF mem (l.map (·.2)) cs,0) (gy (sc.take (k+1)))=a_ S (bP ⟨1,th,nn⟩ j):=by
       rw[bU HX.out,yC,iU,aal.out];simp only[tL];rw[hjn]
      exact⟨⟨k+1,by omega,by go_num,⟨N1,by rw[bU HX.out,nM];have:=Sv.out;have:=Fe.out;omega,by rw[hfin];exact h0,by rw[hfin];exact h1,by rw[hfin];exact hR.less (fun q hq=>by simp at hq;simp[hq]) (by simp) (by simp) (by simp)⟩,HT,HB⟩,by simp[intOf];omega⟩
   ·have ai6:(kk==1)=false:=by simpa using hk1
    by_cases hk2:kk=2
    ·subst hk2;go_wp2_with fail;have hpb:=aj w3 (.cells (fU ⟨2,th,nn⟩).toArray 42);have F8:=ag hpb;clear hpb;have ZG:=ag (hR.MU (.cells (fU ⟨2,th,nn⟩).toArray 42));have Ze:=ag (aZ (o:=.cells (fU ⟨2,th,nn⟩).toArray 42) HT.out);have Zi:=ag (HB.out.alloc HB.out.size (.cells (fU ⟨2,th,nn⟩).toArray 42));have hne:w3.heap.size≠w2.heap.size:=by have:=lt_of_block hR.s;omega
     have hne2:w.heap.size+1≠w2.heap.size:=by have:=hR.lo;omega
     have Fh:=ag hne;have VF:=ag hne2;have EU:Hid (0<=S.2/\S.2<=N0):=ag ⟨hq0,hq1⟩;clear hR hq0 hq1 hne hne2 HT HB;go_loopw [51] (fun i w'=>∃j:Nat,(j:Int)<=nn/\i= .int .i64 (j:Int)/\Hid (∃N':Nat,(N':Int)<=N0+j/\0<=(a_ S (bP ⟨2,th,nn⟩ j)).2/\(a_ S (bP ⟨2,th,nn⟩ j)).2<=N'/\
      j4 w' (w.heap.size+2) b w1.heap.size w2.heap.size (w2.heap.size+1) (a_ S (bP ⟨2,th,nn⟩ j)).1 (a_ S (bP ⟨2,th,nn⟩ j)).2 N' [w3.heap.size,w2.heap.size+1,w2.heap.size,w1.heap.size,w.heap.size+1])/\
      Hid (w'.heap[w3.heap.size]? =some (.cells (fU ⟨2,th,nn⟩).toArray 42 (0,0)))/\Hid (w'.heap[w.heap.size+1]? =some (.cells #[.slice none 0 0,.slice none 0 0,.int .i64 0] 66 (0,0)))/\Hid (Below w.heap.size w w')) (fun i _=>nn.toNat - (intOf i).toNat)
     case atStart=>exact⟨0,hn0,rfl,⟨N0,by simp,by simpa [bP,a_] using EU.out.1,by simpa [bP,a_] using EU.out.2,ZG.out⟩,F8,Ze,Zi⟩
     case round=>
      clear F8 Ze Zi ZG;obtain⟨j,hj,rfl,HR,F8,HT,HB⟩:=hrel;by_cases hlt2:(j:Int)<nn
      ·obtain⟨N1,hN1,h0,h1,hR⟩:=HR.out;have HRR:=ag hR;have H0:=ag h0;have H1:=ag h1;have X5:=ag hN1;clear HR hR h0 h1 hN1;go_wp2_with fail;refine(agy HRR.out F8.out (by simp) Fh.out (by have:=X5.out;have:=Sv.out;have:=Cq.out;omega) ⟨H0.out,by have:=H1.out;have:=X5.out;have:=Sv.out;have:=Cq.out;omega⟩ rfl).mono ?_;rintro e w4 ⟨rfl,hr4,hst,hb4⟩;have hsn:a_ S (bP ⟨2,th,nn⟩ (j+1))=a_ (a_ S (bP ⟨2,th,nn⟩ j)) (jB ⟨2,th,nn⟩):=by rw[bP,iU]
       rw[show((a_ S (bP ⟨2,th,nn⟩ j)).1,(a_ S (bP ⟨2,th,nn⟩ j)).2)=a_ S (bP ⟨2,th,nn⟩ j) from rfl,<-hsn] at hr4;have hstp:=uQ (a_ S (bP ⟨2,th,nn⟩ j)) ⟨2,th,nn⟩;rw[<-hsn] at hstp;have HR4:=ag hr4;have HST:=ag hstp;have Vr:=ag ((hst w3.heap.size (by simp) Fh.out).trans F8.out);have Md:=ag ((hst (w.heap.size+1) (by simp) VF.out).trans HT.out);have sN:=ag (HB.out.trans (hb4.mono (by omega)));clear hr4 hst hb4 hsn hstp;go_wp2_with fail;exact⟨⟨j+1,by omega,by go_num,⟨N1+1,by have:=X5.out;omega,by have:=H0.out;have:=HST.out;omega,by have:=H1.out;have:=HST.out;omega,HR4.out⟩,Vr,Md,sN⟩,by simp[intOf];omega⟩
      ·have hjn:nn.toNat=j:=by omega
       go_wp2_with fail;obtain⟨N1,hN1,h0,h1,hR⟩:=HR.out;have hfin:a_ (gF mem (l.map (·.2)) cs,0) (gy (sc.take (k+1)))=a_ S (bP ⟨2,th,nn⟩ j):=by
        rw[bU HX.out,yC,iU,aal.out];simp only[tL];rw[hjn]
       exact⟨⟨k+1,by omega,by go_num,⟨N1,by rw[bU HX.out,nM];have:=Sv.out;have:=Fe.out;omega,by rw[hfin];exact h0,by rw[hfin];exact h1,by rw[hfin];exact hR.less (fun q hq=>by simp at hq;simp[hq]) (by simp) (by simp) (by simp)⟩,HT,HB⟩,by simp[intOf];omega⟩
    ·have hkb2:(kk==2)=false:=by simpa using hk2
     go_wp2_with fail;have hpb:=aj w3 (.cells (fU ⟨kk,th,nn⟩).toArray 42);have F8:=ag hpb;clear hpb;have ZG:=ag (hR.MU (.cells (fU ⟨kk,th,nn⟩).toArray 42));have Ze:=ag (aZ (o:=.cells (fU ⟨kk,th,nn⟩).toArray 42) HT.out);have Zi:=ag (HB.out.alloc HB.out.size (.cells (fU ⟨kk,th,nn⟩).toArray 42));have hne:w3.heap.size≠w2.heap.size:=by have:=lt_of_block hR.s;omega
     have hne2:w.heap.size+1≠w2.heap.size:=by have:=hR.lo;omega
     have Fh:=ag hne;have VF:=ag hne2;have EU:Hid (0<=S.2/\S.2<=N0):=ag ⟨hq0,hq1⟩;clear hR hq0 hq1 hne hne2 HT HB;go_loopw [51] (fun i w'=>∃j:Nat,(j:Int)<=nn/\i= .int .i64 (j:Int)/\Hid (∃N':Nat,(N':Int)<=N0+j/\0<=(a_ S (bP ⟨kk,th,nn⟩ j)).2/\(a_ S (bP ⟨kk,th,nn⟩ j)).2<=N'/\
      j4 w' (w.heap.size+2) b w1.heap.size w2.heap.size (w2.heap.size+1) (a_ S (bP ⟨kk,th,nn⟩ j)).1 (a_ S (bP ⟨kk,th,nn⟩ j)).2 N' [w3.heap.size,w2.heap.size+1,w2.heap.size,w1.heap.size,w.heap.size+1])/\
      Hid (w'.heap[w3.heap.size]? =some (.cells (fU ⟨kk,th,nn⟩).toArray 42 (0,0)))/\Hid (w'.heap[w.heap.size+1]? =some (.cells #[.slice none 0 0,.slice none 0 0,.int .i64 0] 66 (0,0)))/\Hid (Below w.heap.size w w')) (fun i _=>nn.toNat - (intOf i).toNat)
     case atStart=>exact⟨0,hn0,rfl,⟨N0,by simp,by simpa [bP,a_] using EU.out.1,by simpa [bP,a_] using EU.out.2,ZG.out⟩,F8,Ze,Zi⟩
     case round=>
      clear F8 Ze Zi ZG;obtain⟨j,hj,rfl,HR,F8,HT,HB⟩:=hrel;by_cases hlt2:(j:Int)<nn
      ·obtain⟨N1,hN1,h0,h1,hR⟩:=HR.out;have HRR:=ag hR;have H0:=ag h0;have H1:=ag h1;have X5:=ag hN1;clear HR hR h0 h1 hN1;go_wp2_with fail;refine(af4 HRR.out F8.out (by have:=X5.out;have:=Sv.out;have:=Cq.out;omega) ⟨H0.out,by have:=H1.out;have:=X5.out;have:=Sv.out;have:=Cq.out;omega⟩ ⟨hk1,hk2⟩).mono ?_;rintro e w4 ⟨rfl,hr4,hst,hb4⟩;have hsn:a_ S (bP ⟨kk,th,nn⟩ (j+1))=a_ (a_ S (bP ⟨kk,th,nn⟩ j)) (jB ⟨kk,th,nn⟩):=by rw[bP,iU]
       rw[show((a_ S (bP ⟨kk,th,nn⟩ j)).1,(a_ S (bP ⟨kk,th,nn⟩ j)).2)=a_ S (bP ⟨kk,th,nn⟩ j) from rfl,<-hsn] at hr4;have hstp:=uQ (a_ S (bP ⟨kk,th,nn⟩ j)) ⟨kk,th,nn⟩;rw[<-hsn] at hstp;have HR4:=ag hr4;have HST:=ag hstp;have Vr:=ag ((hst w3.heap.size (by simp) Fh.out).trans F8.out);have Md:=ag ((hst (w.heap.size+1) (by simp) VF.out).trans HT.out);have sN:=ag (HB.out.trans (hb4.mono (by omega)));clear hr4 hst hb4 hsn hstp;go_wp2_with fail;exact⟨⟨j+1,by omega,by go_num,⟨N1+1,by have:=X5.out;omega,by have:=H0.out;have:=HST.out;omega,by have:=H1.out;have:=HST.out;omega,HR4.out⟩,Vr,Md,sN⟩,by simp[intOf];omega⟩
      ·have hjn:nn.toNat=j:=by omega
       go_wp2_with fail;obtain⟨N1,hN1,h0,h1,hR⟩:=HR.out;have hfin:a_ (gF mem (l.map (·.2)) cs,0) (gy (sc.take (k+1)))=a_ S (bP ⟨kk,th,nn⟩ j):=by
        rw[bU HX.out,yC,iU,aal.out];simp only[tL];rw[hjn]
       exact⟨⟨k+1,by omega,by go_num,⟨N1,by rw[bU HX.out,nM];have:=Sv.out;have:=Fe.out;omega,by rw[hfin];exact h0,by rw[hfin];exact h1,by rw[hfin];exact hR.less (fun q hq=>by simp at hq;simp[hq]) (by simp) (by simp) (by simp)⟩,HT,HB⟩,by simp[intOf];omega⟩
  ·obtain rfl:k=sc.length:=by omega
   obtain⟨N1,hN1,h0,h1,hR⟩:=HR.out;rw[List.take_length] at hN1 h0 h1 hR;have hN2:N1<=1048576:=by have:=O1.out.2.2.1;omega
   obtain⟨S,hS⟩:∃S,S=a_ (gF mem (l.map (·.2)) cs,0) (gy sc):=⟨_,rfl⟩;rw[<-hS] at h0 h1 hR;have cx:wr.cell? ⟨w1.heap.size,0,none⟩=some (.pointer (some ⟨b,0,none⟩)):=af hR.x rfl;have cs0:wr.cell? ⟨w2.heap.size,0,none⟩=some (.int .i64 S.2):=af hR.s rfl;have aff:=lt_of_block hR.x;have afe:=lt_of_block hR.s;have hns:w2.heap.size≠w.heap.size+1:=by have:=hR.lo;omega
   have hnx:w1.heap.size≠w.heap.size+1:=by have:=ET.out;omega
   have HRR:=ag hR;have HSS:=ag hS;have Sv:=ag hN2;have HH0:=ag h0;have Ga:=ag h1;obtain⟨w3,rfl⟩:∃q,q=wr:=⟨_,rfl⟩;clear hN1 h0 h1 hR hS hN2 HR;go_wp2_with fail;go_region_held3 (fun w'=>w'.cell? ⟨w1.heap.size,0,none⟩=some (.pointer (some ⟨b,0,none⟩))/\w'.cell? ⟨w2.heap.size,0,none⟩=some (.int .i64 S.2)) (refine⟨?_,?_⟩<;>first|assumption|(simp only[World.cell?_drew];assumption)|exact Bp cx5 hnx _ _ _|exact Bp cs5 hns _ _ _) (first|(go_at_call 68;refine(Ui (HRR.out.Ip.below (au w3.heap.size w3).drew).live (by have:=Sv.out;omega)).mono ?_;rintro e w4 ⟨ls,rfl,hsa,hse,hsp,hms,hb4⟩;have cx4:=(World.cell?_of_block (hb4.block _ aff)).trans cx;have cs4:=(World.cell?_of_block (hb4.block _ afe)).trans cs0;have XX:=ag hsa;have XT:=ag hse;have HSP:=ag hsp;have OE:=ag hms;have sN:=ag hb4;clear hsa hse hsp hms hb4;dsimp only)|(go_at_call 69;refine(TI (HRR.out.Ip.below ((au w3.heap.size w3).drew.trans sN.out)) (by have:=Sv.out;omega)).mono ?_;rintro e w5 ⟨ve,rfl,hoe,hb5⟩;obtain⟨Zm,vec,rfl⟩:=aS hoe;have cx5:=(World.cell?_of_block (hb5.block w1.heap.size (by have h9:w3.heap.size<=w4.heap.size:=sN.out.size;omega))).trans cx4;have cs5:=(World.cell?_of_block (hb5.block w2.heap.size (by have h9:w3.heap.size<=w4.heap.size:=sN.out.size;omega))).trans cs4;have hbr:=blk hb5 (blk sN.out (show w3.drew.heap[w.heap.size+1]? =_ from HT.out));have fr0:=ah (o:=0) hbr;have fr1:=ah (o:=1) hbr;have fr2:=ah (o:=2) hbr;have rr0:=af (o:=0) hbr rfl;have rr1:=af (o:=1) hbr rfl;have rr2:=af (o:=2) hbr rfl;have rV:=ag hbr;have WL:=ag hoe;have pO:=ag hb5;clear hbr hoe hb5;dsimp only))
   go_wp2_with fail;have aex:Below w3.heap.size w3 w5:=(au w3.heap.size w3).drew.trans (sN.out.trans (pO.out.mono sN.out.size));have ain:=aex.size;have h4s:w3.heap.size<=w4.heap.size:=sN.out.size;have hwl:w.heap.size+1<w3.heap.size:=lt_of_block HT.out;have hq:∀g,g≠w.heap.size+1->(((w5.setCell ⟨w.heap.size+1,0,none⟩ (.slice (some ⟨w3.heap.size,0,none⟩) ls.length ls.length)).setCell ⟨w.heap.size+1,1,none⟩ (.slice Zm S.1.evs.length vec)).setCell ⟨w.heap.size+1,2,none⟩ (.int .i64 S.2)).heap[g]? =w5.heap[g]?:=fun g hg=>((dm _ _ _ _ hg).trans (dm _ _ _ _ hg)).trans (dm _ _ _ _ hg)
   have hr3:=ai (o:=2) (.int .i64 S.2) (ai (o:=1) (.slice Zm S.1.evs.length vec) (ai (o:=0) (.slice (some ⟨w3.heap.size,0,none⟩) ls.length ls.length) rV.out));refine bodyPost_ret (v:=.tuple #[.agg #[.slice (some ⟨w3.heap.size,0,none⟩) ls.length ls.length,.slice Zm S.1.evs.length vec,.int .i64 S.2],.int .i64 0]) ?_ rfl ?_
   ·have c0:=af (o:=0) hr3 rfl;have c1:=af (o:=1) hr3 rfl;have c2:=af (o:=2) hr3 rfl;simp[results,Tryz.results29,go_sem,c0,c1,c2]
   ·rw[<-HSS.out];have ahN:w3.drew.heap.size=w3.heap.size:=rfl;refine⟨w3.heap.size,ls,Zm,vec,rfl,?_,fun s hs=>⟨?_,fun g hg=>(XT.out s hs).2 g hg⟩,HSP.out,OE.out,?_,fun g hg=>⟨?_,fun s hs hg2=>?_⟩,?_⟩
    ·exact bY (aP XX.out fun g hg hl=>(hq g (by have:=(bO XX.out hg).1;omega)).trans (pO.out.block g hl)) (by omega)
    ·exact bY (aP (XT.out s hs).1 fun g hg hl=>(hq g (by have:=(XT.out s hs).2 g hg;omega)).trans (pO.out.block g hl)) (by omega)
    ·exact bY (aP WL.out fun g hg hl=>hq g (by have:=(bO WL.out hg).1;omega)) (by omega)
    ·have h1:=(bO WL.out hg).1;have h2:w3.heap.size<w4.heap.size:=(bO XX.out rfl).2;omega
    ·have h1:=(bO WL.out hg).1;have h2:=(bO (XT.out s hs).1 hg2).2;omega
    ·exact(((HB.out.trans (aex.mono HB.out.size)).setCell (by simp) _).setCell (by simp) _).setCell (by simp) _
end
section
variable {w w':World}
theorem aaP (n:Nat):∀{s:Int×Bool},s.1+4320*n<=262144->fin (dU n) s=(s.1+4320*n,s.2):=by
 induction n with
 |zero=>intro s _;show s=_;simp
 |succ n ih=>
  intro s h2;have e:Ik 32 s=(s.1+4320,s.2):=by
   unfold Ik;rw[qy (n:=32) (s:=s) (by omega),qy (n:=128) (by simp only;omega),qy (n:=64) (by simp only;omega),qy (n:=4096) (by simp only;omega)];simp only;congr 1
   omega
  show fin (dU n) (Ik 32 s)=_;rw[e,ih (by simp only;omega)];simp only;congr 1
  omega
theorem Bf {words:Int} {n:Nat} (h:0<=words) (h2:words<=65536) (hn:n<=4):dA words n=words+18+4320*n:=by
 unfold dA mkS;rw[if_pos (Am h h2 hn)];have e:s0 words=(words+18,false):=by
  unfold s0;rw[qy (n:=words) (by simp only;omega),qy (n:=17) (by simp only;omega)];simp only;congr 1
  omega
 rw[e,aaP n (by simp only;omega)]
theorem JS {words:Int} {n i:Nat} (h:gp words (dU n)=0) (hi:i<n):fD (fF words n i):=by
 obtain⟨hp,hl⟩:=Bt h;have hx:(zL words n)[i]? =some ((zL words n).getD i ⟨0,0,0,0,0⟩):=by
  rw[List.getD_eq_getElem?_getD,eO (by omega)];rfl
 exact hp.ok hx
theorem kT {α:Type} {enc:α->List Value} {sz g:Nat} {T:TypeId} {l:List α} (he:∀a,(enc a).length=sz) (hg:w.heap[g]? =some (.cells (l.flatMap enc).toArray T (0,0))):dH enc w sz (.slice (some ⟨g,0,none⟩) l.length l.length) l:=
 ⟨jD he l,some ⟨g,0,none⟩,l.length,rfl,aB _,fun _=>⟨g,0,rfl,lt_of_block hg,fun j u hj=>by
  rw[Nat.zero_add];exact af hg (by rw[List.getElem?_toArray];exact hj)⟩⟩
theorem JK {base:Nat} {co:Option Addr} {cc:Nat} {cs:List (Nat×List bR)} (hown:w.ownsRow base 57 1 (.slice co cs.length cc) cs.length (cs.map u6)) (hin:qH w base cs) (hok:∀p∈cs,bF p.2):
  ∃l:List (Value×List bR),l.length=cs.length/\mX w (.slice co l.length cc) l/\l.map (·.2)=cs.map Prod.snd:=by
 refine⟨cs.map fun p=>(u6 p,p.2),by simp,⟨?_,?_,?_⟩,by simp[Function.comp_def]⟩
 ·have e:∀cs:List (Nat×List bR),(cs.map fun p=>(u6 p,p.2)).flatMap aaZ=cs.map u6:=by
   intro cs;induction cs with
   |nil=>rfl
   |cons a l ih=>rw[List.map_cons,List.flatMap_cons,ih];rfl
  have:=Rd.gu hown;rw[List.length_map];unfold dH;rw[e,List.length_map];exact this
 ·intro p hp;obtain⟨q,hq,rfl⟩:=List.mem_map.1 hp;exact kT dX (hin.blk q hq).1
 ·intro p hp;obtain⟨q,hq,rfl⟩:=List.mem_map.1 hp;exact fun o ho=>(hok q hq o ho).2
theorem Gf {mem:Int} {l:List (Value×List bR)} {cs:List (Nat×List bR)} (he:l.map (·.2)=cs.map Prod.snd) (hs:ja cs<=262144) (hn:l.length<=4) (hm:1<=mem/\mem<=262144) (hok:∀p∈cs,bF p.2):cB mem l []=0:=by
 have hc:f_ l<=ja cs:=by
  have e1:f_ l=((l.map (·.2)).map fun c=>min c.length 262145).sum:=by unfold f_;rw[List.map_map];rfl
  have e2:ja cs=((cs.map Prod.snd).map List.length).sum:=by unfold ja;rw[List.map_map];rfl
  rw[e1,e2,he];generalize cs.map Prod.snd=m;induction m with
  |nil=>simp
  |cons a r ih=>simp only[List.map_cons,List.sum_cons];omega
 have ha:(l.all fun p=>p.2.all dR)=true:=by
  rw[List.all_eq_true];intro p hp;have h1:p.2∈l.map (·.2):=List.mem_map_of_mem hp;rw[he] at h1;obtain⟨q,hq,e⟩:=List.mem_map.1 h1;rw[<-e,List.all_eq_true];exact fun o ho=>(hok q hq o ho).1
 unfold cB;rw[if_neg (by omega),if_neg (by omega),if_neg (by rw[ha];simp),if_neg (by simp[jH])]
def lu (os:List Int):List dB:=os.map fun z=>⟨2,z,20000⟩
theorem xC (os:List Int):(lu os).length=os.length:=by simp[lu]
theorem Kl (os:List Int):total (lu os)=40000*os.length:=by
 unfold total lu;induction os with
 |nil=>simp
 |cons a l ih=>
  simp only[List.map_cons,List.sum_cons,List.length_cons];rw[ih];have:pF ⟨2,a,20000⟩=40000:=rfl;rw[this];omega
theorem Uf {os:List Int} (h:os.length<=4):(dK (lu os)).2=0:=by
 unfold dK;rw[if_neg (by rw[xC];omega),if_neg,if_neg (by rw[Kl];omega)];rw[List.any_eq_true];rintro⟨p,hp,hb⟩;obtain⟨z,hz,rfl⟩:=List.mem_map.1 hp;simp[nO] at hb
theorem Yx {os:List Int}:∀p∈lu os, -9223372036854775808<=p.n/\0<=p.kind:=by
 intro p hp;obtain⟨z,hz,rfl⟩:=List.mem_map.1 hp;exact⟨show(-9223372036854775808:Int)<=20000 by decide,show(0:Int)<=2 by decide⟩
theorem TK:(Tryz.prog.info? 42).map (fun i=>(i.zero,i.size,i.bytes))=some (some (.agg #[.int .u8 0,.int .i64 0,.int .i64 0]),3,24):=by kernel_rfl
theorem Tn (p:dB):∀u∈fU p,u.oneCell'=true:=by intro u hu;simp[fU] at hu;rcases hu with rfl|rfl|rfl<;>rfl
def OT (words:Int) (ts:xJ) (os:List Int):MM×Int:=a_ (gF (dA words ts.length) (ts.mapIdx fun i t=>bM (fF words ts.length i) (rowsOf t)) [],0) (gy (lu os))
def KD (out:List (List Int×Int)) (w:World) (e:Ending) (w':World):Prop:=
 ∃(ga:Nat) (ls:List SX),e= .returned (.slice (some ⟨ga,0,none⟩) ls.length ls.length)/\dH encS w' 2 (.slice (some ⟨ga,0,none⟩) ls.length ls.length) ls/\
  (∀s∈ls,dH encI w' 1 s.v s.out)/\ls.map (fun s=>(s.out,s.fin))=out/\Below w.heap.size w w'
theorem Wv {ta:Option Addr} {tc:Nat} {ts:xJ} (h:Bv w (.slice ta ts.length tc) ts) {words:Int} (h0:0<=words) (h1:words<=65536) (hn:ts.length<=4) (hp:vH ts<=262144) (ho:∀t∈ts,jJ words t.2=true)
  (hw:∀t∈ts,∀l∈rowsOf t,∀o∈l,Ab o) {oa:Option Addr} {oc:Nat} {os:List Int} (hos:dH encI w 1 (.slice oa os.length oc) os) (hol:os.length<=4) {out:List (List Int×Int)} (hrun:(OT words ts os).1.aT.map (fun t=>(t.out,t.fin))=out):
  Calls Tryz.prog 31 #[.int .i64 words,.slice ta ts.length tc,.slice oa os.length oc] w (KD out w):=by
 have H:=ag h;have HW:=ag hw;have HO:=ag ho;have HP:=ag hp;have HOS:=ag hos;have EX:=ag hrun;have HN:=ag hn;have EW:=ag hol;have H0:=ag h0;have H1:=ag h1;have HM:=ag (Am (n:=ts.length) h0 h1 hn);have WV:=ag (Bf (n:=ts.length) h0 h1 hn);clear h hw ho hp hos hrun hn hol h0 h1;obtain⟨i0,hi,hz0,hz1,hz2⟩:=info_parts TK;go_in;go_wp2_with fail;refine(Gr H.out (by have:=HN.out;omega) words).mono ?_;intro e w1 hpost;obtain⟨hb1,co,cc,cs,rfl,hown,hin,hcs,hsum⟩:=Qh hpost H0.out H1.out HN.out HP.out HO.out;have hcl:cs.length=ts.length:=by have:=congrArg List.length hcs;simpa using this
 have hok:∀p∈cs,bF p.2:=by
  intro p hp;obtain⟨k,hk,e⟩:=List.getElem_of_mem hp;have hkt:k<ts.length:=by omega
  have h3:(cs.map Prod.snd)[k]'(by simpa using hk)=(ts.mapIdx (fun i t=>bM (fF words ts.length i) (rowsOf t)))[k]'(by simpa using hkt):=by simp only[hcs]
  rw[List.getElem_map,List.getElem_mapIdx,e] at h3;rw[h3];exact IX (JS HM.out hkt) (Nat.le_trans (AX (List.getElem_mem hkt)) HP.out) (HW.out _ (List.getElem_mem hkt))
 obtain⟨l,hll,hcode,hl2⟩:=JK hown hin hok;have Xo:=Gf (mem:=dA words ts.length) hl2 hsum (by have:=HN.out;omega) (by have:=WV.out;have:=H0.out;have:=H1.out;have:=HN.out;omega) hok;have ZA:=ag hcode;have HCH:=ag Xo;have HL2:=ag (hl2.trans hcs);have xL:=ag (show l.length<=4 from by have:=HN.out;omega);rw[<-hll];have HB1:=ag hb1;have aej:=ag (Rd.below HOS.out hb1);clear hb1 hown hin hcs hsum hcl hok hll hcode hl2 Xo hpost HOS H;obtain⟨mem,hmem⟩:∃z,z=dA words ts.length:=⟨_,rfl⟩;have aao:=ag hmem;rw[<-hmem] at HCH WV⊢;clear hmem;go_wp2_with fail;have HM1:=ag (aj w1 (.cells #[.slice co l.length cc,.int .i64 mem,.slice none 0 0] 30));have hbi:=(au w1.heap.size w1).alloc (aB _) (.cells #[.slice co l.length cc,.int .i64 mem,.slice none 0 0] 30);have HBI:=ag (fe HB1.out hbi);have adb:=ag (ZA.out.below hbi);have adC:=ag (Rd.below aej.out hbi);have Uq:=ag (show w1.heap.size+1=(w1.alloc (.cells #[.slice co l.length cc,.int .i64 mem,.slice none 0 0] 30)).heap.size from by rw[World.size_alloc]);generalize w1.alloc (.cells #[.slice co l.length cc,.int .i64 mem,.slice none 0 0] 30)=w2 at HM1 HBI adb adC Uq hbi⊢;obtain⟨bm,Pb⟩:∃b,b=w1.heap.size:=⟨_,rfl⟩;rw[<-Pb] at HM1 Uq⊢;have HSM:=ag (show w.heap.size<=bm from by have:=HB1.out.size;omega);clear hbi Pb aej ZA HB1;go_loopw [9,10] (fun v i wr=>∃(j:Nat) (ao:Option Addr) (cp:Nat),j<=os.length/\i= .int .i64 (j:Int)/\v= .slice ao j cp/\Hid (wr.ownsRow (bm+1) 42 3 (.slice ao j cp) j ((lu (os.take j)).flatMap fU))/\Hid (Below w2.heap.size w2 wr)/\Hid (wr.heap[bm]? =some (.cells #[.slice co l.length cc,.int .i64 mem,.slice none 0 0] 30 (0,0)))) (fun _ i _=>os.length - (intOf i).toNat)
 case atStart=>exact⟨0,none,0,Nat.zero_le _,rfl,rfl,ag (World.ownsRow_nil _ _ _ _),ag (au _ _),HM1⟩
 case round=>
  obtain⟨j,ao,cp,hj,rfl,rfl,HOR,HB,EA⟩:=hrel;have hol:=EW.out;by_cases hlt:j<os.length
  ·obtain⟨z,hx⟩:=bE hlt;obtain⟨g,off,rfl,hg,hc⟩:=dH.at ko (Rd.below adC.out HB.out) hx;have d0:wr.cell? ⟨g,off+j,none⟩=some (.int .i64 z):=by have:=hc 0 _ rfl;simpa [encI] using this
   have Gg:=ag (bU hx);have HJ:=ag hlt;clear hx hc;go_wp2_with (at_builtin;refine Hid.out ?_);refine dD _ rfl _ _ 23 rfl (bm+1) 42 i0 _ 3 24 Tryz.underlying23 hi hz0 hz1 hz2 rfl (by decide) (.slice ao j cp) j _ (by simp[Act.eval]) (aX HOR.out ((bz.refl (fun _=>False) wr).alloc _) (fun _ _=>id)) ⟨wr.heap.size,0,none⟩ 1 1 (fU ⟨2,z,20000⟩) (by simp[Act.eval]) rfl ?c1 ?c2 ?c3 ?c4 ?c5 ?_
   case c1=>exact iP (aj _ _)
   case c2=>exact Tn _
   case c3=>have:=EW.out;have:=HJ.out;unfold maxLen;omega
   case c4=>have:=EW.out;have:=HJ.out;omega
   case c5=>have:=Uq.out;have:=HB.out.size;simp;omega
   intro Gn Ht w5 hown jh eU;have Ai:bz (fun k=>bm+1<=k) wr w5:=(((bz.refl (fun k=>bm+1<=k) wr)).alloc _).grown eU (fun k hk=>.inl (HOR.out.lt k hk).1);have pO:=ag (Ai.below HB.out HB.out.size (fun k hk=>by have:=Uq.out;omega));have ZB:=ag (dG Ai EA.out (by omega));have Sw:=ag (show w5.ownsRow (bm+1) 42 3 (.slice Gn (j+1) Ht) (j+1) ((lu (os.take (j+1))).flatMap fU) from by rw[Gg.out];unfold lu;rw[List.map_append,List.flatMap_append];exact hown);clear hown jh eU Ai d0;go_wp2_with fail;exact⟨⟨j+1,Gn,Ht,by omega,by go_num,rfl,Sw,pO,ZB⟩,by simp[intOf];omega⟩
  ·obtain rfl:j=os.length:=by omega
   have hor:=HOR.out;rw[List.take_length] at hor;have Vz:=ag (show dH fU wr 3 (.slice ao (lu os).length cp) (lu os) from by unfold dH;rw[xC];exact Rd.gu hor);have hcr:=adb.out.below HB.out;have HCR:=ag hcr;have m0:wr.cell? ⟨bm,0,none⟩=some (.slice co l.length cc):=af EA.out rfl;have m1:wr.cell? ⟨bm,1,none⟩=some (.int .i64 mem):=af EA.out rfl;have m2:wr.cell? ⟨bm,2,none⟩=some (.slice none 0 0):=af EA.out rfl;clear hor hcr;go_wp2_with fail;refine((show Calls Tryz.prog 29 #[.agg #[.slice co l.length cc,.int .i64 mem,.slice none 0 0],.slice ao os.length cp] wr (Jf (a_ (gF mem (l.map (·.2)) [],0) (gy (lu os))) wr) from by
    have h9:=XY (l:=l) (cs:=[]) (sc:=lu os) (ca:=co) (fo:=cc) (oL:=none) (h_:=0) (sa:=ao) (yG:=cp) HCR.out (Rd.nil _ 2) mem (by have:=xL.out;omega) (by simp) HCH.out Vz.out (by rw[xC];have:=EW.out;omega) Yx (Uf EW.out);rw[xC] at h9;exact h9)).mono ?_
   rintro e w6 ⟨ga,ls,ve,vec,rfl,hrow,hse, -,hms,hev, -,hb6⟩;have HRW:=ag (Rd.gu hrow);have XT:=ag (show ∀s∈ls,dH encI w6 1 s.v s.out from fun s hs=>Rd.gu (hse s hs).1);have OE:=ag (show ls.map (fun s=>(s.out,s.fin))=out from by
    rw[hms,<-EX.out];unfold OT;rw[<-HL2.out,<-aao.out])
   have x8:=ag (fe (fe HBI.out HB.out) hb6);obtain⟨st,hst⟩:∃z,z=(a_ (gF mem (l.map (·.2)) [],0) (gy (lu os))).2:=⟨_,rfl⟩;obtain⟨ne,hne⟩:∃z,z=(a_ (gF mem (l.map (·.2)) [],0) (gy (lu os))).1.evs.length:=⟨_,rfl⟩;rw[<-hst,<-hne];clear hst hne hrow hse hms hev hb6;go_wp2_with fail;go_ret;exact⟨ga,ls,rfl,Rd.alloc HRW.out _,fun s hs=>Rd.alloc (XT.out s hs) _,OE.out,x8.out.alloc x8.out.size _⟩
end
section
def CB:List Tx:=[⟨0,2,1,0⟩,⟨0,3,1,1⟩]
def f0:FT:=⟨List.replicate 8 0,0,[],[],0⟩
def Ke (words:Int) (rs:List (List (List Tx))) (os:List Int):MM×Int:=a_ (gF (dA words rs.length) (rs.mapIdx fun i r=>bM (fF words rs.length i) r) [],0) (gy (lu os))
theorem Tg (words:Int) (ts:xJ) (os:List Int):OT words ts os=Ke words (ts.map rowsOf) os:=by
 unfold OT Ke;rw[List.length_map];have e:(ts.map rowsOf).mapIdx (fun i r=>bM (fF words ts.length i) r)=ts.mapIdx fun i t=>bM (fF words ts.length i) (rowsOf t):=by
  refine List.ext_getElem (by simp) fun i h1 h2=>?_
  simp
 rw[e]
variable {mm j5:MM} {n m:Nat} {code:List bR} {sz:Int} {M M':List (Int×Int)} {f f':FT}
theorem WC:∀i,f0.reg.getD i 0=0:=by
 intro i;simp only[f0,List.getD_eq_getElem?_getD,List.getElem?_replicate];split<;>rfl
theorem Ck.start {codes:List (List bR)} (h:codes[n]? =some code) (hs:0<=sz):Ck (gF sz codes []) n code sz [] f0:=by
 refine⟨⟨MT.new code,by simp[gF,h],rfl,fun i _=>by rw[WC];rfl,rfl,rfl,rfl,rfl⟩,by simp[gF,iW];omega,fun a h1 h2=>?_,fun c hc=>by simp[f0] at hc,rfl⟩;simp only[MM.at,gF,iW,SS,List.getD_eq_getElem?_getD];first
 |rfl
 |(simp[List.getElem?_replicate];split<;>rfl)
theorem Ck.other (h:Ck j5 n code sz M f) (ho:Zp n mm j5) {c:List bR} (hm:mm.aT[m]? =some (MT.new c)) (hne:m≠n):Ck j5 m c sz M f0:=
 ⟨⟨MT.new c,by rw[ho m hne];exact hm,rfl,fun i _=>by rw[WC];rfl,rfl,rfl,rfl,rfl⟩,h.len,h.mem,fun c hc=>by simp[f0] at hc,rfl⟩
theorem Ck.whole (h:Ck mm n code sz M f) {K:Nat} (hs:vN code sz K M f=some (M',f')) (hf:f'.fin≠0) (hw:f'.wait=[]) (hK:K<=20000) (st:Int):
  Ck (a_ (mm,st) (tL ⟨2,n,20000⟩)).1 n code sz M' f'/\Zp n mm (a_ (mm,st) (tL ⟨2,n,20000⟩)).1:=by
 have e:tL ⟨2,n,20000⟩=bP ⟨2,n,0⟩ (K+(20000 - K)):=by
  rw[Nat.add_sub_cancel' hK];exact V7 n 20000 20000
 rw[e];refine Ck.run (K+(20000 - K)) st h ?_;rw[Vu K (20000 - K) hs];exact TL hf hw _
def J9 (f:FT) (o:List Int):Bool:=decide (f.fin=1) && f.wait.isEmpty && decide (f.out=o)
theorem Gx {f:FT} {o:List Int} (h:J9 f o=true):f.fin=1/\f.wait=[]/\f.out=o:=by
 unfold J9 at h;simp only[Bool.and_eq_true,decide_eq_true_eq,List.isEmpty_iff] at h;exact⟨h.1.1,h.1.2,h.2⟩
def ok1 (c:List bR) (sz:Int) (K:Nat) (o:List Int):Bool:=match vN c sz K [] f0 with
 |none=>false
 |some (_,f)=>J9 f o
def Us (c c':List bR) (sz:Int) (K:Nat) (o o':List Int):Bool:=match vN c sz K [] f0 with
 |none=>false
 |some (M,f)=>J9 f o && (match vN c' sz K M f0 with
  |none=>false
  |some (_,f')=>J9 f' o')
theorem afE {c c':List bR} {K:Nat} {o o':List Int} {codes:List (List bR)} {a b:Nat} (hab:a<2/\b<2/\a≠b) (hc:codes.length=2) (ha:codes[a]? =some c) (hb:codes[b]? =some c') (hs:0<=sz) (hK:K<=20000) (h:Us c c' sz K o o'=true):
  ((a_ (gF sz codes [],0) (gy (lu [(a:Int),(b:Int)]))).1.aT.map (fun t=>(t.out,t.fin)))[a]? =some (o,1)/\
  ((a_ (gF sz codes [],0) (gy (lu [(a:Int),(b:Int)]))).1.aT.map (fun t=>(t.out,t.fin)))[b]? =some (o',1)/\
  (a_ (gF sz codes [],0) (gy (lu [(a:Int),(b:Int)]))).1.aT.length=2:=by
 unfold Us at h;cases hr:vN c sz K [] f0 with
 |none=>rw[hr] at h;cases h
 |some p=>
  obtain⟨M1,f1⟩:=p;rw[hr] at h;simp only[Bool.and_eq_true] at h;obtain⟨h,h'⟩:=h;cases hr':vN c' sz K M1 f0 with
  |none=>rw[hr'] at h';cases h'
  |some p=>
   obtain⟨M2,f2⟩:=p;rw[hr'] at h';obtain⟨e1,e2,e3⟩:=Gx h;obtain⟨d1,d2,d3⟩:=Gx h';have hst:Ck (gF sz codes []) a c sz [] f0:=Ck.start ha hs;obtain⟨h1,h2⟩:=hst.whole hr (by rw[e1];decide) e2 hK 0;have ea:gy (lu [(a:Int),(b:Int)])=tL ⟨2,(a:Nat),20000⟩++tL ⟨2,(b:Nat),20000⟩:=by simp[gy,lu]
   rw[ea,iU];obtain⟨⟨Gs,st1⟩,hS⟩:∃S,S=a_ (gF sz codes [],0) (tL ⟨2,(a:Nat),20000⟩):=⟨_,rfl⟩;rw[<-hS] at h1 h2⊢;have hx:(gF sz codes []).aT[b]? =some (MT.new c'):=by simp[gF,hb]
   obtain⟨h3,h4⟩:=(h1.other h2 hx (fun e=>hab.2.2 e.symm)).whole hr' (by rw[d1];decide) d2 hK st1;generalize a_ (Gs,st1) (tL ⟨2,(b:Nat),20000⟩)=S at h3 h4⊢;obtain⟨t,ht, -, -, -, -,q5,q6⟩:=h1.th;obtain⟨u,hu, -, -, -, -,p5,p6⟩:=h3.th;refine⟨?_,?_,?_⟩
   ·rw[List.getElem?_map,h4 a hab.2.2,ht];simp[q5,q6,e1,e3]
   ·rw[List.getElem?_map,hu];simp[p5,p6,d1,d3]
   ·have g2:S.1.aT[2]? =none:=by rw[h4 2 (by omega),h2 2 (by omega)];simp[gF,hc]
    have ga:a<S.1.aT.length:=by
     have:S.1.aT[a]? =some t:=by rw[h4 a hab.2.2,ht]
     exact(bu.1 this).1
    have gb:=(bu.1 hu).1;have:=List.getElem?_eq_none_iff.1 g2;omega
theorem abk {α:Type} {l:List α} {x y:α} (h0:l[0]? =some x) (h1:l[1]? =some y) (h:l.length=2):l=[x,y]:=by
 match l,h with
 |[a,b],_=>simp at h0 h1;rw[h0,h1]
theorem adh:Us (bM (fF 1 2 1) [CB]) (bM (fF 1 2 0) [CB]) (dA 1 2) 800 [0] [1]=true:=by kernel_rfl
theorem Yr (n:Nat) (h:n<=4):0<=dA 1 n:=by rw[Bf (by decide) (by decide) h];omega
theorem Z_:(([[CB],[CB]]:List (List (List Tx))).mapIdx fun i r=>bM (fF 1 2 i) r)=[bM (fF 1 2 0) [CB],bM (fF 1 2 1) [CB]]:=rfl
theorem aaW (os:List Int):Ke 1 [[CB],[CB]] os=a_ (gF (dA 1 2) [bM (fF 1 2 0) [CB],bM (fF 1 2 1) [CB]] [],0) (gy (lu os)):=by
 unfold Ke;rw[show([[CB],[CB]]:List (List (List Tx))).length=2 from rfl,Z_]
attribute [local irreducible] a_ gy lu bM fF dA Us ok1 gF
theorem c0:((0:Nat):Int)=0:=rfl
theorem c1:((1:Nat):Int)=1:=rfl
theorem Z9:(Ke 1 [[CB],[CB]] [1,0]).1.aT.map (fun t=>(t.out,t.fin))=[([1],1),([0],1)]:=by
 have h:=afE (a:=1) (b:=0) (codes:=[bM (fF 1 2 0) [CB],bM (fF 1 2 1) [CB]]) (sz:=dA 1 2) (by omega) rfl rfl rfl (Yr 2 (by decide)) (by omega) adh;rw[aaW];rw[c0,c1] at h;exact abk h.2.1 h.1 (by rw[List.length_map];exact h.2.2)
end
end Go.Proofs.YtopdcjimpdalpaaGreat

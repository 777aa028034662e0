import Derived.Test.YtopdcjimpdalpaaGreatQ34
import Derived.OwnWalk
namespace Go.Proofs.YtopdcjimpdalpaaGreat
open Go.RowKit
set_option linter.all false
section
variable {N n k M:Nat} {words C C':Int} {m m':AS} {a a':aO} {b:bV} {rs:Nat->List (List Tx)} {l:List bV} {x v:Int} {s s':HS} {cw:List bV}
theorem Dn {rs:List (List Tx)} {r:Nat} {row:List Tx} (h:rs[r]? =some row):rs.getD r []=row:=by rw[List.getD_eq_getElem?_getD,h];rfl
theorem Co {rs:List (List Tx)} (h:a.row<=rs.length):((a.fu rs).pt= .look/\(a.fu rs).row<rs.length)\/((a.fu rs).pt= .halt/\(a.fu rs).row=rs.length):=by
 unfold aO.fu;split
 ·rename_i q;exact .inl ⟨rfl,q⟩
 ·rename_i q;exact .inr ⟨rfl,by show a.row=rs.length;omega⟩
section
theorem zU (R:RInv N rs m s) (I:dP N words M m s cw) (L:bS N words m) (hn:n<N) (hN:N<=4) (ha:m.aM n=a) (hfin:a.fin=0) (zP:a.pt.oQ=true) (a':aO) (hev:m'.evs=m.evs) (hth:m'.aM=upd m.aM n a') (ZT:a'.pt.oQ=true) (h1:a'.row=a.row) (h2:a'.out=a.out) (h3:a'.sum=a.sum) (h4:a'.op=a.op) (hp:∀row,(rs n)[a.row]? =some row->uR row a->uR row a'):∃s',RInv N rs m' s':=by
 have T:=R.th n hn;rw[ha] at T;obtain⟨q1,q2,row,j,b,q3,q4,q5,q6,q7,q8⟩:=T.open_ zP;refine⟨s,R.quiet (n:=n) hev (fun k hk=>by rw[hth,jm _ _ hk]) (fun _=>?_)⟩;rw[hth,fG];exact vH.at ZT (by rw[h1];exact q1) (by rw[h2];exact q2) q3 q4 (by rw[h1];exact q5) (by rw[h3];exact q6) (by rw[h4];exact q7) (hp row q5 q8)
theorem aaW (R:RInv N rs m s) (I:dP N words M m s cw) (L:bS N words m) (hn:n<N) (hN:N<=4) (ha:m.aM n=a) (hfin:a.fin=0) (hb:a.pt= .wb\/a.pt= .rel\/a.pt= .out) (a':aO) (hev:m'.evs=m.evs) (hth:m'.aM=upd m.aM n a') (hb':a'.pt= .wb\/a'.pt= .rel\/a'.pt= .out) (h1:a'.row=a.row) (h2:a'.out=a.out) (h3:a'.sum=a.sum):∃s',RInv N rs m' s':=by
 have T:=R.th n hn;rw[ha] at T;obtain⟨q1,q2,q3⟩:=T.done hb;refine⟨s,R.quiet (n:=n) hev (fun k hk=>by rw[hth,jm _ _ hk]) (fun _=>?_)⟩;rw[hth,fG];exact vH.fine hb' (by rw[h1];exact q1) (by rw[h2,h3];exact q2) (by rw[h1];exact q3)
theorem BC (R:RInv N rs m s) (I:dP N words M m s cw) (L:bS N words m) (hn:n<N) (hN:N<=4) (ha:m.aM n=a) (hfin:a.fin=0) (a:aO) (i:Nat) (row:List Tx):uR row (a.bJ i):=by
 unfold aO.bJ;split<;>trivial
theorem RInv.act (R:RInv N rs m s) (I:dP N words M m s cw) (L:bS N words m) (hn:n<N) (hN:N<=4) (ha:m.aM n=a) (hfin:a.fin=0) (hbare:a.bare):∃s',RInv N rs (m.act (rs n) n) s':=by
 have T:=R.th n hn;rw[ha] at T;have hlive:s.ended n=false:=I.live n hn (by rw[ha];exact hfin);have hok:=I.eu.hok;cases hp:a.pt with
 |look=>
  obtain⟨q1,q2⟩:=T.idle (.inl hp);have q3:=T.look hp;have ho:s.opn n=none:=I.idle n hn (by rw[ha,hp];rfl);have hrow:=dZ q3;generalize(rs n)[a.row]=row at hrow;rw[qF ha hp,Dn hrow];have mv:=cB {a with bX:=m.clock,reads:=0,log:=[],sum:=0,held:=fun _=>false,op:=0} row;obtain⟨t1,t2,t3⟩:=qf {a with bX:=m.clock,reads:=0,log:=[],sum:=0,held:=fun _=>false,op:=0} row;have rp:=xW (row:=row) (a:={a with bX:=m.clock,reads:=0,log:=[],sum:=0,held:=fun _=>false,op:=0}) (Nat.zero_le _);generalize({a with bX:=m.clock,reads:=0,log:=[],sum:=0,held:=fun _=>false,op:=0}.bL row:aO)=a' at mv t1 t2 t3 rp⊢;have hs:je s ⟨n,1,m.clock,0⟩ m.evs.length=some ⟨s.bu++[begun ⟨n,1,m.clock,0⟩ m.evs.length],upd s.opn n (some s.bu.length),s.ended⟩:=by
   unfold je;rw[if_neg (by simp only;omega)];simp only[Int.toNat_natCast];rw[if_neg (by rw[hlive];simp),ho];simp
  have hcm:=fun u=>RN s.bu (begun ⟨n,1,m.clock,0⟩ m.evs.length) u rfl
  refine⟨_,R.event (n:=n) rfl hs (fun k hk=>jm _ _ hk) (fun i x hx=>?_) (fun k hk=>jm _ _ hk) (fun k j hk hj=>?_) (fun k _=>hcm k) (fun _=>?_)⟩
  ·rcases Nat.lt_or_ge i s.bu.length with hi|hi
   ·have hx':s.bu[i]? =some x:=by
     have:(s.bu++[begun ⟨n,1,m.clock,0⟩ m.evs.length])[i]? =some x:=hx
     rwa [List.getElem?_append_left hi] at this
    obtain⟨u,row',z,g1,g2,g3,g4⟩:=R.rows i x hx';refine⟨u,row',z,g1,g2,?_,g4⟩;show(rs u)[uX ((s.bu++[begun ⟨n,1,m.clock,0⟩ m.evs.length]).take i) u]? =_;rw[List.take_append_of_le_length (by omega)];exact g3
   ·have hx':(s.bu++[begun ⟨n,1,m.clock,0⟩ m.evs.length])[i]? =some x:=hx;have hil:=(bE.1 hx').1;simp only[List.length_append,List.length_cons,List.length_nil] at hil;obtain rfl:i=s.bu.length:=by omega
    simp at hx';subst hx';refine⟨n,row,0,hn,rfl,?_,.nil,fun q=>by simp[begun] at q⟩;show(rs n)[uX ((s.bu++[begun ⟨n,1,m.clock,0⟩ m.evs.length]).take s.bu.length) n]? =_;rw[List.take_left,q1];exact hrow
  ·obtain⟨c,hc, -⟩:=I.eu.j_ hj;exact List.getElem?_append_left (bE.1 hc).1
  ·show vH (rs n) _ n (upd m.aM n a' n) (upd s.opn n _ n);rw[fG,fG];exact vH.at (b:=begun ⟨n,1,m.clock,0⟩ m.evs.length) t2 (by rw[(hcm n).1,q1,mv.row]) (by rw[(hcm n).2,mv.out];exact q2) rfl (by simp) (by rw[mv.row];exact hrow) (by rw[mv.sum];exact .nil) (by rw[mv.op];rfl) rp
 |rd=>
  obtain⟨q1,q2,row,j,b,q3,q4,q5,q6,q7,q8⟩:=T.open_ (by rw[hp];rfl);rw[hp] at q8;obtain⟨o,q8,q9,q10⟩:=q8;rw[xV ha hp,Dn q5];obtain⟨b',hb',ht, -,hk0, -⟩:=I.eu.j_ q3;rw[q4] at hb';cases hb';have mv:=cB {a with op:=a.op+1,sum:=fq (a.sum+a.v)} row;obtain⟨t1,t2,t3⟩:=qf {a with op:=a.op+1,sum:=fq (a.sum+a.v)} row;have hlt:=(bE.1 q8).1;have rp:=xW (row:=row) (a:={a with op:=a.op+1,sum:=fq (a.sum+a.v)}) (Nat.succ_le_of_lt hlt);generalize({a with op:=a.op+1,sum:=fq (a.sum+a.v)}.bL row:aO)=a' at mv t1 t2 t3 rp⊢;have hs:=(j4 (i:=m.evs.length) (e:=⟨n,2,a.x,a.v⟩) (show n<4 by omega) rfl hlive q3).1 (by simp) (by simp);have hcm:=fun u=>tO (f:=more ⟨n,2,a.x,a.v⟩) q4 hk0 (by show b.kind≠1;omega) u
  have Yk:∀row',(rs n)[uX (s.bu.take j) n]? =some row'->row'=row:=fun row' h=>by
   rw[yu hok q3 q4 hk0,q1,q5] at h;cases h;rfl
  have hmore:qW row (b.done++[⟨n,2,a.x,a.v⟩]) 0 (fq (a.sum+a.v)):=q6.Xv (by rw[q7];exact q8) q9 q10 rfl;refine⟨_,R.event (n:=n) rfl hs (fun k hk=>jm _ _ hk) (R.rows.modify hok q3 q4 hk0 ht rfl (fun row' z g1 g2=>?_)) (fun _ _=>rfl) (fun k i hk hi=>kF (I.eu.other hk q3 hi)) (fun k _=>hcm k) (fun _=>?_)⟩
  ·obtain rfl:=Yk row' g1;exact⟨_,hmore,fun q=>absurd q (by show b.kind≠1;omega)⟩
  ·show vH (rs n) _ n (upd m.aM n a' n) (s.opn n);rw[fG];exact vH.at t2 (by rw[(hcm n).1,q1,mv.row]) (by rw[(hcm n).2,mv.out];exact q2) q3 (rF q4) (by rw[mv.row];exact q5) (by rw[mv.sum];exact hmore) (by rw[mv.op];show(b.done++[_]).length=_;simp[q7]) rp
 |wr=>
  obtain⟨q1,q2,row,j,b,q3,q4,q5,q6,q7,q8⟩:=T.open_ (by rw[hp];rfl);rw[hp] at q8;obtain⟨o,q8,q9,q10,GU⟩:=q8;rw[xR ha hp,Dn q5];obtain⟨b',hb',ht, -,hk0, -⟩:=I.eu.j_ q3;rw[q4] at hb';cases hb';have mv:=cB {a with op:=a.op+1,log:=kz a.log a.x a.v} row;obtain⟨t1,t2,t3⟩:=qf {a with op:=a.op+1,log:=kz a.log a.x a.v} row;have hlt:=(bE.1 q8).1;have rp:=xW (row:=row) (a:={a with op:=a.op+1,log:=kz a.log a.x a.v}) (Nat.succ_le_of_lt hlt);generalize({a with op:=a.op+1,log:=kz a.log a.x a.v}.bL row:aO)=a' at mv t1 t2 t3 rp⊢;have hs:=(j4 (i:=m.evs.length) (e:=⟨n,3,a.x,a.v⟩) (show n<4 by omega) rfl hlive q3).1 (by simp) (by simp);have hcm:=fun u=>tO (f:=more ⟨n,3,a.x,a.v⟩) q4 hk0 (by show b.kind≠1;omega) u
  have Yk:∀row',(rs n)[uX (s.bu.take j) n]? =some row'->row'=row:=fun row' h=>by
   rw[yu hok q3 q4 hk0,q1,q5] at h;cases h;rfl
  have hmore:qW row (b.done++[⟨n,3,a.x,a.v⟩]) 0 a.sum:=q6.XI (by rw[q7];exact q8) q9 q10 rfl GU;refine⟨_,R.event (n:=n) rfl hs (fun k hk=>jm _ _ hk) (R.rows.modify hok q3 q4 hk0 ht rfl (fun row' z g1 g2=>?_)) (fun _ _=>rfl) (fun k i hk hi=>kF (I.eu.other hk q3 hi)) (fun k _=>hcm k) (fun _=>?_)⟩
  ·obtain rfl:=Yk row' g1;exact⟨_,hmore,fun q=>absurd q (by show b.kind≠1;omega)⟩
  ·show vH (rs n) _ n (upd m.aM n a' n) (s.opn n);rw[fG];exact vH.at t2 (by rw[(hcm n).1,q1,mv.row]) (by rw[(hcm n).2,mv.out];exact q2) q3 (rF q4) (by rw[mv.row];exact q5) (by rw[mv.sum];exact hmore) (by rw[mv.op];show(b.done++[_]).length=_;simp[q7]) rp
 |Bz=>
  rw[uo ha hp];split
  ·exact zU R I L hn hN ha hfin (by rw[hp];rfl) {a with pt:=.u6} rfl rfl rfl rfl rfl rfl rfl (fun _ _ _=>trivial)
  ·exact zU R I L hn hN ha hfin (by rw[hp];rfl) {a with pt:=.dat,l1:=dh a.buf m.aN (aV a.x)} rfl rfl rfl rfl rfl rfl rfl (fun _ _ q=>by unfold uR at q⊢;rw[hp] at q;exact q)
 |dat=>
  rw[uy ha hp];exact zU R I L hn hN ha hfin (by rw[hp];rfl) {a with pt:=.ym,v:=sU a.buf m.data a.x} rfl rfl rfl rfl rfl rfl rfl (fun _ _ q=>by unfold uR at q⊢;rw[hp] at q;exact q)
 |ym=>
  rw[uz ha hp];split
  ·exact zU R I L hn hN ha hfin (by rw[hp];rfl) {a with pt:=.rd,reads:=a.reads|||1<<<aV a.x} rfl rfl rfl rfl rfl rfl rfl (fun _ _ q=>by unfold uR at q⊢;rw[hp] at q;exact q)
  ·exact zU R I L hn hN ha hfin (by rw[hp];rfl) {a with pt:=.u6} rfl rfl rfl rfl rfl rfl rfl (fun _ _ _=>trivial)
 |full=>
  obtain⟨q1,q2,row,j,b,q3,q4, -⟩:=T.open_ (by rw[hp];rfl);obtain⟨b',hb',ht, -,hk0, -⟩:=I.eu.j_ q3;rw[q4] at hb';cases hb';rw[yU ha hp];have hs:je s ⟨n,11,6,0⟩ m.evs.length=some ⟨s.bu.modify j (closed 3 m.evs.length),upd s.opn n none,upd s.ended n true⟩:=by
   unfold je;rw[if_neg (by simp only;omega)];simp only[Int.toNat_natCast];rw[if_neg (by rw[hlive];simp),q3];simp
  have hcm:=fun u=>tO (f:=closed 3 m.evs.length) q4 hk0 (by simp[closed]) u
  refine⟨_,R.event (n:=n) rfl hs (fun k hk=>jm _ _ hk) (R.rows.modify hok q3 q4 hk0 ht rfl (fun row' z g1 g2=>⟨z,g2,fun q=>by simp[closed] at q⟩)) (fun k hk=>jm _ _ hk) (fun k i hk hi=>kF (I.eu.other hk q3 hi)) (fun k _=>hcm k) (fun _=>?_)⟩;show vH (rs n) _ n (upd m.aM n _ n) (upd s.opn n none n);rw[fG,fG];exact vH.gone rfl T.le (.inr rfl) (by rw[(hcm n).2];exact q2)
 |ro=>
  obtain⟨q1,q2,row,j,b,q3,q4,q5,q6,q7,q8⟩:=T.open_ (by rw[hp];rfl);rw[hp] at q8;obtain⟨b',hb',ht, -,hk0, -⟩:=I.eu.j_ q3;rw[q4] at hb';cases hb';rw[xL ha hp];have hs:=(j4 (i:=m.evs.length) (e:=⟨n,7,a.bX,0⟩) (show n<4 by omega) rfl hlive q3).2.1 rfl;obtain⟨c1,c2,c3⟩:=BU (f:=dW ⟨n,7,a.bX,0⟩ m.evs.length) hok q3 q4 hk0 ht rfl rfl;have hsum:Vs b.done=a.sum:=q6.sum;refine⟨_,R.event (n:=n) rfl hs (fun k hk=>jm _ _ hk) (R.rows.modify hok q3 q4 hk0 ht rfl (fun row' z g1 g2=>⟨z,g2,fun _=>?_⟩)) (fun k hk=>jm _ _ hk) (fun k i hk hi=>kF (I.eu.other hk q3 hi)) (fun k hk=>c3 k hk) (fun _=>?_)⟩
  ·rw[yu hok q3 q4 hk0,q1,q5] at g1;cases g1;show b.done.length=_;rw[q7];exact q8
  ·show vH (rs n) _ n (upd m.aM n _ n) (upd s.opn n none n);rw[fG,fG];exact vH.fine (.inr (.inr rfl)) (by show uX _ n=a.row+1;rw[c2,q1]) (by rw[c1];show _=a.out++[a.sum];rw[q2,<-hsum];rfl) (bE.1 q5).1
 |Eg=>
  rw[uB ha hp];split
  ·exact zU R I L hn hN ha hfin (by rw[hp];rfl) (a.bJ 0) rfl rfl (o_ (N:=N) (m:=m) (cw:=cw) (n:=n) (b:=⟨0,0,0,0,0,0,false,[]⟩) a 0).2.1 (dD a 0).row (dD a 0).out (dD a 0).sum (dD a 0).op (fun row _ _=>BC R I L hn hN ha hfin a 0 row)
  ·exact zU R I L hn hN ha hfin (by rw[hp];rfl) {a with pt:=.zw,l1:=dh a.buf m.aN a.s} rfl rfl rfl rfl rfl rfl rfl (fun _ _ q=>by unfold uR at q⊢;rw[hp] at q;exact q)
 |zw=>
  rw[tX ha hp];split
  ·have mv:=qb {a with held:=upd a.held a.s true,old:=upd a.old a.s a.l1} (a.s+1);refine zU R I L hn hN ha hfin (by rw[hp];rfl) ({a with held:=upd a.held a.s true,old:=upd a.old a.s a.l1}.cu (a.s+1)) rfl rfl (zT (N:=N) (m:=m) (cw:=cw) (n:=n) (b:=⟨0,0,0,0,0,0,false,[]⟩) _ _).2.1 mv.row mv.out mv.sum mv.op (fun row _ q=>?_);unfold uR at q;rw[hp] at q;unfold aO.cu;split<;>exact q
  ·exact zU R I L hn hN ha hfin (by rw[hp];rfl) (a.bJ 0) rfl rfl (o_ (N:=N) (m:=m) (cw:=cw) (n:=n) (b:=⟨0,0,0,0,0,0,false,[]⟩) a 0).2.1 (dD a 0).row (dD a 0).out (dD a 0).sum (dD a 0).op (fun row _ _=>BC R I L hn hN ha hfin a 0 row)
 |qG=>
  rw[qJ ha hp];have mv:=kg {a with new:=m.clock+1} 0;refine zU R I L hn hN ha hfin (by rw[hp];rfl) ({a with new:=m.clock+1}.cz 0) rfl rfl (yK _ _).2.1 mv.row mv.out mv.sum mv.op (fun row _ q=>?_);unfold uR at q;rw[hp] at q;unfold aO.cz;split<;>exact q
 |Bc=>
  rw[uN ha hp];have u1:∃s',RInv N rs (m.set n (a.bJ 0)) s':=zU R I L hn hN ha hfin (by rw[hp];rfl) (a.bJ 0) rfl rfl (o_ (N:=N) (m:=m) (cw:=cw) (n:=n) (b:=⟨0,0,0,0,0,0,false,[]⟩) a 0).2.1 (dD a 0).row (dD a 0).out (dD a 0).sum (dD a 0).op (fun row _ _=>BC R I L hn hN ha hfin a 0 row);have u2:∃s',RInv N rs (m.set n (a.cz (a.s+1))) s':=by
   have mv:=kg a (a.s+1);refine zU R I L hn hN ha hfin (by rw[hp];rfl) (a.cz (a.s+1)) rfl rfl (yK _ _).2.1 mv.row mv.out mv.sum mv.op (fun row _ q=>?_);unfold uR at q;rw[hp] at q;unfold aO.cz;split<;>exact q
  repeat' split
  all_goals first|exact u1|exact u2
 |BM=>
  obtain⟨q1,q2,row,j,b,q3,q4,q5,q6,q7,q8⟩:=T.open_ (by rw[hp];rfl);rw[hp] at q8;obtain⟨b',hb',ht, -,hk0, -⟩:=I.eu.j_ q3;rw[q4] at hb';cases hb';have HA:=L.th n hn;rw[ha] at HA;have hne:=HA.some;rw[hp] at hne;have e1:a.iB 0={a with pt:=.wb,i:=0}:=by unfold aO.iB;rw[if_pos (List.length_pos_iff.2 hne)]
  rw[uP ha hp,e1];have hs:=(j4 (i:=m.evs.length) (e:=⟨n,7,a.new,1⟩) (show n<4 by omega) rfl hlive q3).2.1 rfl;obtain⟨c1,c2,c3⟩:=BU (f:=dW ⟨n,7,a.new,1⟩ m.evs.length) hok q3 q4 hk0 ht rfl rfl;have hsum:Vs b.done=a.sum:=q6.sum;refine⟨_,R.event (n:=n) rfl hs (fun k hk=>jm _ _ hk) (R.rows.modify hok q3 q4 hk0 ht rfl (fun row' z g1 g2=>⟨z,g2,fun _=>?_⟩)) (fun k hk=>jm _ _ hk) (fun k i hk hi=>kF (I.eu.other hk q3 hi)) (fun k hk=>c3 k hk) (fun _=>?_)⟩
  ·rw[yu hok q3 q4 hk0,q1,q5] at g1;cases g1;show b.done.length=_;rw[q7];exact q8
  ·show vH (rs n) _ n (upd m.aM n _ n) (upd s.opn n none n);rw[fG,fG];exact vH.fine (.inl rfl) (by show uX _ n=a.row+1;rw[c2,q1]) (by rw[c1];show _=a.out++[a.sum];rw[q2,<-hsum];rfl) (bE.1 q5).1
 |wb=>
  cases hc:a.log[a.i]? with
  |none=>
   refine⟨s,?_⟩;unfold AS.act;rw[ha];simp only[hp,hc];exact R
  |some c=>
   rw[xJ ha hp hc];have mv:=o8 {a with buf:=a.buf++[fF.dat c.1 c.2]} (a.i+1);refine aaW R I L hn hN ha hfin (.inl hp) ({a with buf:=a.buf++[fF.dat c.1 c.2]}.iB (a.i+1)) rfl rfl ?_ mv.row mv.out mv.sum;unfold aO.iB aO.dV
   repeat' split
   all_goals first|exact .inl rfl|exact .inr (.inl rfl)|exact .inr (.inr rfl)
 |rel=>
  rw[uI ha hp];have mv:=pq {a with buf:=a.buf++[fF.lock a.s (2*a.new)],held:=upd a.held a.s false} (a.s+1);refine aaW R I L hn hN ha hfin (.inr (.inl hp)) ({a with buf:=a.buf++[fF.lock a.s (2*a.new)],held:=upd a.held a.s false}.dV (a.s+1)) rfl rfl ?_ mv.row mv.out mv.sum;unfold aO.dV;split
  ·exact .inr (.inl rfl)
  ·exact .inr (.inr rfl)
 |DK=>
  rw[tY ha hp];have mv:=dD {a with buf:=a.buf++[fF.lock a.s (a.old a.s)],held:=upd a.held a.s false} (a.s+1);exact zU R I L hn hN ha hfin (by rw[hp];rfl) ({a with buf:=a.buf++[fF.lock a.s (a.old a.s)],held:=upd a.held a.s false}.bJ (a.s+1)) rfl rfl (o_ (N:=N) (m:=m) (cw:=cw) (n:=n) (b:=⟨0,0,0,0,0,0,false,[]⟩) _ _).2.1 mv.row mv.out mv.sum mv.op (fun row _ _=>BC R I L hn hN ha hfin _ _ row)
 |u6=>
  obtain⟨q1,q2,row,j,b,q3,q4,q5, -⟩:=T.open_ (by rw[hp];rfl);obtain⟨b',hb',ht, -,hk0, -⟩:=I.eu.j_ q3;rw[q4] at hb';cases hb';rw[uw ha hp];have hs:=(j4 (i:=m.evs.length) (e:=⟨n,8,0,0⟩) (show n<4 by omega) rfl hlive q3).2.2 rfl;have hcm:=fun u=>tO (f:=closed 2 m.evs.length) q4 hk0 (by simp[closed]) u
  refine⟨_,R.event (n:=n) rfl hs (fun k hk=>jm _ _ hk) (R.rows.modify hok q3 q4 hk0 ht rfl (fun row' z g1 g2=>⟨z,g2,fun q=>by simp[closed] at q⟩)) (fun k hk=>jm _ _ hk) (fun k i hk hi=>kF (I.eu.other hk q3 hi)) (fun k _=>hcm k) (fun _=>?_)⟩;show vH (rs n) _ n (upd m.aM n _ n) (upd s.opn n none n);rw[fG,fG];exact vH.rest (.inl ⟨rfl,(bE.1 q5).1⟩) (by rw[(hcm n).1];exact q1) (by rw[(hcm n).2];exact q2)
 |out=>
  obtain⟨q1,q2,q3⟩:=T.done (.inr (.inr hp));have ho:s.opn n=none:=I.idle n hn (by rw[ha,hp];rfl);rw[uh ha hp];have mv:=vk {a with row:=a.row+1,out:=a.out++[a.sum]} (rs n);have hre:=Co (a:={a with row:=a.row+1,out:=a.out++[a.sum]}) (rs:=rs n) (Nat.succ_le_of_lt q3);generalize({a with row:=a.row+1,out:=a.out++[a.sum]}.fu (rs n):aO)=a' at mv hre⊢;refine⟨_,R.event (n:=n) rfl (CG (show n<4 by omega) hlive ho) (fun k hk=>jm _ _ hk) R.rows (fun _ _=>rfl) (fun _ _ _ _=>rfl) (fun _ _=>⟨rfl,rfl⟩) (fun _=>?_)⟩;show vH (rs n) _ n (upd m.aM n a' n) (s.opn n);rw[fG];exact vH.rest hre (by rw[mv.row];exact q1) (by rw[mv.out];exact q2.symm)
 |halt=>
  obtain⟨q1,q2⟩:=T.idle (.inr hp);have q3:=T.halt hp;have ho:s.opn n=none:=I.idle n hn (by rw[ha,hp];rfl);rw[qM ha hp];refine⟨_,R.event (n:=n) rfl (Dz (show n<4 by omega) hlive ho) (fun k hk=>jm _ _ hk) R.rows (fun _ _=>rfl) (fun _ _ _ _=>rfl) (fun _ _=>⟨rfl,rfl⟩) (fun _=>?_)⟩;show vH (rs n) _ n (upd m.aM n _ n) (s.opn n);rw[fG];exact vH.gone rfl T.le (.inl ⟨rfl,by rw[q1,q3]⟩) q2
 |over=>rw[tu ha hp];exact⟨s,R⟩
end
theorem RInv.start (N:Nat) (rs:Nat->List (List Tx)):RInv N rs (AS.start rs) HS.init:=by
 refine⟨rfl,fun i x hx=>by simp[HS.init] at hx,fun n hn=>?_⟩;have h:=Co (a:=aO.none) (rs:=rs n) (Nat.zero_le _);exact vH.rest h (vk aO.none (rs n)).row.symm (vk aO.none (rs n)).out
end
def uj (W:zB) (M:Nat) (st:MM×Int):Prop:=∃m ks s cw,xm W st.1 m ks/\bS W.N W.words m/\dP W.N W.words M m s cw/\RInv W.N W.rs m s/\m.clock<=st.2
theorem uj.act {W:zB} {M:Nat} {st:MM×Int} (ok:oH W) (hM:(M:Int)=W.words+1) (h:uj W M st) (hst:st.2<2305843009213693951) (a:Ee):uj W M (mV st a):=by
 obtain⟨m,ks,s,cw,h1,h2,h3,hr,h4⟩:=h;cases a with
 |step z=>
  show uj W M ((st.1.step z).2,if(st.1.step z).1=true then st.2+1 else st.2);by_cases hz:z<0
  ·rw[(y7 hz).1];exact⟨m,ks,s,cw,h1,h2,h3,hr,h4⟩
  ·obtain⟨n,rfl⟩:∃n:Nat,z=n:=⟨z.toNat,by omega⟩;cases h1.step ok h2 (by omega) n with
   |none e _=>rw[e];exact⟨m,ks,s,cw,h1,h2,h3,hr,h4⟩
   |own k e _ _ hs=>rw[if_pos e];exact⟨m,_,s,cw,hs,h2,h3,hr,by show m.clock<=st.2+1;omega⟩
   |act k e hn hf hb _ hs=>
    obtain⟨L',s',cw',I'⟩:=h3.act (rs:=W.rs n) h2 hn ok.n (zB.wf ok hn) hM hf hb;obtain⟨s2,R'⟩:=RInv.act hr h3 h2 hn ok.n rfl hf hb;have es:s2=s':=by
     have e1:=R'.eu;rw[I'.eu.eu] at e1;cases e1;rfl
    rw[if_pos e];have:=EC (W.rs n) m n;exact⟨_,_,s',cw',hs,L',I',by rw[<-es];exact R',by show(m.act (W.rs n) n).clock<=st.2+1;omega⟩
 |flush z=>
  show uj W M ((st.1.flush z).2,st.2);by_cases hz:z<0
  ·rw[(y7 hz).2];exact⟨m,ks,s,cw,h1,h2,h3,hr,h4⟩
  ·obtain⟨n,rfl⟩:∃n:Nat,z=n:=⟨z.toNat,by omega⟩;rcases h1.flush ok h2 n with q|⟨hn,hb,q⟩
   ·exact⟨m,ks,s,cw,q,h2,h3,hr,h4⟩
   ·exact⟨_,ks,s,cw,q,h2.flush hn,h3.flush h2 hn,hr.flush n,by rw[AV];exact h4⟩
theorem uj.start {W:zB} {M:Nat} (ok:oH W) (hsz:W.words+18<=W.size):uj W M (iC W.size ((List.range W.N).map (fun n=>bI (W.tx n) (W.rs n))) [],0):=
 ⟨_,_,_,_,xm.start ok hsz,bS.start _ _ _,dP.start _ _ _ _,RInv.start _ _,Int.le_refl _⟩
section
variable {N n:Nat} {words C:Int} {m m':AS} {a a' b:aO} {rs:List (List Tx)} {l:List Tx}
def kI (p:Nat->Bool) (s:Nat):Nat:=(List.range 16).countP fun k=>decide (s<=k) && p k
theorem BK {P Q R:Nat->Bool} (L:List Nat) (h:∀j∈L,P j=true->Q j=true\/R j=true):L.countP P<=L.countP Q+L.countP R:=by
 induction L with
 |nil=>simp
 |cons x L ih=>
  have h1:=ih fun j hj=>h j (List.mem_cons_of_mem _ hj)
  have h2:=h x (by simp);simp only[List.countP_cons];by_cases hp:P x=true
  ·rcases h2 hp with q|q
   ·simp only[hp,q,if_true];omega
   ·simp only[hp,q,if_true];omega
  ·simp only[Bool.not_eq_true] at hp;simp only[hp];simp only[Bool.false_eq_true,if_false];omega
theorem GM {P Q R:Nat->Bool} (L:List Nat) (h1:∀j∈L,Q j=true->P j=true) (h2:∀j∈L,R j=true->P j=true) (h3:∀j∈L,Q j=true->R j=true->False):L.countP Q+L.countP R<=L.countP P:=by
 induction L with
 |nil=>simp
 |cons x L ih=>
  have k1:=ih (fun j hj=>h1 j (List.mem_cons_of_mem _ hj)) (fun j hj=>h2 j (List.mem_cons_of_mem _ hj)) (fun j hj=>h3 j (List.mem_cons_of_mem _ hj));have q1:=h1 x (by simp);have q2:=h2 x (by simp);have q3:=h3 x (by simp);simp only[List.countP_cons];cases hq:Q x<;>cases hr:R x<;>cases hp:P x<;>simp_all<;>omega
theorem Tc:∀k,k<16->(List.range 16).countP (fun j=>j==k)=1:=by decide
theorem mW {p q:Nat->Bool} {s u:Nat} (h:s<=u) (hp:∀k,u<=k->q k=true->p k=true):kI q u<=kI p s:=by
 unfold kI;refine List.countP_mono_left fun k _ hk=>?_
 simp only[Bool.and_eq_true,decide_eq_true_eq] at hk⊢;exact⟨by omega,hp k hk.1 hk.2⟩
theorem wR {p:Nat->Bool} {s:Nat} (hs:s<16) (h:p s=true):kI p (s+1)+1<=kI p s:=by
 refine Nat.le_trans (Nat.add_le_add_left (Nat.le_of_eq (Tc s hs).symm) _) ?_;unfold kI;refine GM _ (fun j _ hj=>?_) (fun j _ hj=>?_) (fun j _ h1 h2=>?_)
 ·simp only[Bool.and_eq_true,decide_eq_true_eq] at hj⊢;exact⟨by omega,hj.2⟩
 ·simp only[beq_iff_eq] at hj;subst hj;simp[h]
 ·simp only[Bool.and_eq_true,decide_eq_true_eq,beq_iff_eq] at h1 h2;have:=h1.1;omega
theorem Hu (r k s:Nat):kI (r|||1<<<k).testBit s<=kI r.testBit s+1:=by
 have h1:(List.range 16).countP (fun j=>j==k)<=1:=by
  by_cases hk:k<16
  ·rw[Tc k hk];omega
  ·have:(List.range 16).countP (fun j=>j==k)=0:=by
    rw[List.countP_eq_zero];intro j hj;have:=List.mem_range.1 hj;have hne:j≠k:=by omega
    simp[hne]
   omega
 refine Nat.le_trans (BK (Q:=fun j=>decide (s<=j) && r.testBit j) (R:=fun j=>j==k) _ fun j _ hj=>?_) (Nat.add_le_add_left h1 _);simp only[Bool.and_eq_true,decide_eq_true_eq,ry,Bool.or_eq_true] at hj⊢;rcases hj.2 with q|q
 ·exact .inl ⟨hj.1,q⟩
 ·exact .inr (by simpa using q)
theorem Ct (log:List (Int×Int)):kI (needs log).testBit 0<=log.length:=by
 have h:∀log:List (Int×Int),(List.range 16).countP (fun k=>log.any fun c=>aV c.1==k)<=log.length:=by
  intro log;induction log with
  |nil=>simp
  |cons c l ih=>
   have h1:=BK (P:=fun k=>(c::l).any fun c=>aV c.1==k) (Q:=fun k=>l.any fun c=>aV c.1==k) (R:=fun j=>j==aV c.1) (List.range 16) fun j _ hj=>by
    simp only[List.any_cons,Bool.or_eq_true] at hj;rcases hj with q|q
    ·right;simp at q⊢;exact q.symm
    ·exact .inl q
   rw[Tc _ (bO c.1)] at h1;simp only[List.length_cons];omega
 refine Nat.le_trans (List.countP_mono_left fun k _ hk=>?_) (h log);simp only[Bool.and_eq_true] at hk;obtain⟨c,hc,he⟩:=qh.1 hk.2;exact List.any_eq_true.2 ⟨c,hc,by simp[he]⟩
theorem z_ (s:Nat):kI (Nat.testBit 0) s=0:=by
 unfold kI;rw[List.countP_eq_zero];intro j _;simp
theorem JA (log:List (Int×Int)) (x v:Int):(kz log x v).length<=log.length+1:=by
 unfold kz;split
 ·simp
 ·simp
structure zW (rs:List (List Tx)) (a:aO):Prop where
 log:a.log.length<=a.op
 op:a.op<=8
 J3:(a.pt= .rd\/a.pt= .Bz\/a.pt= .dat\/a.pt= .ym\/a.pt= .wr)->a.op<(rs.getD a.row []).length
 room:a.pt≠ .full
 cnt:kI a.reads.testBit 0+a.log.length<=a.op+1
 cnt2:a.pt≠ .rd->kI a.reads.testBit 0+a.log.length<=a.op
 fin:a.fin=0\/a.fin=1
structure rV (a:aO):Prop where
 log:a.log.length<=a.op
 op:a.op<=8
 cnt:kI a.reads.testBit 0+a.log.length<=a.op
 fin:a.fin=0\/a.fin=1
theorem rV.mv (h:rV a) (e:Mv a a'):rV a':=⟨by rw[e.log,e.op];exact h.log,by rw[e.op];exact h.op,by rw[e.reads,e.log,e.op];exact h.cnt,by rw[e.fin];exact h.fin⟩
theorem rV.to (h:rV a) (h1:¬(a.pt= .rd\/a.pt= .Bz\/a.pt= .dat\/a.pt= .ym\/a.pt= .wr)) (h2:a.pt≠ .full):zW rs a:=
 ⟨h.log,h.op,fun q=>absurd q h1,h2,Nat.le_trans h.cnt (Nat.le_add_right _ _),fun _=>h.cnt,h.fin⟩
theorem rV.cu (h:rV a) (s:Nat):zW rs (a.cu s):=by unfold aO.cu;split<;>exact rV.to ⟨h.log,h.op,h.cnt,h.fin⟩ (by simp) (by simp)
theorem rV.cz (h:rV a) (s:Nat):zW rs (a.cz s):=by unfold aO.cz;split<;>exact rV.to ⟨h.log,h.op,h.cnt,h.fin⟩ (by simp) (by simp)
theorem rV.dV (h:rV a) (s:Nat):zW rs (a.dV s):=by unfold aO.dV;split<;>exact rV.to ⟨h.log,h.op,h.cnt,h.fin⟩ (by simp) (by simp)
theorem rV.bJ (h:rV a) (s:Nat):zW rs (a.bJ s):=by unfold aO.bJ;split<;>exact rV.to ⟨h.log,h.op,h.cnt,h.fin⟩ (by simp) (by simp)
theorem rV.fu (h:rV a) (rs':List (List Tx)):zW rs (a.fu rs'):=by unfold aO.fu;split<;>exact rV.to ⟨h.log,h.op,h.cnt,h.fin⟩ (by simp) (by simp)
theorem rV.iB (h:rV a) (i:Nat):zW rs (a.iB i):=by
 unfold aO.iB;split
 ·exact rV.to ⟨h.log,h.op,h.cnt,h.fin⟩ (by simp) (by simp)
 ·exact h.dV 0
theorem rV.bL (h:rV a) (hl:rs.getD a.row []=l) (h8:l.length<=8):zW rs (a.bL l):=by
 unfold aO.bL;have OL:=h.log;split
 ·rename_i o ho;have hlt:=(bE.1 ho).1;split
  ·split
   ·exact⟨h.log,h.op,fun _=>by rw[hl];exact hlt,by simp,Nat.le_trans h.cnt (Nat.le_add_right _ _),fun _=>h.cnt,h.fin⟩
   ·exact⟨h.log,h.op,fun _=>by rw[hl];exact hlt,by simp,Nat.le_trans h.cnt (Nat.le_add_right _ _),fun _=>h.cnt,h.fin⟩
  ·rw[if_pos (.inr (by omega))];exact⟨h.log,h.op,fun _=>by rw[hl];exact hlt,by simp,Nat.le_trans h.cnt (Nat.le_add_right _ _),fun _=>h.cnt,h.fin⟩
 ·split
  ·exact rV.to ⟨h.log,h.op,h.cnt,h.fin⟩ (by simp) (by simp)
  ·exact h.cu 0
theorem zW.base (h:zW rs a) (hp:a.pt≠ .rd):rV a:=⟨h.log,h.op,h.cnt2 hp,h.fin⟩
theorem zW.same (h:zW rs a) (h1:a'.log=a.log) (h2:a'.op=a.op) (h3:a'.pt=a.pt) (h4:a'.row=a.row) (h5:a'.reads=a.reads) (h6:a'.fin=a.fin):zW rs a':=
 ⟨by rw[h1,h2];exact h.log,by rw[h2];exact h.op,by rw[h2,h3,h4];exact h.J3,by rw[h3];exact h.room,by rw[h1,h2,h5];exact h.cnt,by rw[h1,h2,h3,h5];exact h.cnt2,by rw[h6];exact h.fin⟩
theorem aZ (m:AS) (n:Nat) (a:aO):(m.set n a).aM n=a:=by simp[AS.set,upd]
theorem dU (m:AS) (n:Nat) (k a b:Int):(m.tell n k a b).aM=m.aM:=rfl
theorem zW.act (hR:∀r,(rs.getD r []).length<=8) (h:zW rs (m.aM n)) (hf:(m.aM n).fin=0):zW rs ((m.act rs n).aM n):=by
 obtain⟨a,ha⟩:∃a,m.aM n=a:=⟨_,rfl⟩;rw[ha] at h hf;have f0:a.fin=0\/a.fin=1:=h.fin;cases hp:a.pt with
 |look=>
  rw[qF ha hp,dU,aZ];exact rV.bL (a:={a with bX:=m.clock,reads:=0,log:=[],sum:=0,held:=fun _=>false,op:=0}) ⟨by simp,by simp,by simp[z_],f0⟩ rfl (hR _)
 |rd=>
  rw[xV ha hp,dU,aZ];have hi:=h.J3 (.inl hp);have:=hR a.row;have hc:=h.cnt;have:=h.log;exact rV.bL (a:={a with op:=a.op+1,sum:=fq (a.sum+a.v)}) ⟨by simp only;omega,by simp only;omega,hc,f0⟩ rfl (hR _)
 |Bz=>
  have hb:=h.base (by rw[hp];simp);have hi:=h.J3 (.inr (.inl hp));rw[uo ha hp];split
  ·rw[aZ];exact rV.to ⟨hb.log,hb.op,hb.cnt,hb.fin⟩ (by simp) (by simp)
  ·rw[aZ];exact⟨hb.log,hb.op,fun _=>hi,by simp,Nat.le_trans hb.cnt (Nat.le_add_right _ _),fun _=>hb.cnt,hb.fin⟩
 |dat=>
  have hb:=h.base (by rw[hp];simp);have hi:=h.J3 (.inr (.inr (.inl hp)));rw[uy ha hp,aZ];exact⟨hb.log,hb.op,fun _=>hi,by simp,Nat.le_trans hb.cnt (Nat.le_add_right _ _),fun _=>hb.cnt,hb.fin⟩
 |ym=>
  have hb:=h.base (by rw[hp];simp);have hi:=h.J3 (.inr (.inr (.inr (.inl hp))));rw[uz ha hp];split
  ·rw[aZ];refine⟨hb.log,hb.op,fun _=>hi,by simp,?_,fun q=>absurd rfl q,hb.fin⟩;have h1:=Hu a.reads (aV a.x) 0;have h2:=hb.cnt;simp only;omega
  ·rw[aZ];exact rV.to ⟨hb.log,hb.op,hb.cnt,hb.fin⟩ (by simp) (by simp)
 |wr=>
  have hb:=h.base (by rw[hp];simp);have hi:=h.J3 (.inr (.inr (.inr (.inr hp))));have:=hR a.row;rw[xR ha hp,dU,aZ];have h1:=JA a.log a.x a.v;have h2:=hb.log;have h3:=hb.cnt;exact rV.bL (a:={a with op:=a.op+1,log:=kz a.log a.x a.v}) ⟨by simp only;omega,by simp only;omega,by simp only;omega,f0⟩ rfl (hR _)
 |full=>exact absurd hp h.room
 |ro=>
  have hb:=h.base (by rw[hp];simp);rw[xL ha hp,dU,aZ];exact rV.to ⟨hb.log,hb.op,hb.cnt,hb.fin⟩ (by simp) (by simp)
 |Eg=>
  have hb:=h.base (by rw[hp];simp);rw[uB ha hp];split
  ·rw[aZ];exact hb.bJ 0
  ·rw[aZ];exact rV.to ⟨hb.log,hb.op,hb.cnt,hb.fin⟩ (by simp) (by simp)
 |zw=>
  have hb:=h.base (by rw[hp];simp);rw[tX ha hp];split
  ·rw[aZ];refine rV.cu ?_ _;exact⟨hb.log,hb.op,hb.cnt,hb.fin⟩
  ·rw[aZ];exact hb.bJ 0
 |qG=>
  have hb:=h.base (by rw[hp];simp);rw[qJ ha hp,aZ];refine rV.cz ?_ _;exact⟨hb.log,hb.op,hb.cnt,hb.fin⟩
 |Bc=>
  have hb:=h.base (by rw[hp];simp);rw[uN ha hp];split
  ·split
   ·rw[aZ];exact hb.bJ 0
   ·rw[aZ];exact hb.cz _
  ·split
   ·split
    ·rw[aZ];exact hb.bJ 0
    ·rw[aZ];exact hb.cz _
   ·rw[aZ];exact hb.bJ 0
 |BM=>
  have hb:=h.base (by rw[hp];simp);rw[uP ha hp,dU,aZ];exact hb.iB 0
 |wb=>
  have hb:=h.base (by rw[hp];simp);cases hc:a.log[a.i]? with
  |none=>
   have e:m.act rs n=m:=by unfold AS.act;rw[ha];simp only[hp,hc]
   rw[e,ha];exact h
  |some c=>
   rw[xJ ha hp hc,aZ];refine rV.iB ?_ _;exact⟨hb.log,hb.op,hb.cnt,hb.fin⟩
 |rel=>
  have hb:=h.base (by rw[hp];simp);rw[uI ha hp,aZ];refine rV.dV ?_ _;exact⟨hb.log,hb.op,hb.cnt,hb.fin⟩
 |DK=>
  have hb:=h.base (by rw[hp];simp);rw[tY ha hp,aZ];refine rV.bJ ?_ _;exact⟨hb.log,hb.op,hb.cnt,hb.fin⟩
 |u6=>
  have hb:=h.base (by rw[hp];simp);rw[uw ha hp,dU,aZ];exact rV.to ⟨hb.log,hb.op,hb.cnt,hb.fin⟩ (by simp) (by simp)
 |out=>
  have hb:=h.base (by rw[hp];simp);rw[uh ha hp,dU,aZ];refine rV.fu ?_ _;exact⟨hb.log,hb.op,hb.cnt,hb.fin⟩
 |halt=>
  have hb:=h.base (by rw[hp];simp);rw[qM ha hp,dU,aZ];exact rV.to ⟨hb.log,hb.op,hb.cnt,.inr rfl⟩ (by simp) (by simp)
 |over=>rw[tu ha hp,ha];exact h
theorem zL {k:Nat} (h:k≠n):(m.act rs n).aM k=m.aM k:=by
 unfold AS.act;simp only;split<;>(repeat' split)<;>simp[AS.set,AS.tell,upd,h]
theorem vB {k:Nat} (h:k≠n):(m.flush n).aM k=m.aM k:=by
 unfold AS.flush;split<;>simp[AS.set,upd,h]
theorem E_ (h:(m.aM n).buf=[]):m.flush n=m:=by
 unfold AS.flush;rw[h]
theorem zW.flush (h:zW rs (m.aM n)):zW rs ((m.flush n).aM n):=by
 unfold AS.flush;split
 ·exact h
 ·rw[aZ];exact h.same rfl rfl rfl rfl rfl rfl
 ·rw[aZ];exact h.same rfl rfl rfl rfl rfl rfl
theorem zW.start (rs:List (List Tx)):zW rs (aO.begin rs):=by
 unfold aO.begin;exact rV.fu ⟨by simp[aO.none],by simp[aO.none],by simp[aO.none,z_],.inl rfl⟩ _
end
section
variable {N n:Nat} {words C:Int} {m m':AS} {a a' b:aO} {rs:List (List Tx)} {l:List Tx}
def qV (q w c:Nat):Nat:=1378*q+920*w+230*c+690
def iD (q:Nat) (a:aO):Nat:=match a.pt with
 |.look=>12000
 |.Bz=>1128+qV (q - 1) a.log.length (kI a.reads.testBit 0+1)
 |.dat=>898+qV (q - 1) a.log.length (kI a.reads.testBit 0+1)
 |.ym=>668+qV (q - 1) a.log.length (kI a.reads.testBit 0+1)
 |.rd=>438+qV (q - 1) a.log.length (kI a.reads.testBit 0)
 |.wr=>458+qV (q - 1) (a.log.length+1) (kI a.reads.testBit 0)
 |.full=>0
 |.ro=>460
 |.Eg=>460*kI (needs a.log).testBit a.s+230*kI a.reads.testBit 0+460*a.log.length+690
 |.zw=>230+460*kI (needs a.log).testBit (a.s+1)+230*kI a.reads.testBit 0+460*a.log.length+690
 |.qG=>230*kI a.reads.testBit 0+460*a.log.length+690
 |.Bc=>230*kI a.reads.testBit a.s+460*a.log.length+460
 |.BM=>460*a.log.length+460
 |.wb=>230*(a.log.length - a.i)+230*a.log.length+230
 |.rel=>230*kI a.held a.s+230
 |.out=>230
 |.DK=>230*kI a.held a.s+12230
 |.u6=>12230
 |.halt=>230
 |.over=>0
def IW (R:Nat) (a:aO):Nat:=match a.pt with
 |.halt|.over=>0
 |_=>12000*(R - a.row - 1)+230
def rem (f:Bool) (rs:List (List Tx)) (a:aO):Nat:=iD ((rs.getD a.row []).length - a.op) a+IW rs.length a+(if f=true then 0 else 15000)
def DL (m:AS) (a:aO):Prop:=match a.pt with
 |.rd|.Bz|.wr|.ro|.Eg|.qG|.full=>a.bX=m.clock
 |.dat|.ym=>a.bX=m.clock/\a.l1=m.aN (aV a.x)
 |.zw=>a.bX=m.clock/\a.l1=m.aN a.s
 |.Bc=>(∀s,s<16->m.aN s%2=0->m.aN s/2<=a.bX)/\∀k,a.held k=true->a.old k/2<=a.bX
 |_=>True
def Pt.quiet:Pt->Bool
 |.wb|.rel|.out|.DK|.u6=>true
 |_=>false
theorem vN (q:Nat) (hl:l.length - a.op=q) (h8:l.length<=8) (OL:a.log.length<=a.op):iD q (a.bL l)<=qV q a.log.length (kI a.reads.testBit 0):=by
 unfold aO.bL;split
 ·rename_i o ho;have hlt:=(bE.1 ho).1;split
  ·split<;>simp only[iD,qV]<;>omega
  ·rw[if_pos (.inr (by omega))];simp only[iD,qV];omega
 ·split
  ·rename_i h0;simp only[iD,qV];omega
  ·unfold aO.cu;have h1:=Ct a.log;split
   ·rename_i k hk;have h2:=mW (p:=(needs a.log).testBit) (q:=(needs a.log).testBit) (Nat.zero_le k) (fun _ _ h=>h);simp only[iD,qV];omega
   ·simp only[iD,qV];omega
theorem I_ (q s:Nat):iD q (a.cu s)<=460*kI (needs a.log).testBit s+230*kI a.reads.testBit 0+460*a.log.length+690:=by
 unfold aO.cu;split
 ·rename_i k hk;have h2:=mW (p:=(needs a.log).testBit) (q:=(needs a.log).testBit) (jc hk).1 (fun _ _ h=>h);simp only[iD];omega
 ·simp only[iD];omega
theorem Ci (q s:Nat):iD q (a.cz s)<=230*kI a.reads.testBit s+460*a.log.length+460:=by
 unfold aO.cz;split
 ·rename_i k hk;have h2:=mW (p:=a.reads.testBit) (q:=a.reads.testBit) (jc hk).1 (fun _ _ h=>h);simp only[iD];omega
 ·simp only[iD];omega
theorem CY (q s:Nat):iD q (a.dV s)<=230*kI a.held s+230:=by
 unfold aO.dV;split
 ·rename_i k hk;have h2:=mW (p:=a.held) (q:=a.held) (jc hk).1 (fun _ _ h=>h);simp only[iD];omega
 ·simp only[iD];omega
theorem CK (q s:Nat):iD q (a.bJ s)<=230*kI a.held s+12230:=by
 unfold aO.bJ;split
 ·rename_i k hk;have h2:=mW (p:=a.held) (q:=a.held) (jc hk).1 (fun _ _ h=>h);simp only[iD];omega
 ·simp only[iD];omega
theorem EG (q i:Nat) (hh:kI a.held 0<=a.log.length):iD q (a.iB i)<=230*(a.log.length - i)+230*a.log.length+230:=by
 unfold aO.iB;split
 ·simp only[iD];omega
 ·have:=CY (a:=a) q 0;omega
def Pt.rq:Pt->Bool
 |.halt|.over=>false
 |_=>true
theorem Fw {R:Nat} (h:a.pt.rq=true):IW R a=12000*(R - a.row - 1)+230:=by
 unfold IW;cases hp:a.pt<;>rw[hp] at h<;>first|rfl|cases h
theorem FM (s:Nat):(a.cu s).pt.rq=true:=by unfold aO.cu;split<;>rfl
theorem Fx (s:Nat):(a.cz s).pt.rq=true:=by unfold aO.cz;split<;>rfl
theorem La (s:Nat):(a.dV s).pt.rq=true:=by unfold aO.dV;split<;>rfl
theorem xI (s:Nat):(a.bJ s).pt.rq=true:=by unfold aO.bJ;split<;>rfl
theorem Np (i:Nat):(a.iB i).pt.rq=true:=by
 unfold aO.iB;split
 ·rfl
 ·exact La 0
theorem qg (l:List Tx):(a.bL l).pt.rq=true:=by
 unfold aO.bL;split
 ·split
  ·split<;>rfl
  ·split<;>rfl
 ·split
  ·rfl
  ·exact FM 0
theorem R_ (s:Nat):(a.dV s).pt.quiet=true:=by unfold aO.dV;split<;>rfl
theorem I8 (s:Nat):(a.bJ s).pt.quiet=true:=by unfold aO.bJ;split<;>rfl
theorem YV (i:Nat):(a.iB i).pt.quiet=true:=by
 unfold aO.iB;split
 ·rfl
 ·exact R_ 0
theorem kP (h:a.pt.quiet=true):DL m a:=by
 unfold DL;cases hp:a.pt<;>rw[hp] at h<;>first|trivial|cases h
theorem Nt (s:Nat) (h:a.bX=m.clock):DL m (a.cu s):=by unfold aO.cu;split<;>exact h
theorem zJ (l:List Tx) (h:a.bX=m.clock):DL m (a.bL l):=by
 unfold aO.bL;split
 ·split
  ·split<;>exact h
  ·split<;>exact h
 ·split
  ·exact h
  ·exact Nt 0 h
theorem Lb (s:Nat) (h:(∀s,s<16->m.aN s%2=0->m.aN s/2<=a.bX)/\∀k,a.held k=true->a.old k/2<=a.bX):DL m (a.cz s):=by
 unfold aO.cz;split
 ·exact h
 ·trivial
theorem Ye (rs:List (List Tx)):DL m (a.fu rs):=by unfold aO.fu;split<;>trivial
end
section
variable {N n:Nat} {words C:Int} {m m':AS} {a a' b:aO} {rs:List (List Tx)} {l:List Tx}
theorem jO {f f':Bool} (h1:a.pt.rq=true) (h2:a'.pt.rq=true) (h3:a'.row=a.row) (h:iD ((rs.getD a.row []).length - a'.op) a'+1+cst a+(if f'=true then 0 else 15000)<=iD ((rs.getD a.row []).length - a.op) a+(if f=true then 0 else 15000)):
  rem f' rs a'+1+cst a<=rem f rs a:=by
 unfold rem;rw[Fw h1,Fw h2,h3];omega
theorem Er {p:Nat->Bool} {s k:Nat} (h:upd p s false k=true):p k=true:=by
 unfold upd at h;split at h
 ·cases h
 ·exact h
theorem Qz {x y c d e:Nat} (h1:x<=y) (h:y+1+c+d<=e):x+1+c+d<=e:=by omega
def Alone (n:Nat) (m:AS):Prop:=∀s,s<16->m.aN s%2≠0->m.aN s=2*n+1
theorem Alone.free (h:Alone n m) (LI:bS N words m) (hn:n<N) (hb:(m.aM n).buf=[]) {s:Nat} (hs:s<16) (hh:(m.aM n).held s=false):m.aN s%2=0:=by
 by_cases h2:m.aN s%2=0
 ·exact h2
 ·rcases(LI.own n hn s hs).1 (h s hs h2) with q|⟨v,q⟩
  ·rw[hh] at q;cases q
  ·rw[hb] at q;cases q
theorem Alone.mine (h:Alone n m) (LI:bS N words m) (hn:n<N) (hb:(m.aM n).buf=[]) {s:Nat} (hs:s<16) (h2:m.aN s%2≠0):(m.aM n).held s=true:=by
 rcases(LI.own n hn s hs).1 (h s hs h2) with q|⟨v,q⟩
 ·exact q
 ·rw[hb] at q;cases q
theorem OP (LI:bS N words m) (hn:n<N) (hb:(m.aM n).buf=[]) (hal:Alone n m) (hO:zW rs (m.aM n)) (hR:∀r,(rs.getD r []).length<=8) (hf:(m.aM n).fin=0) (f:Bool) (hF:f=true->DL m (m.aM n)):
  ∃f':Bool,(f'=true->DL (m.act rs n) ((m.act rs n).aM n))/\rem f' rs ((m.act rs n).aM n)+1+cst (m.aM n)<=rem f rs (m.aM n)/\(((m.act rs n).aM n).buf=[]\/((m.act rs n).aM n).pt.quiet=true):=by
 have HA:=LI.th n hn;have hfree:∀s,s<16->(m.aM n).held s=false->m.aN s%2=0:=fun s hs hh=>hal.free LI hn hb hs hh
 have Xk:∀s,s<16->m.aN s%2≠0->(m.aM n).held s=true:=fun s hs hh=>hal.mine LI hn hb hs hh
 have aa4:=LI.M6;obtain⟨a,ha⟩:∃a,m.aM n=a:=⟨_,rfl⟩;rw[ha] at HA hb hO hf hF hfree Xk⊢;have hv:∀s,dh a.buf m.aN s=m.aN s:=fun s=>by rw[hb];rfl
 have aY:=HA.held;have hsome:=HA.some;have hx:=HA.x;have OL:=hO.log;have hop:=hO.op;have hL:=hR a.row;have h16:=bO a.x;have hcnt:(∀k,a.held k=true->(needs a.log).testBit k=true)->kI a.held 0<=a.log.length:=fun h=>Nat.le_trans (mW (p:=(needs a.log).testBit) (Nat.zero_le _) (fun k _ hk=>h k hk)) (Ct a.log)
 have hcu:(∀k,a.held k=true->(needs a.log).testBit k=true)->∀q,iD q (a.bJ 0)<=14070:=fun h q=>by
  have:=CK (a:=a) q 0;have:=hcnt h;omega
 cases hp:a.pt with
 |look=>
  rw[qF ha hp,dU,aZ];refine⟨true,fun _=>zJ _ rfl,jO (by rw[hp];rfl) (qg _) (cB _ _).row ?_,.inl (by rw[(cB _ _).buf];exact hb)⟩;have h1:=vN (l:=rs.getD a.row []) (a:={a with bX:=m.clock,reads:=0,log:=[],sum:=0,held:=fun _=>false,op:=0}) ((rs.getD a.row []).length - 0) rfl hL (by simp);rw[(cB _ _).op];simp only[qV,List.length_nil,z_] at h1;refine Qz h1 ?_;simp only[iD,cst,hp,if_true];split<;>omega
 |rd=>
  rw[xV ha hp,dU,aZ];refine⟨f,fun q=>zJ _ (by have:=hF q;unfold DL at this;rw[hp] at this;exact this),jO (by rw[hp];rfl) (qg _) (cB _ _).row ?_,.inl (by rw[(cB _ _).buf];exact hb)⟩;have h1:=vN (l:=rs.getD a.row []) (a:={a with op:=a.op+1,sum:=fq (a.sum+a.v)}) ((rs.getD a.row []).length - (a.op+1)) rfl hL (by simp only;omega);rw[(cB _ _).op];have hi:=hO.J3 (.inl hp);simp only[qV] at h1;refine Qz h1 ?_;simp only[iD,cst,hp,qV];omega
 |Bz=>
  have hi:=hO.J3 (.inr (.inl hp));rw[hp] at aY;simp only at aY;have he:=hfree (aV a.x) h16 (aY _);rw[uo ha hp,hv];split
  ·rename_i hc;rw[aZ];have h0:f=false:=by
    cases hf0:f with
    |false=>rfl
    |true=>
     have h1:=hF hf0;unfold DL at h1;rw[hp] at h1;simp only at h1;have:=aa4 _ h16 he;omega
   refine⟨true,fun _=>kP rfl,jO (by rw[hp];rfl) rfl rfl ?_,.inl hb⟩;simp only[iD,cst,hp,qV,h0,if_true,Bool.false_eq_true,if_false];omega
  ·rw[aZ];refine⟨f,fun q=>?_,jO (by rw[hp];rfl) rfl rfl ?_,.inl hb⟩
   ·have h1:=hF q;unfold DL at h1;rw[hp] at h1;exact⟨h1,rfl⟩
   ·simp only[iD,cst,hp,qV];omega
 |dat=>
  have hi:=hO.J3 (.inr (.inr (.inl hp)));rw[uy ha hp,aZ];refine⟨f,fun q=>?_,jO (by rw[hp];rfl) rfl rfl ?_,.inl hb⟩
  ·have h1:=hF q;unfold DL at h1;rw[hp] at h1;exact h1
  ·simp only[iD,cst,hp,qV];omega
 |ym=>
  have hi:=hO.J3 (.inr (.inr (.inr (.inl hp))));rw[uz ha hp,hv];split
  ·rw[aZ];refine⟨f,fun q=>?_,jO (by rw[hp];rfl) rfl rfl ?_,.inl hb⟩
   ·have h1:=hF q;unfold DL at h1;rw[hp] at h1;exact h1.1
   ·have:=Hu a.reads (aV a.x) 0;simp only[iD,cst,hp,qV];omega
  ·rename_i hc;rw[aZ];have h0:f=false:=by
    cases hf0:f with
    |false=>rfl
    |true=>
     have h1:=hF hf0;unfold DL at h1;rw[hp] at h1;exact absurd h1.2.symm hc
   refine⟨true,fun _=>kP rfl,jO (by rw[hp];rfl) rfl rfl ?_,.inl hb⟩;simp only[iD,cst,hp,qV,h0,if_true,Bool.false_eq_true,if_false];omega
 |wr=>
  have hi:=hO.J3 (.inr (.inr (.inr (.inr hp))));rw[xR ha hp,dU,aZ];have hpl:=JA a.log a.x a.v;refine⟨f,fun q=>zJ _ (by have:=hF q;unfold DL at this;rw[hp] at this;exact this),jO (by rw[hp];rfl) (qg _) (cB _ _).row ?_,.inl (by rw[(cB _ _).buf];exact hb)⟩;have h1:=vN (l:=rs.getD a.row []) (a:={a with op:=a.op+1,log:=kz a.log a.x a.v}) ((rs.getD a.row []).length - (a.op+1)) rfl hL (by simp only;omega);rw[(cB _ _).op];simp only[qV] at h1;refine Qz h1 ?_;simp only[iD,cst,hp,qV];omega
 |full=>exact absurd hp hO.room
 |ro=>
  rw[xL ha hp,dU,aZ];refine⟨f,fun q=>kP rfl,jO (by rw[hp];rfl) rfl rfl ?_,.inl hb⟩;simp only[iD,cst,hp];omega
 |Eg=>
  rw[hp] at aY hsome;simp only at aY hsome;obtain⟨hs,hbit,hh⟩:=aY;have he:=hfree a.s hs (by rw[hh];simp);rw[uB ha hp,hv,if_neg (by simp[he]),aZ];refine⟨f,fun q=>?_,jO (by rw[hp];rfl) rfl rfl ?_,.inl hb⟩
  ·have h1:=hF q;unfold DL at h1;rw[hp] at h1;exact⟨h1,rfl⟩
  ·have:=wR (p:=(needs a.log).testBit) hs hbit;simp only[iD,cst,hp];omega
 |zw=>
  rw[hp] at aY hsome;simp only at aY hsome;obtain⟨hs,hbit,hh⟩:=aY;rw[tX ha hp];split
  ·rw[aZ];refine⟨f,fun q=>Nt _ ?_,jO (by rw[hp];rfl) (FM _) (qb _ _).row ?_,.inl (by rw[(qb _ _).buf];exact hb)⟩
   ·have h1:=hF q;unfold DL at h1;rw[hp] at h1;exact h1.1
   ·have h1:=I_ (a:={a with held:=upd a.held a.s true,old:=upd a.old a.s a.l1}) ((rs.getD a.row []).length - a.op) (a.s+1);rw[(qb _ _).op];simp only at h1;refine Qz h1 ?_;simp only[iD,cst,hp];omega
  ·rename_i hc;rw[aZ];have h0:f=false:=by
    cases hf0:f with
    |false=>rfl
    |true=>
     have h1:=hF hf0;unfold DL at h1;rw[hp] at h1;exact absurd h1.2.symm hc
   refine⟨true,fun _=>kP (I8 _),jO (by rw[hp];rfl) (xI _) (dD _ _).row ?_,.inl (by rw[(dD _ _).buf];exact hb)⟩;have h1:=hcu (fun k hk=>by rw[hh k] at hk;simp at hk;exact hk.2) ((rs.getD a.row []).length - a.op);rw[(dD _ _).op];refine Qz h1 ?_;simp only[h0];simp;simp only[iD,cst,hp];omega
 |qG=>
  rw[qJ ha hp,aZ];refine⟨f,fun q=>Lb _ ⟨fun s hs h2=>?_,fun k hk=>?_⟩,jO (by rw[hp];rfl) (Fx _) (kg _ _).row ?_,.inl (by rw[(kg _ _).buf];exact hb)⟩
  ·have h1:=hF q;unfold DL at h1;rw[hp] at h1;simp only at h1;have:=aa4 s hs h2;show m.aN s/2<=a.bX;omega
  ·have h1:=hF q;unfold DL at h1;rw[hp] at h1;simp only at h1;have:=(HA.old k hk).2.2.1;show a.old k/2<=a.bX;omega
  ·have h1:=Ci (a:={a with new:=m.clock+1}) ((rs.getD a.row []).length - a.op) 0;rw[(kg _ _).op];simp only at h1;refine Qz h1 ?_;simp only[iD,cst,hp];omega
 |Bc=>
  rw[hp] at aY hsome;simp only at aY hsome;obtain⟨-,hs,hbit⟩:=hsome;have hun:=hcu (fun k hk=>by rw[<-aY k];exact hk) ((rs.getD a.row []).length - a.op);have hval:=Ci (a:=a) ((rs.getD a.row []).length - a.op) (a.s+1);have hnx:=wR (p:=a.reads.testBit) hs hbit;have stop:f=false->rem true rs (a.bJ 0)+1+cst a<=rem f rs a:=fun h0=>by
   refine jO (by rw[hp];rfl) (xI _) (dD _ _).row ?_;rw[(dD _ _).op];refine Qz hun ?_;simp only[h0];simp;simp only[iD,cst,hp];omega
  have on:rem f rs (a.cz (a.s+1))+1+cst a<=rem f rs a:=by
   refine jO (by rw[hp];rfl) (Fx _) (kg _ _).row ?_;rw[(kg _ _).op];refine Qz hval ?_;simp only[iD,cst,hp];omega
  have hFv:f=true->(∀s,s<16->m.aN s%2=0->m.aN s/2<=a.bX)/\∀k,a.held k=true->a.old k/2<=a.bX:=fun q=>by
   have h1:=hF q;unfold DL at h1;rw[hp] at h1;exact h1
  have ff:¬f=true->f=false:=fun q=>by cases f<;>simp_all
  rw[uN ha hp,hv];split
  ·rename_i h2;split
   ·rename_i hc;rw[aZ];exact⟨true,fun _=>kP (I8 _),stop (ff fun q=>by have:=(hFv q).1 a.s hs h2;omega),.inl (by rw[(dD _ _).buf];exact hb)⟩
   ·rw[aZ];exact⟨f,fun q=>Lb _ (hFv q),on,.inl (by rw[(kg _ _).buf];exact hb)⟩
  ·rename_i h2;rw[if_pos (hal a.s hs h2)];split
   ·rename_i hc;rw[aZ];exact⟨true,fun _=>kP (I8 _),stop (ff fun q=>by have:=(hFv q).2 a.s (Xk a.s hs h2);omega),.inl (by rw[(dD _ _).buf];exact hb)⟩
   ·rw[aZ];exact⟨f,fun q=>Lb _ (hFv q),on,.inl (by rw[(kg _ _).buf];exact hb)⟩
 |BM=>
  rw[hp] at aY;simp only at aY;rw[uP ha hp,dU,aZ];refine⟨f,fun q=>kP (YV _),jO (by rw[hp];rfl) (Np _) (o8 _ _).row ?_,.inl (by rw[(o8 _ _).buf];exact hb)⟩;have h1:=EG (a:=a) ((rs.getD a.row []).length - a.op) 0 (hcnt fun k hk=>by rw[<-aY k];exact hk);rw[(o8 _ _).op];refine Qz h1 ?_;simp only[iD,cst,hp];omega
 |wb=>
  rw[hp] at aY hsome;simp only at aY hsome;obtain⟨c,hc⟩:∃c,a.log[a.i]? =some c:=⟨_,dZ hsome⟩;rw[xJ ha hp hc,aZ];refine⟨f,fun q=>kP (YV _),jO (by rw[hp];rfl) (Np _) (o8 _ _).row ?_,.inr (YV _)⟩;have h1:=EG (a:={a with buf:=a.buf++[fF.dat c.1 c.2]}) ((rs.getD a.row []).length - a.op) (a.i+1) (hcnt fun k hk=>by rw[<-aY k];exact hk);rw[(o8 _ _).op];simp only at h1;refine Qz h1 ?_;simp only[iD,cst,hp];omega
 |rel=>
  rw[hp] at aY;simp only at aY;rw[uI ha hp,aZ];refine⟨f,fun q=>kP (R_ _),jO (by rw[hp];rfl) (La _) (pq _ _).row ?_,.inr (R_ _)⟩;have h1:=CY (a:={a with buf:=a.buf++[fF.lock a.s (2*a.new)],held:=upd a.held a.s false}) ((rs.getD a.row []).length - a.op) (a.s+1);have h2:=wR aY.1 aY.2.1;have h3:=mW (p:=a.held) (q:=upd a.held a.s false) (aR (a.s+1)) (fun k hk h=>Er h);rw[(pq _ _).op];simp only at h1;refine Qz h1 ?_;simp only[iD,cst,hp];omega
 |DK=>
  rw[hp] at aY;simp only at aY;rw[tY ha hp,aZ];refine⟨f,fun q=>kP (I8 _),jO (by rw[hp];rfl) (xI _) (dD _ _).row ?_,.inr (I8 _)⟩;have h1:=CK (a:={a with buf:=a.buf++[fF.lock a.s (a.old a.s)],held:=upd a.held a.s false}) ((rs.getD a.row []).length - a.op) (a.s+1);have h2:=wR aY.1 aY.2.1;have h3:=mW (p:=a.held) (q:=upd a.held a.s false) (aR (a.s+1)) (fun k hk h=>Er h);rw[(dD _ _).op];simp only at h1;refine Qz h1 ?_;simp only[iD,cst,hp];omega
 |u6=>
  rw[uw ha hp,dU,aZ];refine⟨f,fun q=>trivial,jO (by rw[hp];rfl) rfl rfl ?_,.inl hb⟩;simp only[iD,cst,hp];omega
 |out=>
  rw[uh ha hp,dU,aZ];refine⟨f,fun q=>Ye _,?_,.inl (by rw[(vk _ _).buf];exact hb)⟩;unfold aO.fu;split
  ·rename_i hr;simp only at hr;simp only[rem,iD,IW,cst,hp];omega
  ·simp only[rem,iD,IW,cst,hp];omega
 |halt=>
  rw[qM ha hp,dU,aZ];refine⟨f,fun q=>trivial,?_,.inl hb⟩;simp only[rem,iD,IW,cst,hp];omega
 |over=>exact absurd hp (HA.fin.1 hf)
end
section
variable {W:zB} {mm iZ:MM} {m m':AS} {ks:Nat->Nat} {n k:Nat} {t t':MT} {a a':aO} {rs:List (List Tx)} {l:List Tx}
structure uZ (rs:List (List Tx)) (a:aO):Prop where
 out:a.out.length=a.row
 le:a.row<=rs.length
 J3:a.pt.rq=true->a.row<rs.length
 end_:a.pt.rq=false->a.row=rs.length
theorem uZ.keep (h:uZ rs a) (h1:a.pt.rq=true) (h2:a'.pt.rq=true) (h3:a'.row=a.row) (h4:a'.out=a.out):uZ rs a':=
 ⟨by rw[h3,h4];exact h.out,by rw[h3];exact h.le,fun _=>by rw[h3];exact h.J3 h1,fun q=>by rw[h2] at q;cases q⟩
theorem uZ.fu (h1:a.out.length=a.row) (h2:a.row<=rs.length):uZ rs (a.fu rs):=by
 unfold aO.fu;split
 ·rename_i h;exact⟨h1,h2,fun _=>h,fun q=>(by cases q)⟩
 ·rename_i h;exact⟨h1,h2,fun q=>(by cases q),fun _=>(by simp only;omega)⟩
theorem uZ.act (h:uZ rs (m.aM n)) (hfull:(m.aM n).pt≠ .full):uZ rs ((m.act rs n).aM n):=by
 obtain⟨a,ha⟩:∃a,m.aM n=a:=⟨_,rfl⟩;rw[ha] at h hfull;cases hp:a.pt with
 |look=>rw[qF ha hp,dU,aZ];exact h.keep (by rw[hp];rfl) (qg _) (cB _ _).row (cB _ _).out
 |rd=>rw[xV ha hp,dU,aZ];exact h.keep (by rw[hp];rfl) (qg _) (cB _ _).row (cB _ _).out
 |Bz=>rw[uo ha hp];split<;>(rw[aZ];exact h.keep (by rw[hp];rfl) rfl rfl rfl)
 |dat=>rw[uy ha hp,aZ];exact h.keep (by rw[hp];rfl) rfl rfl rfl
 |ym=>rw[uz ha hp];split<;>(rw[aZ];exact h.keep (by rw[hp];rfl) rfl rfl rfl)
 |wr=>rw[xR ha hp,dU,aZ];exact h.keep (by rw[hp];rfl) (qg _) (cB _ _).row (cB _ _).out
 |full=>exact absurd hp hfull
 |ro=>rw[xL ha hp,dU,aZ];exact h.keep (by rw[hp];rfl) rfl rfl rfl
 |Eg=>
  rw[uB ha hp];split
  ·rw[aZ];exact h.keep (by rw[hp];rfl) (xI _) (dD _ _).row (dD _ _).out
  ·rw[aZ];exact h.keep (by rw[hp];rfl) rfl rfl rfl
 |zw=>
  rw[tX ha hp];split
  ·rw[aZ];exact h.keep (by rw[hp];rfl) (FM _) (qb _ _).row (qb _ _).out
  ·rw[aZ];exact h.keep (by rw[hp];rfl) (xI _) (dD _ _).row (dD _ _).out
 |qG=>rw[qJ ha hp,aZ];exact h.keep (by rw[hp];rfl) (Fx _) (kg _ _).row (kg _ _).out
 |Bc=>
  have h1:=h.keep (a':=a.bJ 0) (by rw[hp];rfl) (xI _) (dD _ _).row (dD _ _).out;have h2:=h.keep (a':=a.cz (a.s+1)) (by rw[hp];rfl) (Fx _) (kg _ _).row (kg _ _).out;rw[uN ha hp];split
  ·split<;>(rw[aZ];assumption)
  ·split
   ·split<;>(rw[aZ];assumption)
   ·rw[aZ];assumption
 |BM=>rw[uP ha hp,dU,aZ];exact h.keep (by rw[hp];rfl) (Np _) (o8 _ _).row (o8 _ _).out
 |wb=>
  cases hc:a.log[a.i]? with
  |none=>
   have e:m.act rs n=m:=by unfold AS.act;rw[ha];simp only[hp,hc]
   rw[e,ha];exact h
  |some c=>rw[xJ ha hp hc,aZ];exact h.keep (by rw[hp];rfl) (Np _) (o8 _ _).row (o8 _ _).out
 |rel=>rw[uI ha hp,aZ];exact h.keep (by rw[hp];rfl) (La _) (pq _ _).row (pq _ _).out
 |DK=>rw[tY ha hp,aZ];exact h.keep (by rw[hp];rfl) (xI _) (dD _ _).row (dD _ _).out
 |u6=>rw[uw ha hp,dU,aZ];exact h.keep (by rw[hp];rfl) rfl rfl rfl
 |out=>
  have h1:=h.J3 (by rw[hp];rfl);have h2:=h.out;rw[uh ha hp,dU,aZ];exact uZ.fu (a:={a with row:=a.row+1,out:=a.out++[a.sum]}) (by simp[h2]) h1
 |halt=>
  rw[qM ha hp,dU,aZ];exact⟨h.out,h.le,fun q=>(by cases q),fun _=>h.end_ (by rw[hp];rfl)⟩
 |over=>rw[tu ha hp,ha];exact h
theorem uZ.flush (h:uZ rs (m.aM n)):uZ rs ((m.flush n).aM n):=by
 unfold AS.flush;split
 ·exact h
 ·rw[aZ];exact⟨h.out,h.le,h.J3,h.end_⟩
 ·rw[aZ];exact⟨h.out,h.le,h.J3,h.end_⟩
theorem uZ.start (rs:List (List Tx)):uZ rs (aO.begin rs):=uZ.fu rfl (Nat.zero_le _)
structure UE (W:zB) (mm:MM) (m:AS) (ks:Nat->Nat) (c:Int):Prop where
 tL:xm W mm m ks
 inv:bS W.N W.words m
 bX:m.clock<=c
 op:∀n,n<W.N->zW (W.rs n) (m.aM n)
 row:∀n,n<W.N->uZ (W.rs n) (m.aM n)
 ks:∀n,ks n<=457
def Small (W:zB):Prop:=∀n,(W.rs n).length<=16/\∀r,((W.rs n).getD r []).length<=8
theorem Yb {rs:List (List Tx)} (h:zW rs a):cst a<=457:=by
 have h1:=h.log;have h2:=h.op;unfold cst;split<;>omega
theorem KY {ks:Nat->Nat} {c:Nat} (h:∀n,ks n<=c) (n k:Nat) (hk:k<=c):∀j,upd ks n k j<=c:=fun j=>by
 unfold upd;split
 ·exact hk
 ·exact h j
theorem UE.WN {c:Int} (h:UE W mm m ks c) (ok:oH W) (sm:Small W) (hn:n<W.N) (hf:(m.aM n).fin=0) (hb:(m.aM n).bare) (hk:k<=cst (m.aM n)) (hs:xm W iZ (m.act (W.rs n) n) (upd ks n k)):UE W iZ (m.act (W.rs n) n) (upd ks n k) (c+1):=by
 refine⟨hs,h.inv.act hn hf hb (zB.wf ok hn),?_,fun j hj=>?_,fun j hj=>?_,KY h.ks n k (Nat.le_trans hk (Yb (h.op n hn)))⟩
 ·have:=EC (W.rs n) m n;have:=h.bX;omega
 ·by_cases e:j=n
  ·subst e;exact zW.act (sm j).2 (h.op j hn) hf
  ·rw[zL e];exact h.op j hj
 ·by_cases e:j=n
  ·subst e;exact uZ.act (h.row j hn) (h.op j hn).room
  ·rw[zL e];exact h.row j hj
theorem UE.MZ {c:Int} (h:UE W mm m ks c) (hn:n<W.N) (hs:xm W iZ (m.flush n) ks):UE W iZ (m.flush n) ks c:=by
 refine⟨hs,h.inv.flush hn,by rw[AV];exact h.bX,fun j hj=>?_,fun j hj=>?_,h.ks⟩
 ·by_cases e:j=n
  ·subst e;exact(h.op j hn).flush
  ·rw[vB e];exact h.op j hj
 ·by_cases e:j=n
  ·subst e;exact(h.row j hn).flush
  ·rw[vB e];exact h.row j hj
def jK (W:zB) (st:MM×Int):Prop:=∃m ks,UE W st.1 m ks st.2
theorem jK.act {st:MM×Int} (ok:oH W) (sm:Small W) (h:jK W st) (hst:st.2<2305843009213693951) (a:Ee):jK W (mV st a):=by
 obtain⟨m,ks,h⟩:=h;have hc:=h.bX;cases a with
 |step z=>
  show jK W ((st.1.step z).2,if(st.1.step z).1=true then st.2+1 else st.2);by_cases hz:z<0
  ·rw[(y7 hz).1];exact⟨m,ks,h⟩
  ·obtain⟨n,rfl⟩:∃n:Nat,z=n:=⟨z.toNat,by omega⟩;cases h.tL.step ok h.inv (by omega) n with
   |none e _=>rw[e];exact⟨m,ks,h⟩
   |own k e _ hk hs=>
    rw[if_pos e];exact⟨m,_,hs,h.inv,by simp only;omega,h.op,h.row,KY h.ks n k (by have:=h.ks n;omega)⟩
   |act k e hn hf hb hk hs=>
    rw[if_pos e];exact⟨_,_,h.WN ok sm hn hf hb hk hs⟩
 |flush z=>
  show jK W ((st.1.flush z).2,st.2);by_cases hz:z<0
  ·rw[(y7 hz).2];exact⟨m,ks,h⟩
  ·obtain⟨n,rfl⟩:∃n:Nat,z=n:=⟨z.toNat,by omega⟩;rcases h.tL.flush ok h.inv n with q|⟨hn,hb,q⟩
   ·exact⟨m,ks,q,h.inv,h.bX,h.op,h.row,h.ks⟩
   ·exact⟨_,ks,h.MZ hn q⟩
theorem jK.start (ok:oH W) (hsz:W.words+18<=W.size):jK W (iC W.size ((List.range W.N).map (fun n=>bI (W.tx n) (W.rs n))) [],0):=
 ⟨_,_,xm.start ok hsz,bS.start _ _ _,Int.le_refl _,fun n _=>zW.start _,fun n _=>uZ.start _,fun _=>(by decide)⟩
def qI (mm:MM) (n:Nat):Prop:=∀t,mm.aM[n]? =some t->t.wait=[]
theorem MB {mm:MM} (h:mm.aM[n]? =some t) (u:MT):(mm.put n u).aM[n]? =some u:=by
 have:=(bE.1 h).1;simp[MM.put,this]
def W1 (n:Nat) (mm:MM):Prop:=∀u,mm.aM[n]? =some u->u.wait.length<=1
theorem mP {c:Prop} [Decidable c] {x y:MM} (hx:W1 n x) (hy:W1 n y):W1 n (if c then x else y):=by
 by_cases h:c
 ·rw[if_pos h];exact hx
 ·rw[if_neg h];exact hy
theorem Oe (ht:mm.aM[n]? =some t) (h0:t.wait=[]):∀u,(mm.step n).2.aM[n]? =some u->u.wait.length<=1:=by
 have hq:=MB ht;have st:∀k,W1 n (mm.stop n t k):=fun k u hu=>by
  have:(mm.stop n t k).aM=(mm.put n {t with fin:=k}).aM:=rfl;rw[this,hq] at hu;cases hu;show t.wait.length<=1;rw[h0];exact Nat.zero_le _
 have same:∀v:MT,v.wait=t.wait->W1 n (mm.put n v):=fun v hv u hu=>by
  rw[hq] at hu;cases hu;rw[hv,h0];exact Nat.zero_le _
 have old:W1 n mm:=fun u hu=>by
  rw[ht] at hu;cases hu;rw[h0];exact Nat.zero_le _
 have ac:∀o x,W1 n (mm.act n t o x):=fun o x=>by
  unfold MM.act;refine mP (same _ rfl) (mP (same _ rfl) (mP ?_ (mP (same _ rfl) (mP ?_ (mP (same _ rfl) (mP (same _ rfl) (mP (same _ rfl) (mP (same _ rfl) (mP (same _ rfl) (mP (same _ rfl) (mP (same _ rfl) (mP (st _) (mP (st _) (mP (same _ rfl) old))))))))))))))
  ·cases gL o.bn (t.r o.a) (t.r o.b) with
   |none=>exact st _
   |some v=>exact same _ rfl
  ·intro u hu;rw[hq] at hu;cases hu;show(t.wait++[(x,t.r o.b)]).length<=1;rw[h0];exact aR _
 unfold MM.step MM.xq;rw[if_neg (by omega),Int.toNat_natCast,ht];simp only;split
 ·exact old
 ·unfold MM.go;split
  ·exact st _
  ·split
   ·split
    ·exact old
    ·exact ac _ _
   ·split
    ·split
     ·exact old
     ·exact ac _ _
    ·exact st _
theorem Mh {d:Nat} (h:∀u,mm.aM[n]? =some u->u.wait.length<=d+1):∀u,(mm.flush n).2.aM[n]? =some u->u.wait.length<=d:=by
 unfold MM.flush MM.xq;rw[if_neg (by omega),Int.toNat_natCast];cases ht:mm.aM[n]? with
 |none=>intro u hu;simp only at hu;rw[ht] at hu;cases hu
 |some t=>
  simp only;have h1:=h t ht;cases hw:t.wait with
  |nil=>
   intro u hu;simp only at hu;rw[ht] at hu;cases hu;simp[hw]
  |cons c r=>
   intro u hu;simp only at hu;rw[MB (mm:={mm with mem:=mm.mem.set c.1.toNat c.2}) ht] at hu;cases hu;rw[hw,List.length_cons] at h1;simp only;omega
theorem xm.empty (h:xm W mm m ks) (hw:qI mm n) (hn:n<W.N):(m.aM n).buf=[]:=by
 obtain⟨t,ht⟩:∃t,mm.aM[n]? =some t:=⟨_,dZ (by rw[h.n];exact hn)⟩;have:=(h.th n t ht).wait;rw[hw t ht] at this;simp only[List.filter_nil] at this;exact List.map_eq_nil_iff.1 this.symm
end
section
variable {W:zB} {mm iZ:MM} {m m':AS} {ks:Nat->Nat} {n k i:Nat} {t t':MT} {a a':aO} {rs:List (List Tx)} {l:List Tx} {c:Int}
theorem yP (p:Nat->Bool) (s:Nat):kI p s<=16:=by
 unfold kI;exact Nat.le_trans List.countP_le_length (by simp)
theorem XL (h:zW rs a) (hrs:rs.length<=16) (h8:∀r,(rs.getD r []).length<=8) (f:Bool):rem f rs a<=235000:=by
 have h1:=h.log;have h2:=h.op;have h3:=h8 a.row;have c1:=yP a.reads.testBit 0;have c2:=yP (needs a.log).testBit a.s;have c3:=yP (needs a.log).testBit (a.s+1);have c4:=yP a.reads.testBit a.s;have c5:=yP a.held a.s;have e1:iD ((rs.getD a.row []).length - a.op) a<=25000:=by
  unfold iD;split<;>(try simp only[qV])<;>omega
 have e2:IW rs.length a<=192230:=by
  unfold IW;split<;>omega
 unfold rem;split<;>omega
theorem Vv (f:Bool) (hp:a.pt≠ .over):0<rem f rs a:=by
 unfold rem;by_cases h:a.pt.rq=true
 ·rw[Fw h];omega
 ·have e:a.pt= .halt:=by
   cases h2:a.pt<;>rw[h2] at h hp<;>first|rfl|(exact absurd rfl hp)|(exact absurd rfl h)
  unfold iD;rw[e];simp only;omega
theorem Vh (f:Bool) (rs:List (List Tx)) (a:aO) (b:List fF):rem f rs {a with buf:=b}=rem f rs a:=rfl
theorem ME (m:AS) (n:Nat):∃b,(m.flush n).aM n={m.aM n with buf:=b}:=by
 unfold AS.flush;split
 ·exact⟨(m.aM n).buf,rfl⟩
 ·exact⟨_,aZ _ _ _⟩
 ·exact⟨_,aZ _ _ _⟩
def LQ (W:zB) (n i:Nat) (mm:MM) (c:Int):Prop:=
 ∃m ks f,UE W mm m ks c/\qI mm n/\Alone n m/\(f=true->DL m (m.aM n))/\((m.aM n).fin=0->i+ks n+rem f (W.rs n) (m.aM n)<=262144)
theorem LQ.start (h:jK W (mm,c)) (hn:n<W.N) (sm:Small W) (hw:qI mm n) (hl:∀s:Nat,s<16->mm.at (W.words+2+(s:Int))%2≠0->mm.at (W.words+2+(s:Int))/2=n):LQ W n 0 mm c:=by
 obtain⟨m,ks,h⟩:=h;refine⟨m,ks,false,h,hw,fun s hs h2=>?_,fun q=>(by cases q),fun _=>?_⟩
 ·obtain⟨k,hk,e⟩:=h.inv.odd s hs h2;have h3:=hl s hs (by rw[h.tL.aN s hs];exact h2);rw[h.tL.aN s hs,e] at h3;rw[e];omega
 ·have h1:=XL (h.op n hn) (sm n).1 (sm n).2 false;have h2:=h.ks n;omega
theorem Alone.next (h:Alone n m) (LI:bS W.N W.words m) (hn:n<W.N) (LI':bS W.N W.words m') (ho:∀k,k≠n->m'.aM k=m.aM k):Alone n m':=fun s hs h2=>by
 obtain⟨k,hk,e⟩:=LI'.odd s hs h2;by_cases hkn:k=n
 ·rw[<-hkn];exact e
 ·have h3:=(LI'.own k hk s hs).1 e;rw[ho k hkn] at h3;have h4:=(LI.own k hk s hs).2 h3;have h5:=h s hs (by rw[h4];omega);omega
theorem LQ.round (h:LQ W n i mm c) (ok:oH W) (sm:Small W) (hn:n<W.N) (hc:c<2305843009213693951) (ht:mm.aM[n]? =some t) (hf:t.fin=0):
  (mm.step n).1=true/\LQ W n (i+1) ((mm.step n).2.flush n).2 (c+1):=by
 obtain⟨m,ks,f,h,hw,hal,hF,hb⟩:=h;have hbuf:=h.tL.empty hw hn;have hfa:(m.aM n).fin=0:=by rw[<-(h.tL.th n t ht).fin];exact hf
 have hle:=hb hfa;have afF:=h.bX;have hw2:qI ((mm.step n).2.flush n).2 n:=fun u hu=>by
  have:=Mh (d:=0) (Oe ht (hw t ht)) u hu;exact List.eq_nil_of_length_eq_zero (by omega)
 cases h.tL.step ok h.inv (by omega) n with
 |none e q=>exact absurd (hw t ht) (q t ht hf)
 |own k e _ hk hs=>
  refine⟨e,?_⟩;have h1:UE W (mm.step n).2 m (upd ks n k) (c+1):=⟨hs,h.inv,by omega,h.op,h.row,KY h.ks n k (by have:=h.ks n;omega)⟩;rcases hs.flush ok h.inv n with q|⟨-,q, -⟩
  ·refine⟨m,_,f,⟨q,h.inv,h1.bX,h.op,h.row,h1.ks⟩,hw2,hal,hF,fun _=>?_⟩;have:upd ks n k n=k:=by simp[upd]
   omega
  ·exact absurd hbuf q
 |act k e _ _ hbare hk hs=>
  refine⟨e,?_⟩;have h1:=h.WN ok sm hn hfa hbare hk hs;obtain⟨f',hF',agj,hq⟩:=OP h.inv hn hbuf hal (h.op n hn) (sm n).2 hfa f hF;have hm2:UE W ((mm.step n).2.flush n).2 ((m.act (W.rs n) n).flush n) (upd ks n k) (c+1):=by
   rcases hs.flush ok h1.inv n with q|⟨_,_,q⟩
   ·have hb1:=q.empty hw2 hn;rw[E_ hb1];exact⟨q,h1.inv,h1.bX,h1.op,h1.row,h1.ks⟩
   ·exact h1.MZ hn q
  have ho:∀j,j≠n->((m.act (W.rs n) n).flush n).aM j=m.aM j:=fun j hj=>by rw[vB hj,zL hj]
  obtain⟨b,hbf⟩:=ME (m.act (W.rs n) n) n;refine⟨_,_,f',hm2,hw2,hal.next h.inv hn hm2.inv ho,fun q=>?_,fun _=>?_⟩
  ·rcases hq with q1|q1
   ·rw[E_ q1];exact hF' q
   ·refine kP ?_;rw[hbf];exact q1
  ·rw[hbf,Vh];have:upd ks n k n=k:=by simp[upd]
   omega
theorem LQ.last (h:LQ W n 262144 mm c) (hn:n<W.N) (ht:mm.aM[n]? =some t):t.fin≠0:=fun hf=>by
 obtain⟨m,ks,f,h,hw,hal,hF,hb⟩:=h;have hfa:(m.aM n).fin=0:=by rw[<-(h.tL.th n t ht).fin];exact hf
 have h1:=hb hfa;have h2:=Vv (a:=m.aM n) (rs:=W.rs n) f ((h.inv.th n hn).fin.1 hfa);omega
theorem LQ.done (h:LQ W n i mm c) (hn:n<W.N) (ht:mm.aM[n]? =some t) (hf:t.fin≠0):t.fin=1/\t.out.length=(W.rs n).length:=by
 obtain⟨m,ks,f,h,hw,hal,hF,hb⟩:=h;have hS:=h.tL.th n t ht;rw[hS.fin] at hf;have h1:(m.aM n).fin=1:=by
  rcases(h.op n hn).fin with q|q
  ·exact absurd q hf
  ·exact q
 have h2:(m.aM n).pt= .over:=by
  cases hp:(m.aM n).pt with
  |over=>rfl
  |_=>exact absurd ((h.inv.th n hn).fin.2 (by rw[hp];simp)) hf
 have h3:=h.row n hn;refine⟨by rw[hS.fin];exact h1,?_⟩;rw[hS.out,h3.out];exact h3.end_ (by rw[h2];rfl)
theorem LQ.len (h:LQ W n i mm c):mm.aM.length=W.N:=by
 obtain⟨m,ks,f,h, -⟩:=h;exact h.tL.n
end
section
variable {w w':World} {base:Nat}
structure CX (w:World) (base x:Nat) (l:List gT) (v:Value):Prop where
 box:w.heap[x]? =some (.cells #[v] 23 (0,0))
 row:w.ownsRow base 42 3 v l.length (l.flatMap iE)
 ne:v.ownBlock≠some x
theorem CX.keep {x:Nat} {l:List gT} {v:Value} (h:CX w base x l v) (hk:∀g,g=x\/v.ownBlock=some g->g<w.heap.size->w'.heap[g]? =w.heap[g]?):CX w' base x l v:=
 ⟨(hk x (.inl rfl) (lt_of_block h.box)).trans h.box,aP h.row fun g hg hl=>hk g (.inr hg) hl,h.ne⟩
end
section
variable {w w':World} {base:Nat}
structure Kz (w0 w:World) (xa xb:Nat) (A B:List gT) (va vb:Value):Prop where
 a:CX w w0.heap.size xa A va
 b:CX w w0.heap.size xb B vb
 ab:va.ownBlock≠some xb
 ba:vb.ownBlock≠some xa
 rows:∀g,va.ownBlock=some g->vb.ownBlock≠some g
 ne:xa≠xb
 la:w0.heap.size<=xa
 lb:w0.heap.size<=xb
 old:Below w0.heap.size w0 w
theorem Kz.below {w0 w w':World} {xa xb:Nat} {A B:List gT} {va vb:Value} (h:Kz w0 w xa xb A B va vb) (hb:Below w.heap.size w w'):Kz w0 w' xa xb A B va vb:=
 ⟨h.a.keep fun g _ hl=>hb.block g hl,h.b.keep fun g _ hl=>hb.block g hl,h.ab,h.ba,h.rows,h.ne,h.la,h.lb,h.old.trans (hb.mono h.old.size)⟩
theorem Cm {l:List gT} (h:(eG l).2=0):l.length<=65536/\l.any nC=false/\total l<=1048576/\(eG l).1=total l:=by
 unfold eG at h⊢;split at h
 ·cases h
 split at h
 ·cases h
 split at h
 ·cases h
 rename_i h1 h2 h3;rw[if_neg h1,if_neg h2,if_neg h3];exact⟨by omega,by simpa using h2,by omega,rfl⟩
end
theorem DZ {s s':HS} {x:Ev} {i:Nat} (hok:BN s i) (hs:je s x i=some s'):s'.bu.length+(s'.bu.map fun a=>a.done.length).sum<=s.bu.length+(s.bu.map fun a=>a.done.length).sum+1:=by
 have hmod:∀(l:List bV) (j:Nat) (f:bV->bV),(∀a,(f a).done.length<=a.done.length+1)->((l.modify j f).map fun a=>a.done.length).sum<=(l.map fun a=>a.done.length).sum+1:=by
  intro l;induction l with
  |nil=>intro j f _;simp
  |cons a l ih=>
   intro j f hf;cases j with
   |zero=>
    have:=hf a;simp;omega
   |succ j=>
    have:=ih j f hf;simp only[List.modify_succ_cons,List.map_cons,List.sum_cons];omega
 unfold je at hs;by_cases c1:x.th<0\/4<=x.th
 ·rw[if_pos c1] at hs;cases hs
 rw[if_neg c1] at hs;by_cases c2:s.ended x.th.toNat=true
 ·rw[if_pos c2] at hs;cases hs
 rw[if_neg c2] at hs;have fin:∀(j:Nat) (f:bV->bV) (o:Nat->Option Nat) (e:Nat->Bool),(∀a,(f a).done.length<=a.done.length+1)->some (⟨s.bu.modify j f,o,e⟩:HS)=some s'->s'.bu.length+(s'.bu.map fun a=>a.done.length).sum<=s.bu.length+(s.bu.map fun a=>a.done.length).sum+1:=by
  intro j f o e hf h;cases h;have:=hmod s.bu j f hf;simp only[List.length_modify];omega
 cases ho:s.opn x.th.toNat with
 |none=>
  rw[ho] at hs;simp only at hs;split at hs
  ·cases hs;simp[begun];omega
  ·split at hs
   ·cases hs;omega
   ·split at hs
    ·cases hs;simp only;omega
    ·cases hs
 |some j=>
  rw[ho] at hs;simp only at hs;split at hs
  ·exact fin j _ _ _ (fun a=>by simp[more]) hs
  ·split at hs
   ·exact fin j _ _ _ (fun a=>by simp[dW]) hs
   ·split at hs
    ·exact fin j _ _ _ (fun a=>by simp[closed]) hs
    ·split at hs
     ·exact fin j _ _ _ (fun a=>by simp[closed]) hs
     ·cases hs
theorem Vq (l:List Ev):∀{s s':HS} {i:Nat},BN s i->nT l i s= .inl s'->s'.bu.length+(s'.bu.map fun a=>a.done.length).sum<=s.bu.length+(s.bu.map fun a=>a.done.length).sum+l.length:=by
 induction l with
 |nil=>intro s s' i _ hr;simp only[nT,Sum.inl.injEq] at hr;subst hr;simp
 |cons x l ih=>
  intro s s' i h hr;simp only[nT] at hr;cases hs:je s x i with
  |none=>rw[hs] at hr;cases hr
  |some t=>
   rw[hs] at hr;have h1:=ih (h.step hs) hr;have h2:=DZ h hs;simp only[List.length_cons];omega
theorem Dy.below {w w':World} {v:Value} {ls:List SX} (h:Dy w v ls) (hb:Below w.heap.size w w'):Dy w' v ls:=⟨Rd.below h.rows hb,fun s hs=>Rd.below (h.each s hs) hb⟩
end Go.Proofs.YtopdcjimpdalpaaGreat

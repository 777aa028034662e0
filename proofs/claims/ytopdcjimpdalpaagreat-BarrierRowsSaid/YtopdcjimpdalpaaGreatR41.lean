import Derived.Test.YtopdcjimpdalpaaGreatR39
import Derived.Test.YtopdcjimpdalpaaGreatR40
import Derived.ProofKit
namespace Go.Proofs.YtopdcjimpdalpaaGreat
open Go.RowKit
set_option linter.all false
set_option maxHeartbeats 4000000
set_option maxRecDepth 100000
theorem Yh {s:HS} {j n:Nat} {a:bJ} (h:s.aU[j]? =some a) (ht:nJ s.aU<=n):a.done.length<=n:=by
 refine Nat.le_trans ?_ ht;have key:∀(l:List bJ) (j:Nat),l[j]? =some a->a.done.length<=nJ l:=by
  intro l;induction l with
  |nil=>intro j h;simp at h
  |cons b l ih=>
   intro j h;cases j with
   |zero=>
    simp only[List.getElem?_cons_zero,bH] at h;subst h;simp[nJ]
   |succ j=>
    simp only[List.getElem?_cons_succ] at h;have:=ih j h;simp only[nJ,List.map_cons,List.sum_cons] at this⊢;omega
 exact key _ _ h
theorem VC (l:List Ev) {s:HS} (h:jK l 0 HS.init= .inl s):nJ s.aU<=l.length:=by
 rw[M_ l yV.init h];have:=List.length_filter_le MS l;simp[HS.init,nJ];exact this
theorem RD {s s':HS} {x:Ev} {i:Nat} (hs:fC s x i=some s'):s'.aU.length<=s.aU.length+1:=by
 unfold fC at hs;split at hs
 ·cases hs
 ·split at hs
  ·cases hs
  ·split at hs
   ·split at hs
    ·cases hs;simp
    ·split at hs
     ·cases hs;simp
     ·split at hs
      ·cases hs;simp
      ·cases hs
   ·split at hs
    ·cases hs;simp
    ·split at hs
     ·cases hs;simp
     ·split at hs
      ·cases hs;simp
      ·split at hs
       ·cases hs;simp
       ·cases hs
theorem WA (l:List Ev):∀{s s':HS} {i:Nat},jK l i s= .inl s'->s'.aU.length<=s.aU.length+l.length:=by
 induction l with
 |nil=>intro s s' i hr;simp only[jK,Sum.inl.injEq] at hr;subst hr;simp
 |cons x l ih=>
  intro s s' i hr;simp only[jK] at hr;cases hs:fC s x i with
  |none=>rw[hs] at hr;cases hr
  |some t=>
   rw[hs] at hr;have h1:=ih hr;have h2:=RD hs;simp;omega
theorem Ut {evs:List Ev} {k:Nat} {s0 s:HS} {x:Ev} (h:jK (evs.take k) 0 s0= .inl s) (hx:evs[k]? =some x) (hs:fC s x k=none):jK evs 0 s0= .inr k:=by
 obtain⟨hk,rfl⟩:=bu.1 hx;have e:evs=evs.take k++(evs[k]::evs.drop (k+1)):=by simp
 rw[e,r9,h];simp only[jK,List.length_take,Nat.zero_add];rw[show min k evs.length=k from by omega,hs]
theorem Vi {evs:List Ev} {k:Nat} {s0 s s':HS} {x:Ev} (h:jK (evs.take k) 0 s0= .inl s) (hx:evs[k]? =some x) (hs:fC s x k=some s'):jK (evs.take (k+1)) 0 s0= .inl s':=by
 have hk:=(bu.1 hx).1;rw[bU hx,r9,h];simp only[jK,List.length_take,Nat.zero_add];rw[show min k evs.length=k from by omega,hs]
def enc2 (p:bJ×Value):List Value:=fZ p.1 p.2
theorem iJ:∀p,(enc2 p).length=8:=fun _=>rfl
def adl (l:List bJ) (w:World) (e:Ending) (w':World):Prop:=
 ∃(ao:Option Addr) (cp:Nat) (ps:List (bJ×Value)),ps.map Prod.fst=l/\e= .returned (.tuple #[.slice ao ps.length cp,.int .i64 0,.int .i64 0])/\w'.ownsRow w.heap.size 76 8 (.slice ao ps.length cp) ps.length (ps.flatMap enc2)/\
  (∀p∈ps,w'.ownsRow w.heap.size 127 4 p.2 p.1.done.length (p.1.done.flatMap iB))/\
  (∀(i j g:Nat) p q,i≠j->ps[i]? =some p->ps[j]? =some q->p.2.ownBlock=some g->q.2.ownBlock≠some g)/\(∀p∈ps,∀g,p.2.ownBlock=some g->(Value.slice ao ps.length cp).ownBlock≠some g)/\Below w.heap.size w w'
def Ay (evs:List Ev) (w:World) (e:Ending) (w':World):Prop:=
 match jK evs 0 HS.init with
 |.inl s=>adl s.aU w e w'
 |.inr k=>e= .returned (.tuple #[.slice none 0 0,.int .i64 (k:Int),.int .i64 15])/\Below w.heap.size w w'
theorem Ay.no {evs:List Ev} {k:Nat} {w w':World} (h:jK evs 0 HS.init= .inr k) (hb:Below w.heap.size w w'):Ay evs w (.returned (.tuple #[.slice none 0 0,.int .i64 (k:Int),.int .i64 15])) w':=by
 unfold Ay;rw[h];exact⟨rfl,hb⟩
theorem Xd:(Tryz.prog.info? 76).map (fun i=>(i.zero,i.size,i.bytes))=some (some (.agg #[.int .i64 0,.int .u8 0,.int .i64 0,.int .i64 0,.int .i64 0,.int .i64 0,.bool false,.slice none 0 0]),8,80):=by kernel_rfl
def encZ (n:Int):List Value:=[.int .i64 n]
def Yu (evs:List Ev):List bJ:=match jK evs 0 HS.init with|.inl s=>s.aU|.inr _=>[]
def Xt (evs:List Ev):Int:=match jK evs 0 HS.init with|.inl _=>0|.inr k=>k
def Gw (evs:List Ev):Int:=match jK evs 0 HS.init with|.inl _=>0|.inr _=>15
structure vU (w:World) (base:Nat) (v:Value) (ps:List (bJ×Value)):Prop where
 row:w.ownsRow base 76 8 v ps.length (ps.flatMap enc2)
 own:∀(j:Nat) p,ps[j]? =some p->w.ownsRow base 127 4 p.2 p.1.done.length (p.1.done.flatMap iB)
 ne:∀(j g:Nat) p,ps[j]? =some p->p.2.ownBlock=some g->v.ownBlock≠some g
 lg:∀(i j g:Nat) p q,i≠j->ps[i]? =some p->ps[j]? =some q->p.2.ownBlock=some g->q.2.ownBlock≠some g
theorem vU.nil (w:World) (base:Nat):vU w base (.slice none 0 0) []:=⟨World.ownsRow_nil _ _ _ _,fun j p h=>by simp at h,fun j g p h=>by simp at h,fun i j g p q _ h=>by simp at h⟩
theorem vU.keep {w w':World} {base:Nat} {v:Value} {ps:List (bJ×Value)} (h:vU w base v ps) (hb:Below w.heap.size w w'):vU w' base v ps:=
 ⟨aX h.row (bz.of_below (S:=fun _=>False) hb) (fun _ _=>id),fun j p hp=>aX (h.own j p hp) (bz.of_below (S:=fun _=>False) hb) (fun _ _=>id),h.ne,h.lg⟩
theorem vU.mono {w:World} {base base':Nat} {v:Value} {ps:List (bJ×Value)} (h:vU w base v ps) (hb:base'<=base):vU w base' v ps:=
 ⟨bY h.row hb,fun j p hp=>bY (h.own j p hp) hb,h.ne,h.lg⟩
def ZH (evs:List Ev) (w:World) (e:Ending) (w':World):Prop:=
 ∃(ao:Option Addr) (cp:Nat) (ps:List (bJ×Value)),ps.map Prod.fst=Yu evs/\e= .returned (.tuple #[.slice ao ps.length cp,.int .i64 (Xt evs),.int .i64 (Gw evs)])/\vU w' w.heap.size (.slice ao ps.length cp) ps/\Below w.heap.size w w'
theorem ZH.of {evs:List Ev} {w:World} {e:Ending} {w':World} (h:Ay evs w e w'):ZH evs w e w':=by
 unfold Ay at h;unfold ZH Yu Xt Gw;cases hr:jK evs 0 HS.init with
 |inl s=>
  rw[hr] at h;obtain⟨ao,cp,ps,h1,rfl,h2,h3,h4,h5,h6⟩:=h;exact⟨ao,cp,ps,h1,rfl,⟨h2,fun j p hp=>h3 p (bC hp),fun j g p hp hg=>h5 p (bC hp) g hg,h4⟩,h6⟩
 |inr k=>
  rw[hr] at h;obtain⟨rfl,h6⟩:=h;exact⟨none,0,[],rfl,rfl,vU.nil _ _,h6⟩
def IP:List Ev->Nat->Int->List Int
 |[],_,_=>[]
 |x::l,i,t=>if x.th=t/\(x.k=7\/x.k=9\/x.k=10\/x.k=11) then(i:Int)::IP l (i+1) t else IP l (i+1) t
def Mw (evs:List Ev) (t:Int):Int:=if t<0\/4<=t then 1 else Gw evs
def Vl (evs:List Ev) (t:Int):List Int:=if Mw evs t=0 then IP evs 0 t else []
def abe (evs:List Ev) (t:Int) (w:World) (e:Ending) (w':World):Prop:=
 ∃(ao:Option Addr) (cp:Nat),e= .returned (.tuple #[.slice ao (Vl evs t).length cp,.int .i64 (Mw evs t)])/\w'.ownsRow w.heap.size 3 1 (.slice ao (Vl evs t).length cp) (Vl evs t).length ((Vl evs t).flatMap encZ)/\Below w.heap.size w w'
theorem abe.no {evs:List Ev} {t n:Int} {w w':World} (hn:Mw evs t=n) (h0:n≠0) (hb:Below w.heap.size w w'):abe evs t w (.returned (.tuple #[.slice none 0 0,.int .i64 n])) w':=by
 have e1:Vl evs t=[]:=if_neg (by rw[hn];exact h0);unfold abe;rw[e1,hn];exact⟨none,0,rfl,World.ownsRow_nil _ _ _ _,hb⟩
def zk (base bs:Nat) (v:Value) (ps:List (bJ×Value)) (s':HS) (w:World) (e:Ending) (w':World):Prop:=∃v',e= .returned v'/\kU w w' base bs v ps s' v'
theorem kU.pre {w w1 w':World} {base bs:Nat} {v v':Value} {ps:List (bJ×Value)} {s':HS} (hb:Below w.heap.size w w1) (h:kU w1 w' base bs v ps s' v'):kU w w' base bs v ps s' v':=by
 obtain⟨ps',h1,h2,h3⟩:=h;exact⟨ps',h1,(bz.of_below hb).trans h2,fun k hk=>(h3 k hk).imp id (fun q=>Nat.le_trans hb.size q)⟩
theorem kU.same {w w':World} {base bs:Nat} {v:Value} {ps:List (bJ×Value)} {s:HS} (h:lC w base bs v ps s) (hb:Below w.heap.size w w'):kU w w' base bs v ps s v:=
 ⟨ps,h.below hb,bz.of_below hb,fun k hk=>.inl hk⟩
theorem kU.post {w w1 w':World} {base bs:Nat} {v v':Value} {ps:List (bJ×Value)} {s':HS} (h:kU w w1 base bs v ps s' v') (hb:Below w1.heap.size w1 w'):kU w w' base bs v ps s' v':=by
 obtain⟨ps',h1,h2,h3⟩:=h;exact⟨ps',h1.below hb,h2.dY (bz.of_below (S:=fun _=>False) hb) (fun _ _ q=>q.elim),h3⟩
theorem Pk (a:bJ) {ao:Option Addr} {n c:Nat}:∀u∈fZ a (.slice ao n c),u.oneCell'=true:=by
 intro u hu;simp[fZ] at hu;rcases hu with rfl|rfl|rfl|rfl|rfl|rfl|rfl|rfl<;>rfl
theorem Ao {w:World} {base g n vc j:Nat} {cs:List Value} (hown:w.ownsRow base 76 8 (.slice (some ⟨g,0,none⟩) n vc) n cs) (hj:j<n) (a:bJ) {ao:Option Addr} {m c:Nat}:
  Sem.run Tryz.prog (storeCells ⟨g,j*8,none⟩ (fZ a (.slice ao m c)) 0) w= .ok () (w.setCells g (j*8) (fZ a (.slice ao m c))):=by
 obtain⟨g',cur,e2,_,hgb,hnc,_⟩:=bX hown (by omega);simp only[bH,Addr.mk.injEq,and_true] at e2;subst e2;have hsz:n*8<=cur.size:=XI hown hgb;have hin:∀i,i<8->j*8+i<cur.size:=fun i hi=>by omega
 have:=run_storeCells_cells (P:=Tryz.prog) g (j*8) (fZ a (.slice ao m c)) 0 w (fun i hi=>by
   rw[Nat.add_zero,af hgb (Array.getElem?_eq_getElem (hin i (by simpa [fZ] using hi)))];rfl) (fun i _=>ah hgb) (fun v hv=>Pk a v hv)
 simpa using this
theorem YF {w:World} {base bs:Nat} {v:Value} {ps:List (bJ×Value)} {s:HS} (h:lC w base bs v ps s) (t:Nat) (a b:Int) (i:Nat) (ht:t<4):
  Calls Tryz.prog 76 #[.pointer (some ⟨bs,0,none⟩),v,Bi ⟨t,9,a,b⟩,.int .i64 i] w (zk base bs v ps s w):=by
 obtain⟨vo,vc,rfl⟩:=aS h.row;have d0:∀o,(w.alloc o).cell? ⟨bs,t,none⟩=some (.int .i64 (iq (s.opn t))):=fun o=>af (aZ h.st) (cK s ht)
 have H:=ag h;clear h;unfold Bi;go_in;go_wp2_with fail;go_quiet (fail)
 obtain⟨w1,hw1⟩:∃x,x=(w.alloc (.cells #[.int .i64 t,.int .u8 9,.int .i64 a,.int .i64 b] 127)).drewN nq:=⟨_,rfl⟩;rw[<-hw1];have HB1:=ag (show Below w.heap.size w w1 from by rw[hw1];exact below_drewN ((au _ _).alloc (aB _) _) nq);have sQ:=ag (show w1.heap[w.heap.size]? =some (.cells #[.int .i64 t,.int .u8 9,.int .i64 a,.int .i64 b] 127) from by rw[hw1];exact aj w _);clear hw1 d0;have HT:=ag (H.out.below HB1.out);have q0:=af (o:=0) sQ.out rfl;have q1:=af (o:=1) sQ.out rfl;have q2:=af (o:=2) sQ.out rfl;have q3:=af (o:=3) sQ.out rfl;simp only[List.getElem_toArray,List.getElem_cons_zero,List.getElem_cons_succ] at q0 q1 q2 q3;have d0:w1.cell? ⟨bs,t,none⟩=some (.int .i64 (iq (s.opn t))):=af HT.out.st (cK s ht);have e0:w1.cell? ⟨bs,4+t,none⟩=some (.bool (s.ended t)):=af HT.out.st (gJ s ht);have fb:∀o,w1.frozen? ⟨bs,o,none⟩=false:=fun o=>ah HT.out.st
 have LA:=fb t;have Sd:=fb (4+t);have hlb:=lt_of_block HT.out.st;have El:(t:Int)<4:=by omega
 clear fb;go_wp2_with fail;go_ret;exact⟨_,rfl,kU.pre HB1.out (kU.same HT.out (au _ _))⟩
theorem Wp {w:World} {base bs:Nat} {v:Value} {ps:List (bJ×Value)} {s:HS} (h:lC w base bs v ps s) (t:Nat) (a b:Int) (i:Nat) (ht:t<4):
  Calls Tryz.prog 76 #[.pointer (some ⟨bs,0,none⟩),v,Bi ⟨t,10,a,b⟩,.int .i64 i] w (zk base bs v ps ⟨s.aU,s.opn,upd s.ended t true⟩ w):=by
 obtain⟨vo,vc,rfl⟩:=aS h.row;have d0:∀o,(w.alloc o).cell? ⟨bs,t,none⟩=some (.int .i64 (iq (s.opn t))):=fun o=>af (aZ h.st) (cK s ht)
 have H:=ag h;clear h;unfold Bi;go_in;go_wp2_with fail;go_quiet (fail)
 obtain⟨w1,hw1⟩:∃x,x=(w.alloc (.cells #[.int .i64 t,.int .u8 10,.int .i64 a,.int .i64 b] 127)).drewN nq:=⟨_,rfl⟩;rw[<-hw1];have HB1:=ag (show Below w.heap.size w w1 from by rw[hw1];exact below_drewN ((au _ _).alloc (aB _) _) nq);have sQ:=ag (show w1.heap[w.heap.size]? =some (.cells #[.int .i64 t,.int .u8 10,.int .i64 a,.int .i64 b] 127) from by rw[hw1];exact aj w _);clear hw1 d0;have HT:=ag (H.out.below HB1.out);have q0:=af (o:=0) sQ.out rfl;have q1:=af (o:=1) sQ.out rfl;have q2:=af (o:=2) sQ.out rfl;have q3:=af (o:=3) sQ.out rfl;simp only[List.getElem_toArray,List.getElem_cons_zero,List.getElem_cons_succ] at q0 q1 q2 q3;have d0:w1.cell? ⟨bs,t,none⟩=some (.int .i64 (iq (s.opn t))):=af HT.out.st (cK s ht);have e0:w1.cell? ⟨bs,4+t,none⟩=some (.bool (s.ended t)):=af HT.out.st (gJ s ht);have fb:∀o,w1.frozen? ⟨bs,o,none⟩=false:=fun o=>ah HT.out.st
 have LA:=fb t;have Sd:=fb (4+t);have hlb:=lt_of_block HT.out.st;have El:(t:Int)<4:=by omega
 clear fb;go_wp2_with fail
 go_region_law (fail)
 all_goals (
  go_wp2_with fail;go_ret;refine⟨_,rfl,kU.pre HB1.out (HT.out.stand ?_ ?_ rfl)⟩
  ·exact((bz.refl (fun k=>k=bs) w1).drew.setCell (p:=⟨bs,4+t,none⟩) (.inl rfl) _)
  ·rw[<-nL s ht];exact ai (w:=w1.drew) _ HT.out.st)
theorem Qq {w:World} {base bs:Nat} {v:Value} {ps:List (bJ×Value)} {s:HS} (h:lC w base bs v ps s) (t:Nat) (a b:Int) (i:Nat) (ht:t<4) (ho:s.opn t=none):
  Calls Tryz.prog 76 #[.pointer (some ⟨bs,0,none⟩),v,Bi ⟨t,11,a,b⟩,.int .i64 i] w (zk base bs v ps ⟨s.aU,s.opn,upd s.ended t true⟩ w):=by
 obtain⟨vo,vc,rfl⟩:=aS h.row;have d0:∀o,(w.alloc o).cell? ⟨bs,t,none⟩=some (.int .i64 (iq (s.opn t))):=fun o=>af (aZ h.st) (cK s ht)
 have H:=ag h;clear h;unfold Bi;go_in;go_wp2_with fail;go_quiet (fail)
 obtain⟨w1,hw1⟩:∃x,x=(w.alloc (.cells #[.int .i64 t,.int .u8 11,.int .i64 a,.int .i64 b] 127)).drewN nq:=⟨_,rfl⟩;rw[<-hw1];have HB1:=ag (show Below w.heap.size w w1 from by rw[hw1];exact below_drewN ((au _ _).alloc (aB _) _) nq);have sQ:=ag (show w1.heap[w.heap.size]? =some (.cells #[.int .i64 t,.int .u8 11,.int .i64 a,.int .i64 b] 127) from by rw[hw1];exact aj w _);clear hw1 d0;have HT:=ag (H.out.below HB1.out);have q0:=af (o:=0) sQ.out rfl;have q1:=af (o:=1) sQ.out rfl;have q2:=af (o:=2) sQ.out rfl;have q3:=af (o:=3) sQ.out rfl;simp only[List.getElem_toArray,List.getElem_cons_zero,List.getElem_cons_succ] at q0 q1 q2 q3;have d0:w1.cell? ⟨bs,t,none⟩=some (.int .i64 (iq (s.opn t))):=af HT.out.st (cK s ht);have e0:w1.cell? ⟨bs,4+t,none⟩=some (.bool (s.ended t)):=af HT.out.st (gJ s ht);have fb:∀o,w1.frozen? ⟨bs,o,none⟩=false:=fun o=>ah HT.out.st
 have LA:=fb t;have Sd:=fb (4+t);have hlb:=lt_of_block HT.out.st;have El:(t:Int)<4:=by omega
 clear fb;have Xm:iq (s.opn t)= -1:=by rw[ho];rfl
 rw[Xm] at d0;go_wp2_with fail
 go_region_law (fail)
 all_goals (
  go_wp2_with fail;go_ret;refine⟨_,rfl,kU.pre HB1.out (HT.out.stand ?_ ?_ rfl)⟩
  ·exact((bz.refl (fun k=>k=bs) w1).drew.setCell (p:=⟨bs,4+t,none⟩) (.inl rfl) _)
  ·rw[<-nL s ht];exact ai (w:=w1.drew) _ HT.out.st)
theorem Q6 {w:World} {base bs:Nat} {v:Value} {ps:List (bJ×Value)} {s:HS} (h:lC w base bs v ps s) (t:Nat) (a b:Int) (i:Nat) (ht:t<4) (ho:s.opn t=none) (hlen:ps.length<=1048576) (hbase:base<=w.heap.size):
  Calls Tryz.prog 76 #[.pointer (some ⟨bs,0,none⟩),v,Bi ⟨t,1,a,b⟩,.int .i64 i] w (zk base bs v ps ⟨s.aU++[begun ⟨t,1,a,b⟩ i],upd s.opn t (some s.aU.length),s.ended⟩ w):=by
 obtain⟨vo,vc,rfl⟩:=aS h.row;have d0:∀o,(w.alloc o).cell? ⟨bs,t,none⟩=some (.int .i64 (iq (s.opn t))):=fun o=>af (aZ h.st) (cK s ht)
 have H:=ag h;clear h;unfold Bi;go_in;go_wp2_with fail;go_quiet (fail)
 obtain⟨w1,hw1⟩:∃x,x=(w.alloc (.cells #[.int .i64 t,.int .u8 1,.int .i64 a,.int .i64 b] 127)).drewN nq:=⟨_,rfl⟩;rw[<-hw1];have HB1:=ag (show Below w.heap.size w w1 from by rw[hw1];exact below_drewN ((au _ _).alloc (aB _) _) nq);have sQ:=ag (show w1.heap[w.heap.size]? =some (.cells #[.int .i64 t,.int .u8 1,.int .i64 a,.int .i64 b] 127) from by rw[hw1];exact aj w _);clear hw1 d0;have HT:=ag (H.out.below HB1.out);have q0:=af (o:=0) sQ.out rfl;have q1:=af (o:=1) sQ.out rfl;have q2:=af (o:=2) sQ.out rfl;have q3:=af (o:=3) sQ.out rfl;simp only[List.getElem_toArray,List.getElem_cons_zero,List.getElem_cons_succ] at q0 q1 q2 q3;have d0:w1.cell? ⟨bs,t,none⟩=some (.int .i64 (iq (s.opn t))):=af HT.out.st (cK s ht);have e0:w1.cell? ⟨bs,4+t,none⟩=some (.bool (s.ended t)):=af HT.out.st (gJ s ht);have fb:∀o,w1.frozen? ⟨bs,o,none⟩=false:=fun o=>ah HT.out.st
 have LA:=fb t;have Sd:=fb (4+t);have hlb:=lt_of_block HT.out.st;have El:(t:Int)<4:=by omega
 clear fb;obtain⟨i1,gi,gz0,gz1,gz2⟩:=info_parts Xd;have hpl:s.aU.length=ps.length:=by rw[<-HT.out.fst,List.length_map]
 go_wp2_with fail
 go_region_law (fail)
 all_goals (
  have hc2:=((bz.refl (fun k=>k=bs) w1).setCell (p:=⟨bs,t,none⟩) (.inl rfl) (.int .i64 (ps.length:Int))).drew;have hs2:(w1.setCell ⟨bs,t,none⟩ (.int .i64 (ps.length:Int))).drew.heap[bs]? =some (.cells (iX ⟨s.aU++[begun ⟨t,1,a,b⟩ i],upd s.opn t (some s.aU.length),s.ended⟩).toArray 159 (0,0)):=by
   rw[<-mM s ht];have:=ai (o:=t) (.int .i64 (ps.length:Int)) HT.out.st;rw[hpl];exact this
  generalize(w1.setCell ⟨bs,t,none⟩ (.int .i64 (ps.length:Int))).drew=w2 at hc2 hs2⊢;have hE2:=dG hc2 sQ.out (by have:=lt_of_block H.out.st;omega);clear q0 q1 q2 q3 d0 e0 LA Sd;have q0:=af (o:=0) hE2 rfl;have q1:=af (o:=1) hE2 rfl;have q2:=af (o:=2) hE2 rfl;have q3:=af (o:=3) hE2 rfl;simp only[List.getElem_toArray,List.getElem_cons_zero,List.getElem_cons_succ] at q0 q1 q2 q3;have nZ:=ag hc2;have HS2:=ag hs2;clear hc2 hs2 hE2;go_wp2_with fail;refine(Nt _ ⟨t,1,a,b⟩ i).mono ?_;rintro e w3 ⟨rfl,hb3⟩;have LD:=ag (nZ.out.trans (bz.of_below hb3));have HS3:=ag (blk hb3 HS2.out);have HR3:=ag (aX HT.out.row LD.out (fun g hg e=>by have:=bO HT.out.row hg;have:=HT.out.bb;omega));have aiB:=LD.out.size;have hsz1:=HB1.out.size;clear hb3 q0 q1 q2 q3;go_wp2_with (at_builtin;refine dD _ rfl _ _ 67 rfl base 76 i1 _ 8 80 Tryz.underlying67 gi gz0 gz1 gz2 rfl (by decide) _ _ _ rfl (aX HR3.out ((bz.refl (fun _=>False) w3).alloc _) (fun _ _=>id)) ⟨w3.heap.size,0,none⟩ 1 1 (fZ (begun ⟨t,1,a,b⟩ i) (.slice none 0 0)) rfl rfl ?c1 ?c2 ?c3 ?c4 ?c5 ?_)
  case c1=>exact iP (aj _ _)
  case c2=>exact Pk _
  case c3=>unfold maxLen;omega
  case c4=>omega
  case c5=>simp;omega
  intro ao4 c4 w4 hown jh eU;have HK:=ag (HT.out.begin (s':=⟨s.aU++[begun ⟨t,1,a,b⟩ i],upd s.opn t (some s.aU.length),s.ended⟩) (a:=begun ⟨t,1,a,b⟩ i) (LD.out.alloc _) (aZ HS3.out) eU hown (fun g hg=>(jh g hg).imp id (fun q=>by omega)) rfl rfl);clear hown jh eU;go_wp2_with fail;go_ret;exact⟨_,rfl,kU.pre HB1.out HK.out⟩)
theorem Tw {w:World} {base bs:Nat} {v:Value} {ps:List (bJ×Value)} {s:HS} (h:lC w base bs v ps s) (t:Nat) (xk:Int) (j:Nat) (p:bJ×Value) (a b:Int) (i:Nat) (ht:t<4) (hk:2<=xk/\xk<=6) (ho:s.opn t=some j) (hp:ps[j]? =some p) (hdl:p.1.done.length<=1048576) (hlen:ps.length<=1048576) (hbase:base<=w.heap.size):
  Calls Tryz.prog 76 #[.pointer (some ⟨bs,0,none⟩),v,Bi ⟨t,xk,a,b⟩,.int .i64 i] w (zk base bs v ps ⟨s.aU.modify j (more ⟨t,xk,a,b⟩),s.opn,s.ended⟩ w):=by
 obtain⟨vo,vc,rfl⟩:=aS h.row;have d0:∀o,(w.alloc o).cell? ⟨bs,t,none⟩=some (.int .i64 (iq (s.opn t))):=fun o=>af (aZ h.st) (cK s ht)
 have H:=ag h;clear h;unfold Bi;go_in;go_wp2_with fail;go_quiet (fail)
 obtain⟨w1,hw1⟩:∃x,x=(w.alloc (.cells #[.int .i64 t,.int .u8 xk,.int .i64 a,.int .i64 b] 127)).drewN nq:=⟨_,rfl⟩;rw[<-hw1];have HB1:=ag (show Below w.heap.size w w1 from by rw[hw1];exact below_drewN ((au _ _).alloc (aB _) _) nq);have sQ:=ag (show w1.heap[w.heap.size]? =some (.cells #[.int .i64 t,.int .u8 xk,.int .i64 a,.int .i64 b] 127) from by rw[hw1];exact aj w _);clear hw1 d0;have HT:=ag (H.out.below HB1.out);have q0:=af (o:=0) sQ.out rfl;have q1:=af (o:=1) sQ.out rfl;have q2:=af (o:=2) sQ.out rfl;have q3:=af (o:=3) sQ.out rfl;simp only[List.getElem_toArray,List.getElem_cons_zero,List.getElem_cons_succ] at q0 q1 q2 q3;have d0:w1.cell? ⟨bs,t,none⟩=some (.int .i64 (iq (s.opn t))):=af HT.out.st (cK s ht);have e0:w1.cell? ⟨bs,4+t,none⟩=some (.bool (s.ended t)):=af HT.out.st (gJ s ht);have fb:∀o,w1.frozen? ⟨bs,o,none⟩=false:=fun o=>ah HT.out.st
 have LA:=fb t;have Sd:=fb (4+t);have hlb:=lt_of_block HT.out.st;have El:(t:Int)<4:=by omega
 clear fb;obtain⟨p,dv⟩:=p;have hdo:=HT.out.own j _ hp;obtain⟨Ah,Ag,rfl⟩:∃ao c,dv= .slice ao p.done.length c:=aS hdo;obtain⟨g,cur,rfl,hgb,hgc,_,uL⟩:=bX HT.out.row (by have:=(bu.1 hp).1;omega);have hjl:=(bu.1 hp).1;have Xm:iq (s.opn t)=j:=by rw[ho];rfl
 have Bj:iq (some j)=(j:Int):=rfl;rw[Xm] at d0;have hgs:=lt_of_block hgc;have Np:¬g=bs:=by have:=HT.out.bb;omega
 have ql:=fun i=>fun u (hu:(ym (p,.slice Ah p.done.length Ag))[i]? =some u)=>af hgc (uL _ _ (j_ o8 ps hp i u hu))
 have x0:=ql 0 _ rfl;have x1:=ql 1 _ rfl;have x2:=ql 2 _ rfl;have x3:=ql 3 _ rfl;have x4:=ql 4 _ rfl;have x5:=ql 5 _ rfl;have x6:=ql 6 _ rfl;have x7:=ql 7 _ rfl;simp only[Nat.add_zero] at x0;have gf:=fun o=>ah (o:=o) hgc
 have HP:=ag hp;have KX:=ag hgc;have YL:=ag uL;have Y_:=ag hdo;clear ql uL hp hdo;have e1:(xk==1)=false:=by simp;omega
 have e9:(xk==9)=false:=by simp;omega
 have e10:(xk==10)=false:=by simp;omega
 have k2:2<=xk:=hk.1;have k6:xk<=6:=hk.2;obtain⟨i0,hi,hz0,hz1,hz2⟩:=info_parts YW;have hsz1:=HB1.out.size;have gf7:=gf (j*8+7);clear gf;go_wp2_with fail
 go_region_law (first
  |(refine ji (by rfl) (.tmp 66) (.tmp 68) 53 (by rfl) base 127 i0 _ 4 32 Tryz.underlying53 hi hz0 hz1 hz2 rfl (by decide) (.slice Ah p.done.length Ag) p.done.length (p.done.flatMap iB) (by simp[Act.eval]) (by exact aX Y_.out (((bz.refl (fun _=>False) w1).alloc _).drew) (fun _ _=>id)) ⟨w1.heap.size,0,none⟩ 1 1 (by decide) (iB ⟨t,xk,a,b⟩) (by simp[Act.eval]) rfl (by exact iP (aj w1 _)) (Yb _) (by unfold maxLen;omega) (by omega) (by show base<=(w1.alloc _).heap.size;rw[World.size_alloc];omega) ?_;intro Gn Ht w5 h1 h2 h3;have Sw:=ag h1;have HF5:=ag h2;have qZ:=ag h3;have hg5:w5.heap[g]? =some (.cells cur 76 (0,0)):=(by rw[h3.block g (by show g<(w1.alloc _).heap.size;rw[World.size_alloc];omega) (fun e=>HT.out.ne j g _ HP.out e.symm rfl)];exact aZ KX.out);have s0:w5.cell? ⟨g,j*8+7,none⟩=some (.slice Ah p.done.length Ag):=(World.cell?_of_block (w:=w1) (by rw[hg5,KX.out])).trans x7;have s1:w5.frozen? ⟨g,j*8+7,none⟩=false:=ah hg5;clear h1 h2 h3 hg5))
 all_goals (
  have HK:=ag (HT.out.abf (x:=⟨t,xk,a,b⟩) (s':=⟨s.aU.modify j (more ⟨t,xk,a,b⟩),s.opn,s.ended⟩) HP.out rfl (((bz.refl (fun _=>False) w1).alloc _).drew) qZ.out Sw.out (fun d hd=>(HF5.out d hd).imp id (fun q=>by have q2:(w1.alloc _).heap.size<=d:=q;rw[World.size_alloc] at q2;omega)) rfl rfl);clear s0 s1;go_wp2_with fail;go_ret;exact⟨_,rfl,kU.pre HB1.out HK.out⟩)
theorem ML {w:World} {base bs:Nat} {v:Value} {ps:List (bJ×Value)} {s:HS} (h:lC w base bs v ps s) (t:Nat) (j:Nat) (p:bJ×Value) (a b:Int) (i:Nat) (ht:t<4) (ho:s.opn t=some j) (hp:ps[j]? =some p) (hlen:ps.length<=1048576):
  Calls Tryz.prog 76 #[.pointer (some ⟨bs,0,none⟩),v,Bi ⟨t,7,a,b⟩,.int .i64 i] w (zk base bs v ps ⟨s.aU.modify j (bW ⟨t,7,a,b⟩ i),upd s.opn t none,s.ended⟩ w):=by
 obtain⟨vo,vc,rfl⟩:=aS h.row;have d0:∀o,(w.alloc o).cell? ⟨bs,t,none⟩=some (.int .i64 (iq (s.opn t))):=fun o=>af (aZ h.st) (cK s ht)
 have H:=ag h;clear h;unfold Bi;go_in;go_wp2_with fail;go_quiet (fail)
 obtain⟨w1,hw1⟩:∃x,x=(w.alloc (.cells #[.int .i64 t,.int .u8 7,.int .i64 a,.int .i64 b] 127)).drewN nq:=⟨_,rfl⟩;rw[<-hw1];have HB1:=ag (show Below w.heap.size w w1 from by rw[hw1];exact below_drewN ((au _ _).alloc (aB _) _) nq);have sQ:=ag (show w1.heap[w.heap.size]? =some (.cells #[.int .i64 t,.int .u8 7,.int .i64 a,.int .i64 b] 127) from by rw[hw1];exact aj w _);clear hw1 d0;have HT:=ag (H.out.below HB1.out);have q0:=af (o:=0) sQ.out rfl;have q1:=af (o:=1) sQ.out rfl;have q2:=af (o:=2) sQ.out rfl;have q3:=af (o:=3) sQ.out rfl;simp only[List.getElem_toArray,List.getElem_cons_zero,List.getElem_cons_succ] at q0 q1 q2 q3;have d0:w1.cell? ⟨bs,t,none⟩=some (.int .i64 (iq (s.opn t))):=af HT.out.st (cK s ht);have e0:w1.cell? ⟨bs,4+t,none⟩=some (.bool (s.ended t)):=af HT.out.st (gJ s ht);have fb:∀o,w1.frozen? ⟨bs,o,none⟩=false:=fun o=>ah HT.out.st
 have LA:=fb t;have Sd:=fb (4+t);have hlb:=lt_of_block HT.out.st;have El:(t:Int)<4:=by omega
 clear fb;obtain⟨p,dv⟩:=p;have hdo:=HT.out.own j _ hp;obtain⟨Ah,Ag,rfl⟩:∃ao c,dv= .slice ao p.done.length c:=aS hdo;obtain⟨g,cur,rfl,hgb,hgc,_,uL⟩:=bX HT.out.row (by have:=(bu.1 hp).1;omega);have hjl:=(bu.1 hp).1;have Xm:iq (s.opn t)=j:=by rw[ho];rfl
 have Bj:iq (some j)=(j:Int):=rfl;rw[Xm] at d0;have hgs:=lt_of_block hgc;have Np:¬g=bs:=by have:=HT.out.bb;omega
 have ql:=fun i=>fun u (hu:(ym (p,.slice Ah p.done.length Ag))[i]? =some u)=>af hgc (uL _ _ (j_ o8 ps hp i u hu))
 have x0:=ql 0 _ rfl;have x1:=ql 1 _ rfl;have x2:=ql 2 _ rfl;have x3:=ql 3 _ rfl;have x4:=ql 4 _ rfl;have x5:=ql 5 _ rfl;have x6:=ql 6 _ rfl;have x7:=ql 7 _ rfl;simp only[Nat.add_zero] at x0;have gf:=fun o=>ah (o:=o) hgc
 have HP:=ag hp;have KX:=ag hgc;have YL:=ag uL;have Y_:=ag hdo;clear ql uL hp hdo;have HC:=ag (show ∀w,Calls Tryz.prog 114 #[.agg (fZ p (.slice Ah p.done.length Ag)).toArray,Bi ⟨t,7,a,b⟩,.int .i64 i] w fun e w'=>e= .returned (.agg (fZ ((bW ⟨t,7,a,b⟩ i) p) (.slice Ah p.done.length Ag)).toArray)/\Below w.heap.size w w' from fun w=>by
  have h9:=v_ w p (.slice Ah p.done.length Ag) ⟨t,7,a,b⟩ i rfl;rw[show qd ⟨t,7,a,b⟩ i p=(bW ⟨t,7,a,b⟩ i) p from by simp[qd,bW,closed]] at h9;exact h9)
 clear gf;go_wp2_with fail;have GX:=ag (bz.refl (fun k=>k=bs) w1);have Zr:=ag HT.out.st;have Xh:=sQ;have HRW:=ag HT.out.row
 go_region_law (first|(go_simp;go_at_call 114;refine(HC.out _).mono ?_;rintro e4 w4 ⟨rfl,hb4⟩;have sN:=ag hb4;have hst:=Ao (aX HRW.out ((bz.refl (fun _=>False) w1).drew.trans (bz.of_below hb4)) (fun _ _=>id)) hjl ((bW ⟨t,7,a,b⟩ i) p) (ao:=Ah) (m:=p.done.length) (c:=Ag);have hl8:(fZ ((bW ⟨t,7,a,b⟩ i) p) (.slice Ah p.done.length Ag)).length=8:=rfl;clear hb4;dsimp only))
 all_goals (
  clear hst x0 x1 x2 x3 x4 x5 x6 x7 q0 q1 q2 q3 d0 e0 LA Sd;obtain⟨W5,OB⟩:∃x,x=w4.setCells g (j*8) (fZ ((bW ⟨t,7,a,b⟩ i) p) (.slice Ah p.done.length Ag)):=⟨_,rfl⟩;rw[<-OB];have hc4:bz (fun _=>False) w1 w4:=(bz.refl (fun _=>False) w1).drew.trans (bz.of_below sN.out);have Ai:bz (fun k=>k=g) w1 W5:=by rw[OB];exact bz.jL (S:=fun k=>k=g) rfl _ _ (bz.dY (T:=fun _=>False) (bz.refl _ w1) hc4 (fun _ _ q=>q.elim))
  have hs5:=dG Ai Zr.out (fun e=>Np e.symm);have Kb:=dG Ai Xh.out (by have:=bO H.out.row (g:=g) rfl;omega);have q0:=af (o:=0) Kb rfl;have q1:=af (o:=1) Kb rfl;have q2:=af (o:=2) Kb rfl;have q3:=af (o:=3) Kb rfl;simp only[List.getElem_toArray,List.getElem_cons_zero,List.getElem_cons_succ] at q0 q1 q2 q3;have d0:W5.cell? ⟨bs,t,none⟩=some (.int .i64 (iq (s.opn t))):=af hs5 (cK s ht);have LA:W5.frozen? ⟨bs,t,none⟩=false:=ah hs5;have Zo:=ag hc4;have NH:=ag OB;clear hc4 Ai hs5 Kb OB;go_wp2_with fail
  go_region_law (fail)
  all_goals (
   go_wp2_with fail;go_ret;refine⟨_,rfl,kU.pre HB1.out (kU.post (HT.out.close (s':=⟨s.aU.modify j (bW ⟨t,7,a,b⟩ i),upd s.opn t none,s.ended⟩) (f:=bW ⟨t,7,a,b⟩ i) (o:=t) (u:=.int .i64 (-1)) HP.out rfl (GX.out.trans (bz.dY (T:=fun _=>False) (bz.refl _ w1) Zo.out (fun _ _ q=>q.elim))) (dG Zo.out Zr.out id) (mM s ht none (s.aU.modify j (bW ⟨t,7,a,b⟩ i))) rfl rfl) ?_)⟩;rw[<-NH.out];exact(au _ _).drew))
theorem N_ {w:World} {base bs:Nat} {v:Value} {ps:List (bJ×Value)} {s:HS} (h:lC w base bs v ps s) (t:Nat) (j:Nat) (p:bJ×Value) (a b:Int) (i:Nat) (ht:t<4) (ho:s.opn t=some j) (hp:ps[j]? =some p) (hlen:ps.length<=1048576):
  Calls Tryz.prog 76 #[.pointer (some ⟨bs,0,none⟩),v,Bi ⟨t,8,a,b⟩,.int .i64 i] w (zk base bs v ps ⟨s.aU.modify j (closed 2 i),upd s.opn t none,s.ended⟩ w):=by
 obtain⟨vo,vc,rfl⟩:=aS h.row;have d0:∀o,(w.alloc o).cell? ⟨bs,t,none⟩=some (.int .i64 (iq (s.opn t))):=fun o=>af (aZ h.st) (cK s ht)
 have H:=ag h;clear h;unfold Bi;go_in;go_wp2_with fail;go_quiet (fail)
 obtain⟨w1,hw1⟩:∃x,x=(w.alloc (.cells #[.int .i64 t,.int .u8 8,.int .i64 a,.int .i64 b] 127)).drewN nq:=⟨_,rfl⟩;rw[<-hw1];have HB1:=ag (show Below w.heap.size w w1 from by rw[hw1];exact below_drewN ((au _ _).alloc (aB _) _) nq);have sQ:=ag (show w1.heap[w.heap.size]? =some (.cells #[.int .i64 t,.int .u8 8,.int .i64 a,.int .i64 b] 127) from by rw[hw1];exact aj w _);clear hw1 d0;have HT:=ag (H.out.below HB1.out);have q0:=af (o:=0) sQ.out rfl;have q1:=af (o:=1) sQ.out rfl;have q2:=af (o:=2) sQ.out rfl;have q3:=af (o:=3) sQ.out rfl;simp only[List.getElem_toArray,List.getElem_cons_zero,List.getElem_cons_succ] at q0 q1 q2 q3;have d0:w1.cell? ⟨bs,t,none⟩=some (.int .i64 (iq (s.opn t))):=af HT.out.st (cK s ht);have e0:w1.cell? ⟨bs,4+t,none⟩=some (.bool (s.ended t)):=af HT.out.st (gJ s ht);have fb:∀o,w1.frozen? ⟨bs,o,none⟩=false:=fun o=>ah HT.out.st
 have LA:=fb t;have Sd:=fb (4+t);have hlb:=lt_of_block HT.out.st;have El:(t:Int)<4:=by omega
 clear fb;obtain⟨p,dv⟩:=p;have hdo:=HT.out.own j _ hp;obtain⟨Ah,Ag,rfl⟩:∃ao c,dv= .slice ao p.done.length c:=aS hdo;obtain⟨g,cur,rfl,hgb,hgc,_,uL⟩:=bX HT.out.row (by have:=(bu.1 hp).1;omega);have hjl:=(bu.1 hp).1;have Xm:iq (s.opn t)=j:=by rw[ho];rfl
 have Bj:iq (some j)=(j:Int):=rfl;rw[Xm] at d0;have hgs:=lt_of_block hgc;have Np:¬g=bs:=by have:=HT.out.bb;omega
 have ql:=fun i=>fun u (hu:(ym (p,.slice Ah p.done.length Ag))[i]? =some u)=>af hgc (uL _ _ (j_ o8 ps hp i u hu))
 have x0:=ql 0 _ rfl;have x1:=ql 1 _ rfl;have x2:=ql 2 _ rfl;have x3:=ql 3 _ rfl;have x4:=ql 4 _ rfl;have x5:=ql 5 _ rfl;have x6:=ql 6 _ rfl;have x7:=ql 7 _ rfl;simp only[Nat.add_zero] at x0;have gf:=fun o=>ah (o:=o) hgc
 have HP:=ag hp;have KX:=ag hgc;have YL:=ag uL;have Y_:=ag hdo;clear ql uL hp hdo;have HC:=ag (show ∀w,Calls Tryz.prog 114 #[.agg (fZ p (.slice Ah p.done.length Ag)).toArray,Bi ⟨t,8,a,b⟩,.int .i64 i] w fun e w'=>e= .returned (.agg (fZ ((closed 2 i) p) (.slice Ah p.done.length Ag)).toArray)/\Below w.heap.size w w' from fun w=>by
  have h9:=v_ w p (.slice Ah p.done.length Ag) ⟨t,8,a,b⟩ i rfl;rw[show qd ⟨t,8,a,b⟩ i p=(closed 2 i) p from by simp[qd,bW,closed]] at h9;exact h9)
 clear gf;go_wp2_with fail;have GX:=ag (bz.refl (fun k=>k=bs) w1);have Zr:=ag HT.out.st;have Xh:=sQ;have HRW:=ag HT.out.row
 go_region_law (first|(go_simp;go_at_call 114;refine(HC.out _).mono ?_;rintro e4 w4 ⟨rfl,hb4⟩;have sN:=ag hb4;have hst:=Ao (aX HRW.out ((bz.refl (fun _=>False) w1).drew.trans (bz.of_below hb4)) (fun _ _=>id)) hjl ((closed 2 i) p) (ao:=Ah) (m:=p.done.length) (c:=Ag);have hl8:(fZ ((closed 2 i) p) (.slice Ah p.done.length Ag)).length=8:=rfl;clear hb4;dsimp only))
 all_goals (
  clear hst x0 x1 x2 x3 x4 x5 x6 x7 q0 q1 q2 q3 d0 e0 LA Sd;obtain⟨W5,OB⟩:∃x,x=w4.setCells g (j*8) (fZ ((closed 2 i) p) (.slice Ah p.done.length Ag)):=⟨_,rfl⟩;rw[<-OB];have hc4:bz (fun _=>False) w1 w4:=(bz.refl (fun _=>False) w1).drew.trans (bz.of_below sN.out);have Ai:bz (fun k=>k=g) w1 W5:=by rw[OB];exact bz.jL (S:=fun k=>k=g) rfl _ _ (bz.dY (T:=fun _=>False) (bz.refl _ w1) hc4 (fun _ _ q=>q.elim))
  have hs5:=dG Ai Zr.out (fun e=>Np e.symm);have Kb:=dG Ai Xh.out (by have:=bO H.out.row (g:=g) rfl;omega);have q0:=af (o:=0) Kb rfl;have q1:=af (o:=1) Kb rfl;have q2:=af (o:=2) Kb rfl;have q3:=af (o:=3) Kb rfl;simp only[List.getElem_toArray,List.getElem_cons_zero,List.getElem_cons_succ] at q0 q1 q2 q3;have d0:W5.cell? ⟨bs,t,none⟩=some (.int .i64 (iq (s.opn t))):=af hs5 (cK s ht);have LA:W5.frozen? ⟨bs,t,none⟩=false:=ah hs5;have Zo:=ag hc4;have NH:=ag OB;clear hc4 Ai hs5 Kb OB;go_wp2_with fail
  go_region_law (fail)
  all_goals (
   go_wp2_with fail;go_ret;refine⟨_,rfl,kU.pre HB1.out (kU.post (HT.out.close (s':=⟨s.aU.modify j (closed 2 i),upd s.opn t none,s.ended⟩) (f:=closed 2 i) (o:=t) (u:=.int .i64 (-1)) HP.out rfl (GX.out.trans (bz.dY (T:=fun _=>False) (bz.refl _ w1) Zo.out (fun _ _ q=>q.elim))) (dG Zo.out Zr.out id) (mM s ht none (s.aU.modify j (closed 2 i))) rfl rfl) ?_)⟩;rw[<-NH.out];exact(au _ _).drew))
theorem JN {w:World} {base bs:Nat} {v:Value} {ps:List (bJ×Value)} {s:HS} (h:lC w base bs v ps s) (t:Nat) (j:Nat) (p:bJ×Value) (a b:Int) (i:Nat) (ht:t<4) (ho:s.opn t=some j) (hp:ps[j]? =some p) (hlen:ps.length<=1048576):
  Calls Tryz.prog 76 #[.pointer (some ⟨bs,0,none⟩),v,Bi ⟨t,11,a,b⟩,.int .i64 i] w (zk base bs v ps ⟨s.aU.modify j (closed 3 i),upd s.opn t none,upd s.ended t true⟩ w):=by
 obtain⟨vo,vc,rfl⟩:=aS h.row;have d0:∀o,(w.alloc o).cell? ⟨bs,t,none⟩=some (.int .i64 (iq (s.opn t))):=fun o=>af (aZ h.st) (cK s ht)
 have H:=ag h;clear h;unfold Bi;go_in;go_wp2_with fail;go_quiet (fail)
 obtain⟨w1,hw1⟩:∃x,x=(w.alloc (.cells #[.int .i64 t,.int .u8 11,.int .i64 a,.int .i64 b] 127)).drewN nq:=⟨_,rfl⟩;rw[<-hw1];have HB1:=ag (show Below w.heap.size w w1 from by rw[hw1];exact below_drewN ((au _ _).alloc (aB _) _) nq);have sQ:=ag (show w1.heap[w.heap.size]? =some (.cells #[.int .i64 t,.int .u8 11,.int .i64 a,.int .i64 b] 127) from by rw[hw1];exact aj w _);clear hw1 d0;have HT:=ag (H.out.below HB1.out);have q0:=af (o:=0) sQ.out rfl;have q1:=af (o:=1) sQ.out rfl;have q2:=af (o:=2) sQ.out rfl;have q3:=af (o:=3) sQ.out rfl;simp only[List.getElem_toArray,List.getElem_cons_zero,List.getElem_cons_succ] at q0 q1 q2 q3;have d0:w1.cell? ⟨bs,t,none⟩=some (.int .i64 (iq (s.opn t))):=af HT.out.st (cK s ht);have e0:w1.cell? ⟨bs,4+t,none⟩=some (.bool (s.ended t)):=af HT.out.st (gJ s ht);have fb:∀o,w1.frozen? ⟨bs,o,none⟩=false:=fun o=>ah HT.out.st
 have LA:=fb t;have Sd:=fb (4+t);have hlb:=lt_of_block HT.out.st;have El:(t:Int)<4:=by omega
 clear fb;obtain⟨p,dv⟩:=p;have hdo:=HT.out.own j _ hp;obtain⟨Ah,Ag,rfl⟩:∃ao c,dv= .slice ao p.done.length c:=aS hdo;obtain⟨g,cur,rfl,hgb,hgc,_,uL⟩:=bX HT.out.row (by have:=(bu.1 hp).1;omega);have hjl:=(bu.1 hp).1;have Xm:iq (s.opn t)=j:=by rw[ho];rfl
 have Bj:iq (some j)=(j:Int):=rfl;rw[Xm] at d0;have hgs:=lt_of_block hgc;have Np:¬g=bs:=by have:=HT.out.bb;omega
 have ql:=fun i=>fun u (hu:(ym (p,.slice Ah p.done.length Ag))[i]? =some u)=>af hgc (uL _ _ (j_ o8 ps hp i u hu))
 have x0:=ql 0 _ rfl;have x1:=ql 1 _ rfl;have x2:=ql 2 _ rfl;have x3:=ql 3 _ rfl;have x4:=ql 4 _ rfl;have x5:=ql 5 _ rfl;have x6:=ql 6 _ rfl;have x7:=ql 7 _ rfl;simp only[Nat.add_zero] at x0;have gf:=fun o=>ah (o:=o) hgc
 have HP:=ag hp;have KX:=ag hgc;have YL:=ag uL;have Y_:=ag hdo;clear ql uL hp hdo;have HC:=ag (show ∀w,Calls Tryz.prog 114 #[.agg (fZ p (.slice Ah p.done.length Ag)).toArray,Bi ⟨t,11,a,b⟩,.int .i64 i] w fun e w'=>e= .returned (.agg (fZ ((closed 3 i) p) (.slice Ah p.done.length Ag)).toArray)/\Below w.heap.size w w' from fun w=>by
  have h9:=v_ w p (.slice Ah p.done.length Ag) ⟨t,11,a,b⟩ i rfl;rw[show qd ⟨t,11,a,b⟩ i p=(closed 3 i) p from by simp[qd,bW,closed]] at h9;exact h9)
 clear gf;go_wp2_with fail
 go_region_law (fail)
 all_goals (
  have KW:=((bz.refl (fun k=>k=bs) w1).setCell (p:=⟨bs,4+t,none⟩) (.inl rfl) (.bool true)).drew;have hsE:(w1.setCell ⟨bs,4+t,none⟩ (.bool true)).drew.heap[bs]? =some (.cells (iX ⟨s.aU,s.opn,upd s.ended t true⟩).toArray 159 (0,0)):=by
   rw[<-nL s ht];exact ai (w:=w1.drew) _ HT.out.st
  generalize(w1.setCell ⟨bs,4+t,none⟩ (.bool true)).drew=wE at KW hsE⊢;have GX:=ag KW;have Zr:=ag hsE;have Xh:=ag (dG KW sQ.out (by have:=lt_of_block H.out.st;omega));have HGW:=ag (dG KW KX.out (fun e=>Np e));have HRW:=ag (aX HT.out.row KW (fun d hd e=>by have:=bO HT.out.row hd;have:=HT.out.bb;omega));clear KW hsE q0 q1 q2 q3 x0 x1 x2 x3 x4 x5 x6 x7 d0 e0 LA Sd;have ql:=fun i=>fun u (hu:(ym (p,.slice Ah p.done.length Ag))[i]? =some u)=>af HGW.out (YL.out _ _ (j_ o8 ps HP.out i u hu))
  have x0:=ql 0 _ rfl;have x1:=ql 1 _ rfl;have x2:=ql 2 _ rfl;have x3:=ql 3 _ rfl;have x4:=ql 4 _ rfl;have x5:=ql 5 _ rfl;have x6:=ql 6 _ rfl;have x7:=ql 7 _ rfl;simp only[Nat.add_zero] at x0;have d0:True:=trivial;have e0:True:=trivial;have LA:True:=trivial;have Sd:True:=trivial;clear ql;have q0:=af (o:=0) Xh.out rfl;have q1:=af (o:=1) Xh.out rfl;have q2:=af (o:=2) Xh.out rfl;have q3:=af (o:=3) Xh.out rfl;simp only[List.getElem_toArray,List.getElem_cons_zero,List.getElem_cons_succ] at q0 q1 q2 q3;go_wp2_with fail
  go_region_law (first|(go_simp;go_at_call 114;refine(HC.out _).mono ?_;rintro e4 w4 ⟨rfl,hb4⟩;have sN:=ag hb4;have hst:=Ao (aX HRW.out ((bz.refl (fun _=>False) wE).drew.trans (bz.of_below hb4)) (fun _ _=>id)) hjl ((closed 3 i) p) (ao:=Ah) (m:=p.done.length) (c:=Ag);have hl8:(fZ ((closed 3 i) p) (.slice Ah p.done.length Ag)).length=8:=rfl;clear hb4;dsimp only))
  all_goals (
   clear hst x0 x1 x2 x3 x4 x5 x6 x7 q0 q1 q2 q3 d0 e0 LA Sd;obtain⟨W5,OB⟩:∃x,x=w4.setCells g (j*8) (fZ ((closed 3 i) p) (.slice Ah p.done.length Ag)):=⟨_,rfl⟩;rw[<-OB];have hc4:bz (fun _=>False) wE w4:=(bz.refl (fun _=>False) wE).drew.trans (bz.of_below sN.out);have Ai:bz (fun k=>k=g) wE W5:=by rw[OB];exact bz.jL (S:=fun k=>k=g) rfl _ _ (bz.dY (T:=fun _=>False) (bz.refl _ wE) hc4 (fun _ _ q=>q.elim))
   have hs5:=dG Ai Zr.out (fun e=>Np e.symm);have Kb:=dG Ai Xh.out (by have:=bO H.out.row (g:=g) rfl;omega);have q0:=af (o:=0) Kb rfl;have q1:=af (o:=1) Kb rfl;have q2:=af (o:=2) Kb rfl;have q3:=af (o:=3) Kb rfl;simp only[List.getElem_toArray,List.getElem_cons_zero,List.getElem_cons_succ] at q0 q1 q2 q3;have d0:W5.cell? ⟨bs,t,none⟩=some (.int .i64 (iq (s.opn t))):=af hs5 (cK ⟨s.aU,s.opn,upd s.ended t true⟩ ht);have LA:W5.frozen? ⟨bs,t,none⟩=false:=ah hs5;have Zo:=ag hc4;have NH:=ag OB;clear hc4 Ai hs5 Kb OB;go_wp2_with fail
   go_region_law (fail)
   all_goals (
    go_wp2_with fail;go_ret;refine⟨_,rfl,kU.pre HB1.out (kU.post (HT.out.close (s':=⟨s.aU.modify j (closed 3 i),upd s.opn t none,upd s.ended t true⟩) (f:=closed 3 i) (o:=t) (u:=.int .i64 (-1)) HP.out rfl (GX.out.trans (bz.dY (T:=fun _=>False) (bz.refl _ wE) Zo.out (fun _ _ q=>q.elim))) (dG Zo.out Zr.out id) (mM ⟨s.aU,s.opn,upd s.ended t true⟩ ht none (s.aU.modify j (closed 3 i))) rfl rfl) ?_)⟩;rw[<-NH.out];exact(au _ _).drew))
 )
theorem Qz {w:World} {base bs:Nat} {v:Value} {ps:List (bJ×Value)} {s s':HS} {x:Ev} {i:Nat} (h:lC w base bs v ps s) (hs:fC s x i=some s') (hok:yV s i) (hdl:∀(j:Nat) p,ps[j]? =some p->p.1.done.length<=1048576) (hlen:ps.length<=1048576) (hbase:base<=w.heap.size):
  Calls Tryz.prog 76 #[.pointer (some ⟨bs,0,none⟩),v,Bi x,.int .i64 i] w (zk base bs v ps s' w):=by
 unfold fC at hs;split at hs
 ·cases hs
 rename_i h1;split at hs
 ·cases hs
 rename_i h2;obtain⟨th,k,a,b⟩:=x;simp only at h1 h2 hs⊢;obtain⟨t,rfl⟩:∃t:Nat,th=t:=⟨th.toNat,by omega⟩;have ht:t<4:=by omega
 rw[Int.toNat_natCast] at hs;cases ho:s.opn t with
 |none=>
  rw[ho] at hs;simp only at hs;split at hs
  ·rename_i hk;subst hk;cases hs;exact Q6 h t a b i ht ho hlen hbase
  ·split at hs
   ·rename_i hk;subst hk;cases hs;exact YF h t a b i ht
   ·split at hs
    ·rename_i hk;cases hs;rcases hk with rfl|rfl
     ·exact Wp h t a b i ht
     ·exact Qq h t a b i ht ho
    ·cases hs
 |some j=>
  rw[ho] at hs;simp only at hs;obtain⟨q,hq, -, -⟩:=hok.opn t j ho;obtain⟨p,hp⟩:∃p,ps[j]? =some p:=bE (by
   have h9:=congrArg List.length h.fst;rw[List.length_map] at h9;have:=(bu.1 hq).1;omega)
  split at hs
  ·rename_i hk;cases hs;exact Tw h t k j p a b i ht hk ho hp (hdl j p hp) hlen hbase
  ·split at hs
   ·rename_i hk;subst hk;cases hs;exact ML h t j p a b i ht ho hp hlen
   ·split at hs
    ·rename_i hk;subst hk;cases hs;exact N_ h t j p a b i ht ho hp hlen
    ·split at hs
     ·rename_i hk;subst hk;cases hs;exact JN h t j p a b i ht ho hp hlen
     ·cases hs
theorem ZH.no {evs:List Ev} {k:Nat} {w w':World} (h:jK evs 0 HS.init= .inr k) (hb:Below w.heap.size w w'):ZH evs w (.returned (.tuple #[.slice none 0 0,.int .i64 (k:Int),.int .i64 15])) w':=ZH.of (Ay.no h hb)
theorem YE {w:World} {v:Value} {evs:List Ev} (h:dH iB w 4 v evs) (hl:evs.length<=2 ^ 20):
  Calls Tryz.prog 43 #[v] w (ZH evs w):=by
 obtain⟨ao,cap,rfl⟩:=Rd.shape h;have VK:=ag h;clear h;have hl1:¬((evs.length:Int)>1048576):=by omega
 go_in;go_wp2_with fail;have Uq:Hid (lC (w.alloc (.cells (iX HS.init).toArray 159)) (w.heap.size+1) w.heap.size (.slice none 0 0) [] HS.init):=ag ⟨aj _ _,rfl,World.ownsRow_nil _ _ _ _,fun j p hp=>by simp at hp,by omega,fun j g p hp=>by simp at hp,fun i j g p q _ hp=>by simp at hp⟩;go_loopw [7,6] (fun i v wr=>∃(k:Nat) (st:HS) (ps:List (bJ×Value)),k<=evs.length/\i= .int .i64 (k:Int)/\Hid (jK (evs.take k) 0 HS.init= .inl st)/\Hid (lC wr (w.heap.size+1) w.heap.size v ps st)/\Hid (Below w.heap.size w wr)) (fun i _ _=>((evs.length:Int) - intOf i).toNat)
 case atStart=>exact⟨0,HS.init,[],Nat.zero_le _,rfl,ag rfl,Uq,ag ((au _ _).alloc (aB _) _)⟩
 case round=>
  obtain⟨k,st,ps,hk,rfl,HR,HH,HW⟩:=hrel;obtain⟨vo,vc,hv⟩:=aS HH.out.row;subst hv;clear Uq;have Fe:=ag (show ps.length<=1048576 from by
   have h1:=WA _ HR.out;have h2:st.aU.length=ps.length:=by rw[<-HH.out.fst,List.length_map]
   simp[HS.init] at h1;omega)
  by_cases hkl:k<evs.length
  ·obtain⟨x,hx⟩:=bE hkl;obtain⟨b,off,rfl,hb,hc⟩:=dH.at lS (Rd.below VK.out HW.out) hx;have x0:=hc 0 _ rfl;have x1:=hc 1 _ rfl;have x2:=hc 2 _ rfl;have x3:=hc 3 _ rfl;simp only[Nat.add_zero] at x0;have GX:=ag hc;clear hc;have HX:=ag hx;clear hx;go_wp2_with fail;refine(Qw HH.out.st x).mono ?_;rintro e w1 ⟨rfl,hb1⟩;have Ga:=ag (HH.out.below hb1);have HW1:=ag (HW.out.trans (hb1.mono HW.out.size));have y0:=cell_later hb1 x0;have y1:=cell_later hb1 x1;have y2:=cell_later hb1 x2;have y3:=cell_later hb1 x3;clear hb1 x0 x1 x2 x3;cases hwr:Dw st x with
   |true=>
    have HST:=ag ((DR st x k).1 hwr);go_wp2_with fail
    go_ret3
    exact ZH.no (Ut HR.out HX.out HST.out) HW1.out
   |false=>
    obtain⟨st',hst⟩:∃st',fC st x k=some st':=by
     cases hq:fC st x k with
     |none=>rw[(DR st x k).2 hq] at hwr;cases hwr
     |some q=>exact⟨q,rfl⟩
    have tF:=ag (show yV st k from by have:=yV.run _ yV.init HR.out;simpa [List.length_take,Nat.min_eq_left hk] using this);have HST:=ag hst;clear hst;go_wp2_with fail;refine(Qz Ga.out HST.out tF.out (fun j p hp=>?_) Fe.out ?_).mono ?_
    ·have h5:=VC _ HR.out;have h6:=Yh (s:=st) (j:=j) (a:=p.1) (n:=k) (by rw[<-Ga.out.fst,List.getElem?_map,hp];rfl) (by rw[List.length_take] at h5;omega);omega
    ·have:=HW1.out.size;have:=lt_of_block Ga.out.st;omega
    rintro e w2 ⟨v2,rfl,ps2,ZE,hc2,ho2⟩;have P8:=ag ZE;have HW2:=ag (bz.below HW1.out HW1.out.size hc2 (fun j hj=>by
     rcases hj with rfl|hj|⟨i,p,hp,hj⟩
     ·exact aB _
     ·have:=bO Ga.out.row hj;omega
     ·have:=bO (Ga.out.own i p hp) hj;omega))
    clear ZE hc2 ho2 y0 y1 y2 y3;go_wp2_with fail;exact⟨⟨k+1,st',ps2,by omega,by go_num,ag (Vi HR.out HX.out HST.out),P8,HW2⟩,by simp[intOf];omega⟩
  ·obtain rfl:k=evs.length:=by omega
   go_wp2_with fail
   go_ret3
   have hr:=HR.out;rw[List.take_length] at hr;refine⟨vo,vc,ps,?_,?_,⟨bY HH.out.row (by omega),fun j p hp=>bY (HH.out.own j p hp) (by omega),HH.out.ne,HH.out.lg⟩,HW.out⟩
   ·rw[HH.out.fst];unfold Yu;rw[hr]
   ·unfold Xt Gw;rw[hr];rfl
end Go.Proofs.YtopdcjimpdalpaaGreat

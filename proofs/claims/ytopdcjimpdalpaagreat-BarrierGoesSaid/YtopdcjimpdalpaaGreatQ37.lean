import Derived.Test.YtopdcjimpdalpaaGreatQ36
namespace Go.Proofs.YtopdcjimpdalpaaGreat
open Go.RowKit
set_option linter.all false
set_option maxHeartbeats 2000000
set_option maxRecDepth 100000
section
structure RX where
 th:MT
 cv:Value
 wv:Value
 ov:Value
def rE (x:RX):List Value:=
 [x.cv,.int .i64 (x.th.reg 0),.int .i64 (x.th.reg 1),.int .i64 (x.th.reg 2),.int .i64 (x.th.reg 3),.int .i64 (x.th.reg 4),.int .i64 (x.th.reg 5),.int .i64 (x.th.reg 6),.int .i64 (x.th.reg 7),
  .int .i64 x.th.at_,x.wv,x.ov,.int .u8 x.th.fin]
theorem wP:∀x,(rE x).length=13:=fun _=>rfl
theorem vY (x:RX):∀r,r<8->(rE x)[1+r]? =some (.int .i64 (x.th.reg r))
 |0,_=>rfl|1,_=>rfl|2,_=>rfl|3,_=>rfl|4,_=>rfl|5,_=>rfl|6,_=>rfl|7,_=>rfl
 |n+8,h=>absurd h (by omega)
theorem Iu (x:RX) (v:Int):∀r,r<8->rE {x with th:={x.th with reg:=upd x.th.reg r v}}=(rE x).set (1+r) (.int .i64 v)
 |0,_=>rfl|1,_=>rfl|2,_=>rfl|3,_=>rfl|4,_=>rfl|5,_=>rfl|6,_=>rfl|7,_=>rfl
 |n+8,h=>absurd h (by omega)
structure Vb (w:World) (base:Nat) (own:Nat->Nat) (i:Nat) (x:RX):Prop where
 code:fI bR w 6 x.cv x.th.code
 kX:∀g,x.th.code≠[]->x.cv.ownBlock=some g->g<base
 wait:eF w base 99 2 x.wv x.th.wait.length (x.th.wait.flatMap iI)
 Aq:∀g,x.wv.ownBlock=some g->own g=6+3*i
 out:w.ownsRow base 2 1 x.ov x.th.out.length (x.th.out.flatMap encI)
 outT:∀g,x.ov.ownBlock=some g->own g=7+3*i
structure iy (w:World) (base b:Nat) (own:Nat->Nat) (mm:MM) (xs:List RX) (mv tv ev:Value):Prop where
 blk:w.heap[b]? =some (.cells #[mv,tv,ev] 55 (0,0))
 bT:base<=b/\own b=1
 mem:w.ownsRow base 2 1 mv mm.mem.length (mm.mem.flatMap encI)
 memT:∀g,mv.ownBlock=some g->own g=2
 aM:w.ownsRow base 61 13 tv xs.length (xs.flatMap rE)
 fo:∀g,tv.ownBlock=some g->own g=3
 evs:w.ownsRow base 127 4 ev mm.evs.length (mm.evs.flatMap mF)
 jI:∀g,ev.ownBlock=some g->own g=4
 same:mm.aM=xs.map RX.th
 th:∀(i:Nat) x,xs[i]? =some x->Vb w base own i x
 fresh:∀k,w.heap.size<=k->own k=0
 low:∀k,own k≠0->base<=k
theorem Vb.keep {w w':World} {base:Nat} {own own':Nat->Nat} {i:Nat} {x:RX} (h:Vb w base own i x) (ho:∀k,k<w.heap.size->own' k=own k)
  (hk:∀g,g<base\/own g=6+3*i\/own g=7+3*i->g<w.heap.size->w'.heap[g]? =w.heap[g]?):Vb w' base own' i x:=
 ⟨h.code.yN fun g hn hg hl=>hk g (.inl (h.kX g hn hg)) hl,h.kX,h.wait.keep fun g hg hl=>hk g (.inr (.inl (h.Aq g hg))) hl,fun g hg=>by rw[ho _ (h.wait.lt hg).2];exact h.Aq g hg,
  aP h.out fun g hg hl=>hk g (.inr (.inr (h.outT g hg))) hl,fun g hg=>by rw[ho _ (cK h.out hg).2];exact h.outT g hg⟩
variable {w w':World} {base b:Nat} {own own':Nat->Nat} {mm:MM} {xs:List RX} {mv tv ev:Value}
theorem iy.lt (h:iy w base b own mm xs mv tv ev):b<w.heap.size:=lt_of_block h.blk
theorem iy.eX (h:iy w base b own mm xs mv tv ev):base<=w.heap.size:=Nat.le_trans h.bT.1 (Nat.le_of_lt h.lt)
theorem iy.zero (h:iy w base b own mm xs mv tv ev) {g:Nat} (hg:g<base):own g=0:=Classical.byContradiction fun e=>by have:=h.low g e;omega
theorem iy.keep (h:iy w base b own mm xs mv tv ev) (hs:w.heap.size<=w'.heap.size) (hk:∀g,own g≠0\/g<base->g<w.heap.size->w'.heap[g]? =w.heap[g]?):iy w' base b own mm xs mv tv ev:=
 ⟨(hk b (.inl (by rw[h.bT.2];decide)) h.lt).trans h.blk,h.bT,aP h.mem fun g hg hl=>hk g (.inl (by rw[h.memT g hg];decide)) hl,h.memT,
  aP h.aM fun g hg hl=>hk g (.inl (by rw[h.fo g hg];decide)) hl,h.fo,
  aP h.evs fun g hg hl=>hk g (.inl (by rw[h.jI g hg];decide)) hl,h.jI,h.same,
  fun i x hx=>(h.th i x hx).keep (fun _ _=>rfl) fun g hg hl=>hk g (by omega) hl,fun k hk'=>h.fresh k (by omega),h.low⟩
theorem iy.below (h:iy w base b own mm xs mv tv ev) (hb:Below w.heap.size w w'):iy w' base b own mm xs mv tv ev:=h.keep hb.size fun g _ hl=>hb.block g hl
theorem iy.drewN (h:iy w base b own mm xs mv tv ev) (n:Nat):iy (w.drewN n) base b own mm xs mv tv ev:=h.keep (aR _) fun g _ hl=>rfl
theorem iy.drew (h:iy w base b own mm xs mv tv ev):iy w.drew base b own mm xs mv tv ev:=h.keep (aR _) fun g _ hl=>rfl
theorem iy.GZ {S:Nat->Prop} (h:iy w base b own mm xs mv tv ev) (hc:bH S w w') (hs:∀k,own k≠0\/k<base->¬S k):iy w' base b own mm xs mv tv ev:=h.keep hc.size fun g hg hl=>hc.block g hl (hs g hg)
theorem iy.AU (h:iy w base b own mm xs mv tv ev) {n:Nat} {x:RX} (hx:xs[n]? =some x):mm.aM[n]? =some x.th:=by rw[h.same];simp[hx]
theorem iy.xE (h:iy w base b own mm xs mv tv ev) {n:Nat} {x:RX} (hx:xs[n]? =some x):∃tb cap,tv= .slice (some ⟨tb,0,none⟩) xs.length cap/\own tb=3:=by
 have hl:=(bE.1 hx).1;obtain⟨ao,cap,rfl⟩:=bF h.aM;obtain⟨tb,cur,rfl,_⟩:=h_ h.aM (by omega);exact⟨tb,cap,rfl,h.fo tb rfl⟩
theorem iy.cell {tb cap:Nat} (h:iy w base b own mm xs mv (.slice (some ⟨tb,0,none⟩) xs.length cap) ev) {n:Nat} {x:RX} (hx:xs[n]? =some x) (j:Nat) (u:Value) (hu:(rE x)[j]? =some u):w.cell? ⟨tb,n*13+j,none⟩=some u:=by
 obtain⟨b',off,e1,hb,hc⟩:=fI.at (enc:=rE) wP (Rd.iV h.aM) hx;simp only[bU,Addr.mk.injEq,and_true] at e1;obtain⟨rfl,rfl⟩:=e1;have:=hc j u hu
 rwa [Nat.zero_add] at this
theorem iy.free {tb cap:Nat} (h:iy w base b own mm xs mv (.slice (some ⟨tb,0,none⟩) xs.length cap) ev) (hn:0<xs.length) (o:Nat):w.frozen? ⟨tb,o,none⟩=false:=by
 obtain⟨tb',cur,e1,_,hg,_⟩:=h_ h.aM hn;simp only[bU,Addr.mk.injEq,and_true] at e1;subst e1;exact aJ hg
theorem iy.iA (h:iy w base b own mm xs mv tv ev) (j:Nat) (u:Value) (hu:(#[mv,tv,ev])[j]? =some u):w.cell? ⟨b,j,none⟩=some u:=af h.blk hu
theorem iy.WI (h:iy w base b own mm xs mv tv ev) (o:Nat):w.frozen? ⟨b,o,none⟩=false:=aJ h.blk
theorem iy.aT {tb cap:Nat} (h:iy w base b own mm xs mv (.slice (some ⟨tb,0,none⟩) xs.length cap) ev) {n:Nat} {x:RX} (hx:xs[n]? =some x) (y:RX) (j:Nat) (u:Value) (hj:j<13) (he:rE y=(rE x).set j u)
  (h1:y.cv=x.cv) (h2:y.th.code=x.th.code) (h3:y.wv=x.wv) (h4:y.th.wait=x.th.wait) (h5:y.ov=x.ov) (h6:y.th.out=x.th.out):
  iy (w.setCell ⟨tb,n*13+j,none⟩ u) base b own (mm.put n y.th) (xs.set n y) mv (.slice (some ⟨tb,0,none⟩) (xs.set n y).length cap) ev:=by
 have hk:∀g,own g≠3->(w.setCell ⟨tb,n*13+j,none⟩ u).heap[g]? =w.heap[g]?:=fun g hg=>dO _ _ _ _ fun e=>hg (by rw[e];exact h.fo tb rfl)
 have hk':∀i g,g<base\/own g=6+3*i\/own g=7+3*i->(w.setCell ⟨tb,n*13+j,none⟩ u).heap[g]? =w.heap[g]?:=fun i g hg=>hk g (by
  rcases hg with e|e|e
  ·rw[h.zero e];decide
  ·omega
  ·omega)
 have hr:=(xM wP h.aM hx he hj).2;refine⟨by rw[List.length_set];exact(hk b (by rw[h.bT.2];decide)).trans h.blk,h.bT,aP h.mem fun g hg _=>hk g (by rw[h.memT g hg];decide),h.memT,by rw[List.length_set];exact hr,h.fo,aP h.evs fun g hg _=>hk g (by rw[h.jI g hg];decide),h.jI,
  by rw[MM.put,List.map_set,h.same],fun i z hz=>?_,fun k hk'=>h.fresh k (by rw[bG] at hk';exact hk'),h.low⟩
 rw[List.getElem?_set] at hz;split at hz
 ·rename_i e;subst e;split at hz
  ·cases hz;have ht:=(h.th n x hx).keep (w':=w.setCell ⟨tb,n*13+j,none⟩ u) (own':=own) (fun _ _=>rfl) fun g hg _=>hk' n g hg
   exact⟨by rw[h1,h2];exact ht.code,by rw[h1,h2];exact ht.kX,by rw[h3,h4];exact ht.wait,by rw[h3];exact ht.Aq,by rw[h5,h6];exact ht.out,by rw[h5];exact ht.outT⟩
  ·cases hz
 ·exact(h.th i z hz).keep (fun _ _=>rfl) fun g hg _=>hk' i g hg
theorem iy.word {mb mc:Nat} (h:iy w base b own mm xs (.slice (some ⟨mb,0,none⟩) mm.mem.length mc) tv ev) {a:Nat} (ha:a<mm.mem.length) (v:Int):
  iy (w.setCell ⟨mb,a,none⟩ (.int .i64 v)) base b own {mm with mem:=mm.mem.set a v} xs (.slice (some ⟨mb,0,none⟩) mm.mem.length mc) tv ev:=by
 have hk:∀g,own g≠2->(w.setCell ⟨mb,a,none⟩ (.int .i64 v)).heap[g]? =w.heap[g]?:=fun g hg=>dO _ _ _ _ fun e=>hg (by rw[e];exact h.memT mb rfl)
 have hr:=(xM (j:=0) (y:=v) (u:=.int .i64 v) jL h.mem (dZ ha) rfl (by decide)).2;rw[Nat.mul_one,Nat.add_zero] at hr;exact⟨(hk b (by rw[h.bT.2];decide)).trans h.blk,h.bT,by rw[List.length_set];exact hr,h.memT,aP h.aM fun g hg _=>hk g (by rw[h.fo g hg];decide),h.fo,aP h.evs fun g hg _=>hk g (by rw[h.jI g hg];decide),h.jI,h.same,
  fun i z hz=>(h.th i z hz).keep (fun _ _=>rfl) fun g hg _=>hk g (by
   rcases hg with e|e|e
   ·rw[h.zero e];decide
   ·omega
   ·omega),fun k hk'=>h.fresh k (by rw[bG] at hk';exact hk'),h.low⟩
theorem iy.nZ (h:iy w base b own mm xs mv tv ev) (hm:0<mm.mem.length):∃mb cap,mv= .slice (some ⟨mb,0,none⟩) mm.mem.length cap/\own mb=2:=by
 obtain⟨ao,cap,rfl⟩:=bF h.mem;obtain⟨mb,cur,rfl,_⟩:=h_ h.mem hm;exact⟨mb,cap,rfl,h.memT mb rfl⟩
theorem iy.yZ {mb mc:Nat} (h:iy w base b own mm xs (.slice (some ⟨mb,0,none⟩) mm.mem.length mc) tv ev) {a:Nat} (ha:a<mm.mem.length):w.cell? ⟨mb,a,none⟩=some (.int .i64 (mm.mem.getD a 0)):=by
 obtain⟨b',off,e1,hb,hc⟩:=fI.at (enc:=encI) jL (Rd.iV h.mem) (dZ ha);simp only[bU,Addr.mk.injEq,and_true] at e1;obtain⟨rfl,rfl⟩:=e1;have:=hc 0 _ rfl;rw[Nat.zero_add,Nat.mul_one,Nat.add_zero] at this;rw[this];simp[List.getD,ha]
theorem iy.Cv {mb mc:Nat} (h:iy w base b own mm xs (.slice (some ⟨mb,0,none⟩) mm.mem.length mc) tv ev) (hn:0<mm.mem.length) (o:Nat):w.frozen? ⟨mb,o,none⟩=false:=by
 obtain⟨tb',cur,e1,_,hg,_⟩:=h_ h.mem hn;simp only[bU,Addr.mk.injEq,and_true] at e1;subst e1;exact aJ hg
theorem wF {own:Nat->Nat} {v:Value} {p n base k:Nat} (hb:base<=n) (hl:∀k,own k≠0->base<=k) (h:retag own v p n k≠0):base<=k:=by
 unfold retag at h;split at h
 ·rename_i e;omega
 ·exact hl k h
theorem iy.event (h:iy w base b own mm xs mv tv ev) (es:List Ev) (ev':Value) (hc:bH (fun k=>k=b\/ev.ownBlock=some k) w w') (hb:w'.heap[b]? =some (.cells #[mv,tv,ev'] 55 (0,0)))
  (he:w'.ownsRow base 127 4 ev' es.length (es.flatMap mF)) (hf:∀g,ev'.ownBlock=some g->ev.ownBlock=some g\/w.heap.size<=g):
  iy w' base b (retag own ev' 4 w.heap.size) {mm with evs:=es} xs mv tv ev':=by
 have ho:∀k,k<w.heap.size->retag own ev' 4 w.heap.size k=own k:=fun k hk=>iT hk
 have hk:∀g,own g≠1->own g≠4->g<w.heap.size->w'.heap[g]? =w.heap[g]?:=fun g h1 h4 hl=>hc.block g hl fun e=>by
  rcases e with e|e
  ·exact h1 (by rw[e];exact h.bT.2)
  ·exact h4 (h.jI g e)
 exact⟨hb,⟨h.bT.1,by rw[ho _ h.lt];exact h.bT.2⟩,aP h.mem fun g hg hl=>hk g (by rw[h.memT g hg];decide) (by rw[h.memT g hg];decide) hl,fun g hg=>by rw[ho _ (cK h.mem hg).2];exact h.memT g hg,
  aP h.aM fun g hg hl=>hk g (by rw[h.fo g hg];decide) (by rw[h.fo g hg];decide) hl,fun g hg=>by rw[ho _ (cK h.aM hg).2];exact h.fo g hg,he,fun g hg=>qd hf h.jI hg,h.same,
  fun i z hz=>(h.th i z hz).keep ho fun g hg hl=>by
   rcases hg with e|e|e
   ·exact hk g (by rw[h.zero e];decide) (by rw[h.zero e];decide) hl
   ·exact hk g (by omega) (by omega) hl
   ·exact hk g (by omega) (by omega) hl,fun k hk'=>m_ (fun g hg=>(cK he hg).2) (h.fresh k (by have:=hc.size;omega)) hk',fun k=>wF h.eX h.low⟩
theorem iy.told {tb cap:Nat} (h:iy w base b own mm xs mv (.slice (some ⟨tb,0,none⟩) xs.length cap) ev) {n:Nat} {x:RX} (hx:xs[n]? =some x) (os:List Int) (nv:Value) (hc:bH (fun k=>x.ov.ownBlock=some k) w w')
  (he:w'.ownsRow base 2 1 nv os.length (os.flatMap encI)) (hf:∀g,nv.ownBlock=some g->x.ov.ownBlock=some g\/w.heap.size<=g):
  iy (w'.setCell ⟨tb,n*13+11,none⟩ nv) base b (retag own nv (7+3*n) w.heap.size) (mm.put n {x.th with out:=os}) (xs.set n {x with th:={x.th with out:=os},ov:=nv}) mv (.slice (some ⟨tb,0,none⟩) (xs.set n {x with th:={x.th with out:=os},ov:=nv}).length cap) ev:=by
 have ho:∀k,k<w.heap.size->retag own nv (7+3*n) w.heap.size k=own k:=fun k hk=>iT hk
 have hx7:=(h.th n x hx).outT;have hk0:∀g,own g≠7+3*n->g<w.heap.size->w'.heap[g]? =w.heap[g]?:=fun g h1 hl=>hc.block g hl fun e=>h1 (hx7 g e)
 have hk:∀g,own g≠3->own g≠7+3*n->g<w.heap.size->(w'.setCell ⟨tb,n*13+11,none⟩ nv).heap[g]? =w.heap[g]?:=fun g h3 h7 hl=>by
  rw[dO _ _ _ _ fun e=>h3 (by rw[e];exact h.fo tb rfl)];exact hk0 g h7 hl
 have htb:tb<w.heap.size:=(cK h.aM rfl).2;have hr:=(xM (j:=11) (y:={x with th:={x.th with out:=os},ov:=nv}) (u:=nv) wP (aP h.aM fun g hg hl=>hk0 g (by rw[h.fo g hg];omega) hl) hx rfl (by decide)).2;have R9:∀g,nv.ownBlock=some g->g≠tb:=fun g hg e=>by
  rcases hf g hg with e'|e'
  ·have:=hx7 g e';rw[e,h.fo tb rfl] at this;omega
  ·omega
 refine⟨by rw[List.length_set];exact(hk b (by rw[h.bT.2];decide) (by rw[h.bT.2];omega) h.lt).trans h.blk,⟨h.bT.1,by rw[ho _ h.lt];exact h.bT.2⟩,aP h.mem fun g hg hl=>hk g (by rw[h.memT g hg];decide) (by rw[h.memT g hg];omega) hl,fun g hg=>by rw[ho _ (cK h.mem hg).2];exact h.memT g hg,
  by rw[List.length_set];exact hr,fun g hg=>by rw[ho _ (cK h.aM hg).2];exact h.fo g hg,aP h.evs fun g hg hl=>hk g (by rw[h.jI g hg];decide) (by rw[h.jI g hg];omega) hl,fun g hg=>by rw[ho _ (cK h.evs hg).2];exact h.jI g hg,
  by rw[MM.put,List.map_set,h.same],fun i z hz=>?_,fun k hk'=>by rw[bG] at hk';exact m_ (fun g hg=>(cK he hg).2) (h.fresh k (by have:=hc.size;omega)) hk',fun k=>wF h.eX h.low⟩
 have hkl:∀g,g<base->g<w.heap.size->(w'.setCell ⟨tb,n*13+11,none⟩ nv).heap[g]? =w.heap[g]?:=fun g e hl=>hk g (by rw[h.zero e];decide) (by rw[h.zero e];omega) hl
 rw[List.getElem?_set] at hz;split at hz
 ·rename_i e;subst e;split at hz
  ·cases hz;have ht:=h.th n x hx;exact⟨ht.code.yN fun g hn hg hl=>hkl g (ht.kX g hn hg) hl,ht.kX,ht.wait.keep fun g hg hl=>hk g (by rw[ht.Aq g hg];omega) (by rw[ht.Aq g hg];omega) hl,fun g hg=>by rw[ho _ (ht.wait.lt hg).2];exact ht.Aq g hg,
    aP he fun g hg _=>dO _ _ _ _ (R9 g hg),fun g hg=>qd hf hx7 hg⟩
  ·cases hz
 ·rename_i hne;exact(h.th i z hz).keep ho fun g hg hl=>by
   rcases hg with e|e|e
   ·exact hkl g e hl
   ·exact hk g (by omega) (by omega) hl
   ·exact hk g (by omega) (by omega) hl
theorem iy.waited {tb cap:Nat} (h:iy w base b own mm xs mv (.slice (some ⟨tb,0,none⟩) xs.length cap) ev) {n:Nat} {x:RX} (hx:xs[n]? =some x) (q:List (Int×Int)) (nv:Value) (hc:bH (fun k=>x.wv.ownBlock=some k) w w')
  (he:eF w' base 99 2 nv q.length (q.flatMap iI)) (hf:∀g,nv.ownBlock=some g->x.wv.ownBlock=some g\/w.heap.size<=g):
  iy (w'.setCell ⟨tb,n*13+10,none⟩ nv) base b (retag own nv (6+3*n) w.heap.size) (mm.put n {x.th with wait:=q}) (xs.set n {x with th:={x.th with wait:=q},wv:=nv}) mv (.slice (some ⟨tb,0,none⟩) (xs.set n {x with th:={x.th with wait:=q},wv:=nv}).length cap) ev:=by
 have ho:∀k,k<w.heap.size->retag own nv (6+3*n) w.heap.size k=own k:=fun k hk=>iT hk
 have hx7:=(h.th n x hx).Aq;have hk0:∀g,own g≠6+3*n->g<w.heap.size->w'.heap[g]? =w.heap[g]?:=fun g h1 hl=>hc.block g hl fun e=>h1 (hx7 g e)
 have hk:∀g,own g≠3->own g≠6+3*n->g<w.heap.size->(w'.setCell ⟨tb,n*13+10,none⟩ nv).heap[g]? =w.heap[g]?:=fun g h3 h7 hl=>by
  rw[dO _ _ _ _ fun e=>h3 (by rw[e];exact h.fo tb rfl)];exact hk0 g h7 hl
 have htb:tb<w.heap.size:=(cK h.aM rfl).2;have hr:=(xM (j:=10) (y:={x with th:={x.th with wait:=q},wv:=nv}) (u:=nv) wP (aP h.aM fun g hg hl=>hk0 g (by rw[h.fo g hg];omega) hl) hx rfl (by decide)).2;have R9:∀g,nv.ownBlock=some g->g≠tb:=fun g hg e=>by
  rcases hf g hg with e'|e'
  ·have:=hx7 g e';rw[e,h.fo tb rfl] at this;omega
  ·omega
 refine⟨by rw[List.length_set];exact(hk b (by rw[h.bT.2];decide) (by rw[h.bT.2];omega) h.lt).trans h.blk,⟨h.bT.1,by rw[ho _ h.lt];exact h.bT.2⟩,aP h.mem fun g hg hl=>hk g (by rw[h.memT g hg];decide) (by rw[h.memT g hg];omega) hl,fun g hg=>by rw[ho _ (cK h.mem hg).2];exact h.memT g hg,
  by rw[List.length_set];exact hr,fun g hg=>by rw[ho _ (cK h.aM hg).2];exact h.fo g hg,aP h.evs fun g hg hl=>hk g (by rw[h.jI g hg];decide) (by rw[h.jI g hg];omega) hl,fun g hg=>by rw[ho _ (cK h.evs hg).2];exact h.jI g hg,
  by rw[MM.put,List.map_set,h.same],fun i z hz=>?_,fun k hk'=>by rw[bG] at hk';exact m_ (fun g hg=>(he.lt hg).2) (h.fresh k (by have:=hc.size;omega)) hk',fun k=>wF h.eX h.low⟩
 have hkl:∀g,g<base->g<w.heap.size->(w'.setCell ⟨tb,n*13+10,none⟩ nv).heap[g]? =w.heap[g]?:=fun g e hl=>hk g (by rw[h.zero e];decide) (by rw[h.zero e];omega) hl
 rw[List.getElem?_set] at hz;split at hz
 ·rename_i e;subst e;split at hz
  ·cases hz;have ht:=h.th n x hx;exact⟨ht.code.yN fun g hn hg hl=>hkl g (ht.kX g hn hg) hl,ht.kX,he.keep fun g hg _=>dO _ _ _ _ (R9 g hg),fun g hg=>qd hf hx7 hg,
    aP ht.out fun g hg hl=>hk g (by rw[ht.outT g hg];omega) (by rw[ht.outT g hg];omega) hl,fun g hg=>by rw[ho _ (cK ht.out hg).2];exact ht.outT g hg⟩
  ·cases hz
 ·rename_i hne;exact(h.th i z hz).keep ho fun g hg hl=>by
   rcases hg with e|e|e
   ·exact hkl g e hl
   ·exact hk g (by omega) (by omega) hl
   ·exact hk g (by omega) (by omega) hl
def dF (w:World) (base b:Nat) (own:Nat->Nat) (iZ:MM) (w':World):Prop:=
 (∃own' xs mv tv ev,iy w' base b own' iZ xs mv tv ev/\∀k,k<w.heap.size->own' k=own k)/\bH (fun k=>own k≠0) w w'
end
section
variable {w w':World} {base b:Nat} {own own':Nat->Nat} {mm:MM} {xs:List RX} {mv tv ev:Value}
def MP (base b:Nat) (own:Nat->Nat) (mm:MM) (xs:List RX) (mv tv:Value) (w w':World):Prop:=
 (∃own' ev',iy w' base b own' mm xs mv tv ev'/\∀k,k<w.heap.size->own' k=own k)/\bH (fun k=>own k=1\/own k=4) w w'
theorem r_ (h:iy w base b own mm xs mv tv ev) (hlen:mm.evs.length<2000000000) (n:Nat) (k a c:Int):
  Calls Tryz.prog 71 #[.pointer (some ⟨b,0,none⟩),.int .i64 (n:Int),.int .u8 k,.int .i64 a,.int .i64 c] w fun r w'=>r= .returned (.tuple #[])/\MP base b own (mm.tell n k a c) xs mv tv w w':=by
 have c2:=h.iA 2 _ rfl;obtain⟨i0,hi,hz0,hz1,hz2⟩:=info_parts Tq;have H:=ag h;have HL:=ag hlen;clear h hlen;go_in;go_wp2_with (at_builtin;refine fe _ rfl _ _ 53 rfl base 127 i0 _ 4 32 Tryz.underlying53 hi hz0 hz1 hz2 rfl (by decide) _ _ _ rfl (bD H.out.evs ((bH.refl (fun _=>False) w).alloc _) (fun _ _=>id)) ⟨w.heap.size,0,none⟩ 1 1 (mF ⟨n,k,a,c⟩) rfl rfl ?c1 ?c2 ?c3 ?c4 ?c5 ?_)
 case c1=>first|exact kK (aX _ _)|exact fun j u h=>h
 case c2=>exact TP _
 case c3=>have:=HL.out;unfold maxLen;omega
 case c4=>have:=HL.out;omega
 case c5=>have:=H.out.eX;simp;omega
 intro ao cp w1 hown mI iW;have hc:=bH.grown (S:=fun k=>ev.ownBlock=some k) ((bH.refl _ w).alloc (.cells (mF ⟨n,k,a,c⟩).toArray 127)) iW (fun k hk=>.inl hk);have hb1:=gV hc H.out.blk (fun hk=>by have h1:=H.out.jI _ hk;rw[H.out.bT.2] at h1;exact absurd h1 (by decide));have f1:=aJ (o:=2) hb1;have f2:w1.cell? ⟨b,2,none⟩=some ev:=af hb1 rfl;have HB:=ag hb1;have HC:=ag hc;have HO:=ag hown;have HF:=ag mI;clear hb1 hc hown mI iW hi hz0 hz1 hz2;go_wp2_with fail;have hset:=aK (o:=2) (.slice ao (mm.evs.length+1) cp) HB.out;have hne:∀g,(Value.slice ao (mm.evs.length+1) cp).ownBlock=some g->ev.ownBlock=some g\/w.heap.size<=g:=fun g hg=>by
  rcases HF.out g hg with e|e
  ·exact .inl e
  ·exact .inr (by omega)
 have Ur:bH (fun k=>k=b\/ev.ownBlock=some k) w (w1.setCell ⟨b,2,none⟩ (.slice ao (mm.evs.length+1) cp)):=
  (bH.gY (S:=fun k=>k=b\/ev.ownBlock=some k) (bH.refl _ w) HC.out (fun k _ hk=>.inr hk)).setCell (p:=⟨b,2,none⟩) (.inl (.inl rfl)) _
 have hm:=H.out.event (mm.evs++[⟨n,k,a,c⟩]) (.slice ao (mm.evs.length+1) cp) Ur hset (by
  rw[List.length_append,mU];exact aP HO.out fun g hg hlt=>dO _ _ _ _ (fun e=>by
   rcases hne g hg with h1|h1
   ·have h2:=H.out.jI _ h1;rw[e,H.out.bT.2] at h2;exact absurd h2 (by decide)
   ·have:=H.out.lt;simp only at e;omega)) hne
 go_end0;exact⟨rfl,⟨_,_,hm,fun k hk=>iT hk⟩,Ur.imp fun k _ hk=>by
  rcases hk with rfl|hk
  ·exact .inl H.out.bT.2
  ·exact .inr (H.out.jI k hk)⟩
theorem dF.WU {w1:World} {iZ:MM} (hc:bH (fun k=>own k≠0) w w1) (hp:MP base b own iZ xs mv tv w1 w'):dF w base b own iZ w':=by
 obtain⟨⟨own',ev',hm,ho⟩,hc2⟩:=hp;exact⟨⟨own',xs,mv,tv,ev',hm,fun k hk=>ho k (Nat.lt_of_lt_of_le hk hc.size)⟩,bH.gY hc hc2 (fun k _ hk=>by omega)⟩
theorem iy.acv {tb cap:Nat} (h:iy w base b own mm xs mv (.slice (some ⟨tb,0,none⟩) xs.length cap) ev) (o:Nat) (u:Value):bH (fun k=>own k≠0) w (w.setCell ⟨tb,o,none⟩ u):=
 (bH.refl _ w).setCell (p:=⟨tb,o,none⟩) (.inl (by rw[h.fo tb rfl];decide)) u
theorem iy.goes (h:iy w' base b own mm xs mv tv ev) (hc:bH (fun k=>own k≠0) w w'):dF w base b own mm w':=⟨⟨own,xs,mv,tv,ev,h,fun _ _=>rfl⟩,hc⟩
theorem vR {tb cap n:Nat} {x:RX} (h:iy w base b own mm xs mv (.slice (some ⟨tb,0,none⟩) xs.length cap) ev) (hx:xs[n]? =some x) (hlen:mm.evs.length<2000000000) (h4:xs.length<=4) (k:Int) (hk:0<=k/\k<256):
  Calls Tryz.prog 35 #[.pointer (some ⟨b,0,none⟩),.int .i64 (n:Int),.int .u8 k] w fun r w'=>r= .returned (.tuple #[])/\dF w base b own (mm.stop n x.th k) w':=by
 have hn:n<xs.length:=(bE.1 hx).1;have c1:=h.iA 1 _ rfl;have e12:=h.cell hx 12 _ rfl;have f12:=h.free (by omega) (n*13+12);have hp:=h.aT hx {x with th:={x.th with fin:=k}} 12 (.int .u8 k) (by decide) rfl rfl rfl rfl rfl rfl rfl;have hc:=h.acv (n*13+12) (.int .u8 k);have HP:=ag hp;have HC:=ag hc;have HL:Hid ((mm.put n {x.th with fin:=k}).evs.length<2000000000):=ag hlen;clear h hx hp hc hlen;by_cases h1:k=1
 ·subst h1;go_in;go_wp2_with fail;refine(r_ HP.out HL.out n 10 0 0).mono ?_;rintro r w1 ⟨rfl,hp⟩;have HQ:=ag hp;clear hp;go_wp2_with fail;go_end0;exact⟨rfl,dF.WU HC.out HQ.out⟩
 ·have h1':(k==1)=false:=by rw[bY];exact h1
  have e1:IntKind.i64.wrap k=k:=IntWalk.i64_in _ (by omega);go_in;go_wp2_with fail;refine(r_ HP.out HL.out n 11 k 0).mono ?_;rintro r w1 ⟨rfl,hp⟩;have HQ:=ag hp;clear hp;go_wp2_with fail;go_end0;refine⟨rfl,?_⟩;unfold MM.stop;rw[if_neg h1,if_neg h1];exact dF.WU HC.out HQ.out
theorem Ki (h:iy w base b own mm xs mv tv ev) (a:Int) (hl:mm.mem.length<=262144):
  Calls Tryz.prog 37 #[.pointer (some ⟨b,0,none⟩),.int .i64 a] w fun r w'=>r= .returned (.bool (mm.has a))/\w'=w:=by
 obtain⟨ao,cp,rfl⟩:=bF h.mem;have c0:=h.iA 0 _ rfl;have e1:IntKind.i64.wrap (mm.mem.length:Int)=mm.mem.length:=IntWalk.i64_in _ (by omega);clear h;unfold MM.has;by_cases h0:a<0
 ·have hv:decide (0<=a/\a<(mm.mem.length:Int))=false:=by simp;omega
  rw[hv];have h0':¬a>=0:=by omega
  clear hv;go_in;go_wp2_with fail;go_ret;exact⟨rfl,rfl⟩
 ·have h0':a>=0:=by omega
  by_cases h1:a<(mm.mem.length:Int)
  ·have hv:decide (0<=a/\a<(mm.mem.length:Int))=true:=by simp;omega
   rw[hv];clear hv;go_in;go_wp2_with fail;go_ret;exact⟨rfl,rfl⟩
  ·have hv:decide (0<=a/\a<(mm.mem.length:Int))=false:=by simp;omega
   rw[hv];clear hv;go_in;go_wp2_with fail;go_ret;exact⟨rfl,rfl⟩
end
section
variable {w w':World} {base b:Nat} {own own':Nat->Nat} {mm:MM} {xs:List RX} {mv tv ev:Value} {tb cap n:Nat} {x:RX}
theorem dF.at_ {w1:World} {dG:Nat->Nat} {EW:MM} {Y5:List RX} {mv1 ev1:Value} {y:RX} {nx:Int} (h:iy w1 base b dG EW Y5 mv1 (.slice (some ⟨tb,0,none⟩) Y5.length cap) ev1) (hy:Y5[n]? =some y)
  (ho:∀k,k<w.heap.size->dG k=own k) (hc:bH (fun k=>own k≠0) w w1):dF w base b own (EW.put n {y.th with at_:=nx}) (w1.setCell ⟨tb,n*13+9,none⟩ (.int .i64 nx)):=by
 have hp:=h.aT hy {y with th:={y.th with at_:=nx}} 9 (.int .i64 nx) (by decide) rfl rfl rfl rfl rfl rfl rfl;refine⟨⟨dG,_,_,_,_,hp,ho⟩,hc.setCell (p:=⟨tb,n*13+9,none⟩) ?_ _⟩;have h3:=h.fo tb rfl;by_cases hl:tb<w.heap.size
 ·exact .inl (by show own tb≠0;rw[<-ho tb hl,h3];decide)
 ·exact .inr (Nat.le_of_not_lt hl)
theorem Eu (h:iy w base b own mm xs mv (.slice (some ⟨tb,0,none⟩) xs.length cap) ev) (hx:xs[n]? =some x) (hw:x.th.wait.length<=64) {a:Nat} (ha:a<mm.mem.length) (hok:∀c∈x.th.wait,0<=c.1/\c.1<262144):
  Calls Tryz.prog 73 #[.pointer (some ⟨b,0,none⟩),.pointer (some ⟨tb,n*13,none⟩),.int .i64 (a:Int)] w fun r w'=>r= .returned (.int .i64 (mm.found x.th a))/\∃d,w'=w.drewN d:=by
 have hn:n<xs.length:=(bE.1 hx).1;obtain⟨mb,mc,rfl,hmb⟩:=h.nZ (by omega);have c0:=h.iA 0 _ rfl;obtain⟨M0,hM0⟩:∃M0,mm.mem.getD a 0=M0:=⟨_,rfl⟩;have cM:w.cell? ⟨mb,a,none⟩=some (.int .i64 M0):=by rw[<-hM0];exact h.yZ ha
 have c10:=h.cell hx 10 _ rfl;have hcut:=(h.th n x hx).wait;obtain⟨wo,wc,hwv⟩:=hcut.shape;rw[hwv] at c10 hcut;have HC:=ag hcut.rd;have HW:=ag hw;have zC:=ag hok;have HM:=ag (show mm.at (a:Int)=M0 from hM0);clear h hx hok hcut hwv hM0;go_in;go_wp2_with fail;go_loopw [7] (fun i wr=>∃k:Nat,k<=x.th.wait.length/\i= .int .i64 ((k:Int) - 1)/\(∃d,wr=w.drewN d)/\∀j y,k<=j->x.th.wait[j]? =some y->y.1≠(a:Int)) (fun i _=>(intOf i+1).toNat)
 case atStart=>exact⟨x.th.wait.length,aR _,rfl,⟨0,rfl⟩,fun j y hj hy=>by have:=(bE.1 hy).1;omega⟩
 case round=>
  obtain⟨k,hk,rfl,⟨d,rfl⟩,hall⟩:=hrel;have HA:=ag hall;clear hall;by_cases h0:k=0
  ·subst h0;go_wp2_with fail;go_ret;refine⟨?_,d,rfl⟩;unfold MM.found;rw[Da (fun i x hx=>HA.out i x (by omega) hx),HM.out];rfl
  ·obtain⟨m,rfl⟩:∃m,k=m+1:=⟨k - 1,by omega⟩;obtain⟨y,hy⟩:=bW (l:=x.th.wait) (k:=m) (by omega);obtain⟨b1,o1,rfl,hs1,hc1⟩:=fI.at oD HC.out hy;have x0:=hc1 0 _ rfl;have x1:=hc1 1 _ rfl;simp only[Nat.add_zero] at x0;have HX:=ag hy;have hb:=zC.out y (bA hy);have e0:IntKind.i64.wrap y.1=y.1:=IntWalk.i64_in _ (by omega);have e1:(((m+1:Nat):Int) - 1)=m:=by omega
   have agH:m<64:=by omega
   rw[e1];clear hy hc1 hs1 e1 h0 hb;by_cases ha:y.1=(a:Int)
   ·have ta:((y.1:Int)==(a:Int))=true:=by rw[ha];simp
    go_wp2_with fail;go_ret;refine⟨?_,d,rfl⟩;unfold MM.found;rw[C8 HX.out ha (fun i y hi hy=>HA.out i y (by omega) hy)];rfl
   ·have ta:((y.1:Int)==(a:Int))=false:=by rw[bY];exact ha
    go_wp2_with fail;refine⟨⟨m,by omega,rfl,⟨d,rfl⟩,fun j z hj hz=>?_⟩,by simp[intOf]⟩;rcases Nat.lt_or_ge m j with h|h
    ·exact HA.out j z h hz
    ·obtain rfl:j=m:=by omega
     have:=HX.out;rw[hz] at this;simp only[bU] at this;subst this;exact ha
theorem PW (h:iy w base b own mm xs mv (.slice (some ⟨tb,0,none⟩) xs.length cap) ev) (hx:xs[n]? =some x) (o:bM) (ho:wZ o):
  Calls Tryz.prog 36 #[.pointer (some ⟨tb,n*13,none⟩),.agg (bR o).toArray] w fun r w'=>r= .returned (.tuple #[.int .i64 ((x.th.word o).getD 0),.bool (x.th.word o).isSome])/\Below w.heap.size w w':=by
 obtain⟨kind,bn,ra,rb,rc,num⟩:=o;obtain⟨Dv,rfl⟩:∃q:Nat,rb=q:=⟨rb.toNat,by have:=ho.rb;simp only at this;omega⟩;obtain⟨C_,rfl⟩:∃q:Nat,ra=q:=⟨ra.toNat,by have:=ho.ra;simp only at this;omega⟩;have hB8:Dv<8:=by have:=ho.rb;simp only at this;omega
 have hA8:C_<8:=by have:=ho.ra;simp only at this;omega
 have yj:(Dv:Int)<8:=by omega
 have yl:(C_:Int)<8:=by omega
 obtain⟨w0,hw0⟩:∃w0,w0=w.alloc (.cells #[.int .u8 kind,.int .u8 bn,.int .u8 (C_:Int),.int .u8 (Dv:Int),.int .u8 rc,.int .i64 num] 107):=⟨_,rfl⟩;have hb0:Below w.heap.size w w0:=by rw[hw0];exact(aQ _ _).alloc (aR _) _
 have h0:=h.below hb0;have rA:w0.cell? ⟨tb,n*13+1+C_,none⟩=some (.int .i64 (x.th.reg C_)):=by rw[Nat.add_assoc];exact h0.cell hx _ _ (vY x C_ hA8)
 have rB:w0.cell? ⟨tb,n*13+1+Dv,none⟩=some (.int .i64 (x.th.reg Dv)):=by rw[Nat.add_assoc];exact h0.cell hx _ _ (vY x Dv hB8)
 have gy:=aX w (.cells #[.int .u8 kind,.int .u8 bn,.int .u8 (C_:Int),.int .u8 (Dv:Int),.int .u8 rc,.int .i64 num] 107);rw[<-hw0] at gy;have d0:w0.cell? ⟨w.heap.size,0,none⟩=some (.int .u8 kind):=af gy rfl;have d2:w0.cell? ⟨w.heap.size,2,none⟩=some (.int .u8 (C_:Int)):=af gy rfl;have d3:w0.cell? ⟨w.heap.size,3,none⟩=some (.int .u8 (Dv:Int)):=af gy rfl;have d5:w0.cell? ⟨w.heap.size,5,none⟩=some (.int .i64 num):=af gy rfl;have HB:=ag hb0;have hkind:=ho.kind;simp only at hkind;clear h h0 hx ho gy hb0;unfold bR;by_cases hk:kind=4\/kind=15
 ·have hw:x.th.word ⟨kind,bn,C_,Dv,rc,num⟩=some (fq (x.th.reg Dv+num)):=by unfold MT.word;rw[if_pos hk];rfl
  rw[hw];clear hw hkind;rcases hk with rfl|rfl;all_goals (
   go_in;go_wp2_with fail;simp only[<-hw0];clear hw0;try go_quiet (fail)
   go_wp2_with fail
   go_ret2
   refine⟨?_,(by first|exact HB.out|exact below_drewN HB.out _|exact HB.out.drew)⟩;first|rfl|simp[fq])
 ·by_cases hk2:kind=5\/kind=8\/kind=9
  ·have hw:x.th.word ⟨kind,bn,C_,Dv,rc,num⟩=some (fq (x.th.reg C_+num)):=by unfold MT.word;rw[if_neg hk,if_pos hk2];rfl
   rw[hw];clear hw hkind hk;rcases hk2 with rfl|rfl|rfl;all_goals (
    go_in;go_wp2_with fail;simp only[<-hw0];clear hw0;try go_quiet (fail)
    go_wp2_with fail
    go_ret2
    refine⟨?_,(by first|exact HB.out|exact below_drewN HB.out _|exact HB.out.drew)⟩;first|rfl|simp[fq])
  ·have hw:x.th.word ⟨kind,bn,C_,Dv,rc,num⟩=none:=by unfold MT.word;rw[if_neg hk,if_neg hk2]
   rw[hw];have k4:(kind==4)=false:=by rw[bY];omega
   have k15:(kind==15)=false:=by rw[bY];omega
   have k5:(kind==5)=false:=by rw[bY];omega
   have k8:(kind==8)=false:=by rw[bY];omega
   have k9:(kind==9)=false:=by rw[bY];omega
   clear hw hk hk2 hkind;go_in;go_wp2_with fail;simp only[<-hw0];clear hw0;go_wp2_with fail
   go_ret2
   exact⟨rfl,HB.out⟩
end
section
variable {w w':World} {base b:Nat} {own own':Nat->Nat} {mm:MM} {xs:List RX} {mv tv ev:Value} {tb cap n N:Nat} {x:RX}
theorem dF.same (h:iy w base b own mm xs mv tv ev) (hb:Below w.heap.size w w'):dF w base b own mm w':=⟨⟨own,xs,mv,tv,ev,h.below hb,fun _ _=>rfl⟩,bH.of_below hb⟩
theorem vJ (h:iy w base b own mm xs mv tv ev):mm.aM.length=xs.length:=by rw[h.same];simp
theorem E9 (h:iy w base b own mm xs mv tv ev) {z:Int} (hz:z<0\/(xs.length:Int)<=z):mm.xq z=none:=by
 unfold MM.xq;split
 ·rfl
 ·rw[List.getElem?_eq_none_iff,vJ h];omega
theorem wU (h:iy w base b own mm xs mv tv ev) (hx:xs[n]? =some x):mm.xq (n:Int)=some x.th:=by
 unfold MM.xq;rw[if_neg (by omega),Int.toNat_natCast];exact h.AU hx
theorem II (h:iy w base b own mm xs mv tv ev) {z:Int} (hz:z<0\/(xs.length:Int)<=z):
  Calls Tryz.prog 17 #[.pointer (some ⟨b,0,none⟩),.int .i64 z] w fun r w'=>r= .returned (.bool false)/\w'=w:=by
 obtain⟨ao,cp,rfl⟩:=bF h.aM;have c1:=h.iA 1 _ rfl;clear h;by_cases h0:z<0
 ·clear hz;go_in;go_wp2_with fail;go_ret;exact⟨rfl,rfl⟩
 ·have h1:z>=(xs.length:Int):=by omega
  clear hz;go_in;go_wp2_with fail;go_ret;exact⟨rfl,rfl⟩
theorem F_ (h:iy w base b own mm xs mv (.slice (some ⟨tb,0,none⟩) xs.length cap) ev) (hx:xs[n]? =some x) (h4:xs.length<=4) (hw:x.th.wait=[]):
  Calls Tryz.prog 17 #[.pointer (some ⟨b,0,none⟩),.int .i64 (n:Int)] w fun r w'=>r= .returned (.bool false)/\w'=w:=by
 have hn:n<xs.length:=(bE.1 hx).1;have c1:=h.iA 1 _ rfl;have c10:=h.cell hx 10 _ rfl;obtain⟨wo,wc,hwv⟩:=(h.th n x hx).wait.shape;rw[hwv,hw] at c10;simp only[List.length_nil] at c10;clear h hx;go_in;go_wp2_with fail;go_ret;exact⟨rfl,rfl⟩
theorem Ih (h:iy w base b own mm xs mv (.slice (some ⟨tb,0,none⟩) xs.length cap) ev) (hx:xs[n]? =some x) (h4:xs.length<=4) {a:Nat} {v:Int} {q:List (Int×Int)} (hw:x.th.wait=((a:Int),v)::q) (ha:a<mm.mem.length) (hl:mm.mem.length<=262144):
  Calls Tryz.prog 17 #[.pointer (some ⟨b,0,none⟩),.int .i64 (n:Int)] w fun r w'=>r= .returned (.bool true)/\dF w base b own ({mm with mem:=mm.mem.set a v}.put n {x.th with wait:=q}) w':=by
 have hn:n<xs.length:=(bE.1 hx).1;obtain⟨mb,mc,rfl,hmb⟩:=h.nZ (by omega);have c1:=h.iA 1 _ rfl;have c10:=h.cell hx 10 _ rfl;have hcut:=(h.th n x hx).wait;obtain⟨wo,wc,hwv⟩:=hcut.shape;rw[hwv,hw] at hcut c10;obtain⟨g,off,rfl,hcc⟩:=hcut.first;have k0:w.cell? ⟨g,off,none⟩=some (.int .i64 (a:Int)):=by have:=hcc 0 _ rfl;simpa using this
 have k1:w.cell? ⟨g,off+1,none⟩=some (.int .i64 v):=hcc 1 _ rfl;have hb0:Below w.heap.size w (w.alloc (.cells #[.int .i64 (a:Int),.int .i64 v] 99)):=(aQ _ _).alloc (aR _) _;have h0:=h.below hb0;have gy:=aX w (.cells #[.int .i64 (a:Int),.int .i64 v] 99);have d0:(w.alloc (.cells #[.int .i64 (a:Int),.int .i64 v] 99)).cell? ⟨w.heap.size,0,none⟩=some (.int .i64 (a:Int)):=af gy rfl;have d1:(w.alloc (.cells #[.int .i64 (a:Int),.int .i64 v] 99)).cell? ⟨w.heap.size,1,none⟩=some (.int .i64 v):=af gy rfl;have c0:=h0.iA 0 _ rfl;obtain⟨M0,hM0⟩:∃M0,mm.mem.getD a 0=M0:=⟨_,rfl⟩;have cM:=h0.yZ ha;rw[hM0] at cM;have fM:=h0.Cv (by omega:0<mm.mem.length) a;have HX:=ag hx;have H:=ag h;have H0:=ag h0;have HB:=ag hb0;have H3:=ag (h.fo tb rfl);have Zv:=ag hwv;have HWQ:=ag hw;have hq1:((q.length:Int)+1==0)=false:=by rw[bY];omega
 simp only[List.length_cons] at c10;clear h h0 hx hcut hcc hwv hw hb0 gy hM0;go_in;go_wp2_with fail;generalize(w.alloc (.cells #[.int .i64 (a:Int),.int .i64 v] 99))=w0 at H0 HB d0 d1 c0 cM fM⊢;go_region;have h1:=(H0.out.word ha v).drew;have hcut:=(h1.th n x HX.out).wait;rw[Zv.out,HWQ.out] at hcut;have d10:=h1.cell HX.out 10 _ rfl;rw[Zv.out,HWQ.out] at d10;simp only[List.length_cons] at d10;have f10:=h1.free (by omega) (n*13+10);have J8:=ag (bH.gY (S:=fun k=>own k≠0) (bH.of_below HB.out) (((bH.refl (fun k=>k=mb) w0).setCell (p:=⟨mb,a,none⟩) (.inl rfl) (.int .i64 v)).drew) (fun k _ e=>by rw[e];show own mb≠0;rw[hmb];decide));have H1:=ag h1;have XA:=ag (show eF _ base 99 2 (.slice (some ⟨g,off,none⟩) (q.length+1) wc) (q.length+1) (iI ((a:Int),v)++q.flatMap iI) from hcut);clear h1 hcut d0 d1 c0 cM fM k0 k1 c1 c10;generalize(w0.setCell ⟨mb,a,none⟩ (.int .i64 v)).drew=w1 at H1 J8 XA d10 f10⊢;have hwc:q.length+1<=wc:=by
  rcases XA.out.2 with⟨_,h0⟩|⟨g',off',cap',cur,hv,_,_,hc,_⟩
  ·omega
  ·simp only[Value.slice.injEq,true_and] at hv;omega
 have HT:=ag (XA.out.tail (by decide));have hfin:∀nv:Value,nv=(.slice (if wc=1 then some ⟨g,off,none⟩ else(some (⟨g,off,none⟩:Addr)).map (·.add 2)) q.length (wc - 1))->
   dF w base b own ({mm with mem:=mm.mem.set a v}.put n {x.th with wait:=q}) (w1.setCell ⟨tb,n*13+10,none⟩ nv):=by
  rintro nv rfl;have hd:(iI ((a:Int),v)++q.flatMap iI).drop 2=q.flatMap iI:=rfl;have ht:=HT.out;rw[hd] at ht;have hne:∀k,(Value.slice (if wc=1 then some ⟨g,off,none⟩ else(some (⟨g,off,none⟩:Addr)).map (·.add 2)) q.length (wc - 1)).ownBlock=some k->x.wv.ownBlock=some k\/w1.heap.size<=k:=fun k hk=>by
   left
   rw[Zv.out];split at hk<;>simpa [Value.ownBlock,Addr.add] using hk
  have h2:=H1.out.waited HX.out q _ (bH.refl _ w1) ht hne;refine⟨⟨_,_,_,_,_,h2,fun k hk=>iT (Nat.lt_of_lt_of_le hk J8.out.size)⟩,J8.out.setCell (p:=⟨tb,n*13+10,none⟩) (.inl (by show own tb≠0;rw[H3.out];decide)) _⟩
 have abf:=ag hfin;clear hfin;by_cases h1:wc=1
 ·subst h1;go_wp2_with fail;go_ret;refine⟨rfl,abf.out _ ?_⟩;simp;try omega
 ·go_wp2_with fail;go_ret;refine⟨rfl,abf.out _ ?_⟩;simp[h1,Addr.add]
theorem K7 (h:iy w base b own mm xs mv tv ev) (hk:pV N mm) (z:Int):
  Calls Tryz.prog 17 #[.pointer (some ⟨b,0,none⟩),.int .i64 z] w fun r w'=>r= .returned (.bool (mm.flush z).1)/\dF w base b own (mm.flush z).2 w':=by
 by_cases hz:0<=z/\z<(xs.length:Int)
 ·obtain⟨n,rfl⟩:∃n:Nat,z=(n:Int):=⟨z.toNat,by omega⟩;obtain⟨x,hx⟩:=bW (show n<xs.length by omega);obtain⟨tb,cap,rfl, -⟩:=h.xE hx;have h4:xs.length<=4:=by rw[<-vJ h];exact hk.four
  have ht:=hk.th x.th (bA (h.AU hx));cases hw:x.th.wait with
  |nil=>
   refine(F_ h hx h4 hw).mono ?_;rintro r w' ⟨rfl,rfl⟩;unfold MM.flush;rw[wU h hx];simp only[hw];exact⟨(by first|rfl|trivial),dF.same h (aQ _ _)⟩
  |cons c q=>
   obtain⟨a,ha⟩:∃a:Nat,c.1=(a:Int):=⟨c.1.toNat,by have:=(ht.wait c (by rw[hw];simp)).1;omega⟩;have hc:=(ht.wait c (by rw[hw];simp)).2;refine(Ih h hx h4 (a:=a) (v:=c.2) (q:=q) (by rw[hw,<-ha]) (by omega) hk.mem.2).mono ?_;rintro r w' ⟨rfl,hg⟩;unfold MM.flush;rw[wU h hx];simp only[hw];rw[ha,Int.toNat_natCast,Int.toNat_natCast];exact⟨(by first|rfl|trivial),hg⟩
 ·refine(II h (by omega)).mono ?_;rintro r w' ⟨rfl,rfl⟩;unfold MM.flush;rw[E9 h (by omega)];exact⟨(by first|rfl|trivial),dF.same h (aQ _ _)⟩
end
theorem uf (w:World) (x:Bool):Calls Tryz.prog 160 #[.bool x] w fun r w'=>r= .returned (.int .i64 (vM x))/\w'=w:=by
 cases x with
 |true=>
  go_in;go_wp2_with fail;go_ret;exact⟨rfl,rfl⟩
 |false=>
  go_in;go_wp2_with fail;go_ret;exact⟨rfl,rfl⟩
theorem u_ (x:Int):IntKind.u64.wrap x=x%18446744073709551616:=by
 have h1:IntKind.u64.signed=false:=rfl;have h2:IntKind.u64.bits=64:=rfl;unfold IntKind.wrap;simp only[h1,h2];simp
theorem za (x:Int):wrap64 (IntKind.u64.wrap x)=wrap64 x:=by
 rw[u_];unfold wrap64;omega
theorem uC {x y:Int} (h:x%18446744073709551616=y%18446744073709551616):wrap64 x=wrap64 y:=by
 unfold wrap64;omega
theorem Vp (a b:Int):wrap64 (IntKind.u64.wrap (IntKind.u64.wrap a+IntKind.u64.wrap b))=wrap64 (a+b):=by
 rw[za,u_,u_];exact uC (by rw[<-Int.add_emod])
theorem V6 (a b:Int):wrap64 (IntKind.u64.wrap (IntKind.u64.wrap a - IntKind.u64.wrap b))=wrap64 (a - b):=by
 rw[za,u_,u_];exact uC (by rw[<-Int.sub_emod])
theorem Vm (a b:Int):wrap64 (IntKind.u64.wrap (IntKind.u64.wrap a*IntKind.u64.wrap b))=wrap64 (a*b):=by
 rw[za,u_,u_];exact uC (by rw[<-Int.mul_emod])
theorem U6 (a c:Int):wrap64 (IntKind.u64.wrap (IntKind.u64.wrap a*c))=wrap64 (a*c):=by
 rw[za,u_];exact uC (by rw[Int.mul_emod,Int.emod_emod_of_dvd _ (Int.dvd_refl _),<-Int.mul_emod])
theorem SV (w:World) (a b:Int):Calls Tryz.prog 111 #[.int .u8 6,.int .i64 a,.int .i64 b] w (dA 6 a b w):=by
 go_in;go_wp2_with fail
 go_ret2
 exact .some rfl rfl rfl
theorem Ug (w:World) (a b:Int):Calls Tryz.prog 111 #[.int .u8 7,.int .i64 a,.int .i64 b] w (dA 7 a b w):=by
 go_in;go_wp2_with fail
 go_ret2
 exact .some rfl rfl rfl
theorem Te (w:World) (a b:Int):Calls Tryz.prog 111 #[.int .u8 8,.int .i64 a,.int .i64 b] w (dA 8 a b w):=by
 go_in;go_wp2_with fail
 go_ret2
 exact .some rfl rfl rfl
theorem PD (w:World) (a b:Int):Calls Tryz.prog 111 #[.int .u8 10,.int .i64 a,.int .i64 b] w (dA 10 a b w):=by
 go_in;go_wp2_with fail
 go_ret2
 exact .some rfl rfl rfl
theorem Sw (w:World) (a b:Int):Calls Tryz.prog 111 #[.int .u8 9,.int .i64 a,.int .i64 b] w (dA 9 a b w):=by
 go_in;go_wp2_with fail
 go_ret2
 refine .some (v:=fq (a*2 ^ min (IntKind.u64.wrap (bits BinOp.and IntKind.i64 b 63)).toNat 64)) rfl ?_ rfl;simp only[U6];rfl
theorem Ow (w:World) (a b:Int):Calls Tryz.prog 111 #[.int .u8 11,.int .i64 a,.int .i64 b] w (dA 11 a b w):=by
 go_in;go_wp2_with fail;refine(uf w _).mono ?_;rintro r w1 ⟨rfl,rfl⟩;go_wp2_with fail
 go_ret2
 exact .some rfl rfl rfl
theorem Pq (w:World) (a b:Int):Calls Tryz.prog 111 #[.int .u8 12,.int .i64 a,.int .i64 b] w (dA 12 a b w):=by
 go_in;go_wp2_with fail;refine(uf w _).mono ?_;rintro r w1 ⟨rfl,rfl⟩;go_wp2_with fail
 go_ret2
 exact .some rfl rfl rfl
theorem PG (w:World) (a b:Int):Calls Tryz.prog 111 #[.int .u8 13,.int .i64 a,.int .i64 b] w (dA 13 a b w):=by
 go_in;go_wp2_with fail;refine(uf w _).mono ?_;rintro r w1 ⟨rfl,rfl⟩;go_wp2_with fail
 go_ret2
 exact .some rfl rfl rfl
theorem N7 (w:World) (a b:Int):Calls Tryz.prog 111 #[.int .u8 14,.int .i64 a,.int .i64 b] w (dA 14 a b w):=by
 go_in;go_wp2_with fail;refine(uf w _).mono ?_;rintro r w1 ⟨rfl,rfl⟩;go_wp2_with fail
 go_ret2
 exact .some rfl rfl rfl
theorem Qh (w:World) (c a b:Int) (h:¬(1<=c/\c<=14)):Calls Tryz.prog 111 #[.int .u8 c,.int .i64 a,.int .i64 b] w (dA c a b w):=by
 have k1:(c==1)=false:=by rw[bY];omega
 have k2:(c==2)=false:=by rw[bY];omega
 have k3:(c==3)=false:=by rw[bY];omega
 have k4:(c==4)=false:=by rw[bY];omega
 have k5:(c==5)=false:=by rw[bY];omega
 have k6:(c==6)=false:=by rw[bY];omega
 have k7:(c==7)=false:=by rw[bY];omega
 have k8:(c==8)=false:=by rw[bY];omega
 have k9:(c==9)=false:=by rw[bY];omega
 have k10:(c==10)=false:=by rw[bY];omega
 have k11:(c==11)=false:=by rw[bY];omega
 have k12:(c==12)=false:=by rw[bY];omega
 have k13:(c==13)=false:=by rw[bY];omega
 have k14:(c==14)=false:=by rw[bY];omega
 have hn:gL c a b=none:=by
  unfold gL;rw[if_neg (by omega),if_neg (by omega),if_neg (by omega),if_neg (by omega),if_neg (by omega),if_neg (by omega),if_neg (by omega),if_neg (by omega),if_neg (by omega),if_neg (by omega),if_neg (by omega),if_neg (by omega),if_neg (by omega),if_neg (by omega)]
 clear h;go_in;go_wp2_with fail
 go_ret2
 exact .none hn (by rw[if_neg (by rw[bY] at k4 k5;omega)];rfl) rfl
theorem KE (w:World) (c a b:Int) (h:¬(1<=c/\c<=5)):Calls Tryz.prog 111 #[.int .u8 c,.int .i64 a,.int .i64 b] w (dA c a b w):=by
 by_cases h':6<=c/\c<=14
 ·rcases(by omega:c=6\/c=7\/c=8\/c=9\/c=10\/c=11\/c=12\/c=13\/c=14) with rfl|rfl|rfl|rfl|rfl|rfl|rfl|rfl|rfl
  ·exact SV w a b
  ·exact Ug w a b
  ·exact Te w a b
  ·exact Sw w a b
  ·exact PD w a b
  ·exact Ow w a b
  ·exact Pq w a b
  ·exact PG w a b
  ·exact N7 w a b
 ·exact Qh w c a b (by omega)
theorem abd (w:World) (a b:Int):Calls Tryz.prog 72 #[.int .u8 1,.int .i64 a,.int .i64 b] w (dA 1 a b w):=by
 go_in;go_wp2_with fail
 go_ret2
 refine .some (v:=fq (a+b)) rfl ?_ rfl;simp only[Vp];rfl
theorem aaY (w:World) (a b:Int):Calls Tryz.prog 72 #[.int .u8 2,.int .i64 a,.int .i64 b] w (dA 2 a b w):=by
 go_in;go_wp2_with fail
 go_ret2
 refine .some (v:=fq (a - b)) rfl ?_ rfl;simp only[V6];rfl
theorem aaH (w:World) (a b:Int):Calls Tryz.prog 72 #[.int .u8 3,.int .i64 a,.int .i64 b] w (dA 3 a b w):=by
 go_in;go_wp2_with fail
 go_ret2
 refine .some (v:=fq (a*b)) rfl ?_ rfl;simp only[Vm];rfl
theorem aaF (w:World) (a b:Int) (h:b≠0):Calls Tryz.prog 72 #[.int .u8 4,.int .i64 a,.int .i64 b] w (dA 4 a b w):=by
 have hb:(b==0)=false:=by rw[bY];exact h
 by_cases ha:a= -9223372036854775808
 ·subst ha;by_cases h1:b= -1
  ·subst h1;clear h hb;go_in;go_wp2_with fail
   go_ret2
   exact .some (by decide+kernel) rfl rfl
  ·have h2:(b== -1)=false:=by rw[bY];exact h1
   go_in;go_wp2_with fail
   go_ret2
   refine .some ?_ rfl rfl;unfold gL;simp[h,fq,IntWalk.i64_left]
 ·have h2:(a== -9223372036854775808)=false:=by rw[bY];exact ha
  go_in;go_wp2_with fail
  go_ret2
  refine .some ?_ rfl rfl;unfold gL;simp[h,fq,IntWalk.i64_left]
theorem YR (w:World) (a b:Int) (h:b=0):Calls Tryz.prog 72 #[.int .u8 4,.int .i64 a,.int .i64 b] w (dA 4 a b w):=by
 subst h;go_in;go_wp2_with fail
 go_ret2
 exact .none rfl rfl rfl
theorem Z4 (w:World) (a b:Int) (h:b≠0):Calls Tryz.prog 72 #[.int .u8 5,.int .i64 a,.int .i64 b] w (dA 5 a b w):=by
 have hb:(b==0)=false:=by rw[bY];exact h
 by_cases ha:a= -9223372036854775808
 ·subst ha;by_cases h1:b= -1
  ·subst h1;clear h hb;go_in;go_wp2_with fail
   go_ret2
   exact .some (by decide+kernel) rfl rfl
  ·have h2:(b== -1)=false:=by rw[bY];exact h1
   go_in;go_wp2_with fail
   go_ret2
   refine .some ?_ rfl rfl;unfold gL;simp[h,fq,IntWalk.i64_left];exact Int.tmod_eq_emod_of_nonneg (by decide)
 ·have h2:(a== -9223372036854775808)=false:=by rw[bY];exact ha
  go_in;go_wp2_with fail
  go_ret2
  refine .some ?_ rfl rfl;unfold gL;simp[h,fq,IntWalk.i64_left]
theorem Yf (w:World) (a b:Int) (h:b=0):Calls Tryz.prog 72 #[.int .u8 5,.int .i64 a,.int .i64 b] w (dA 5 a b w):=by
 subst h;go_in;go_wp2_with fail
 go_ret2
 exact .none rfl rfl rfl
theorem Rj (w:World) (c a b:Int) (h:¬(1<=c/\c<=5)):Calls Tryz.prog 72 #[.int .u8 c,.int .i64 a,.int .i64 b] w (dA c a b w):=by
 have k1:(c==1)=false:=by rw[bY];omega
 have k2:(c==2)=false:=by rw[bY];omega
 have k3:(c==3)=false:=by rw[bY];omega
 have k4:(c==4)=false:=by rw[bY];omega
 have k5:(c==5)=false:=by rw[bY];omega
 go_in;go_wp2_with fail;refine(KE w c a b h).mono ?_;rintro r w1 ⟨rfl,rfl⟩;go_wp2_with fail
 go_ret2
 exact⟨rfl,rfl⟩
theorem WC (w:World) (c a b:Int):Calls Tryz.prog 72 #[.int .u8 c,.int .i64 a,.int .i64 b] w (dA c a b w):=by
 by_cases h:1<=c/\c<=5
 ·rcases(by omega:c=1\/c=2\/c=3\/c=4\/c=5) with rfl|rfl|rfl|rfl|rfl
  ·exact abd w a b
  ·exact aaY w a b
  ·exact aaH w a b
  ·by_cases hb:b=0
   ·exact YR w a b hb
   ·exact aaF w a b hb
  ·by_cases hb:b=0
   ·exact Yf w a b hb
   ·exact Z4 w a b hb
 ·exact Rj w c a b h
end Go.Proofs.YtopdcjimpdalpaaGreat

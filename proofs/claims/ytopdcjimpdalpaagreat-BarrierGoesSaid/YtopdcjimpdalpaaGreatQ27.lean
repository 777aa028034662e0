import Derived.Test.YtopdcjimpdalpaaGreatQ26
import Derived.BigQuiet
namespace Go.Proofs.YtopdcjimpdalpaaGreat
open Go.RowKit
set_option linter.all false
set_option maxHeartbeats 2000000
set_option maxRecDepth 100000
section
variable {W:zB} {mm iZ:MM} {m:AS} {ks:Nat->Nat} {n k:Nat} {t t':MT} {a a':aO} {lo hi words:Int} {l:List Tx}
theorem fJ.stores (h:fJ W mm m ks n t a) {e:fF} (hlow:(e.cell W.words).1<W.words+18) (hgo:mm.go n t=(true,mm.put n (t.stored (e.cell W.words).1 (e.cell W.words).2))) (hb:a.bare) (hact:m.act (W.rs n) n=m.set n a') (h1:a'.buf=a.buf++[e]) (h2:a'.out=a.out) (h3:a'.fin=a.fin) {k:Nat} (hk:k<=cst a)
  (hw:dX (bI (W.tx n) (W.rs n)) (W.lo n) (W.hi n) (vU (W.tx n) (W.rs n) a') k ((t.ls (W.lo n) (W.hi n) mm).at ((t.ls (W.lo n) (W.hi n) mm).pc+1))):Done W mm m ks n t a:=by
 have hS:=h.s;have low:=(h.ok.ctx n h.lt).lay.low;have hwd:=h.ok.wd n h.lt;refine⟨k,hb,hk,by rw[hgo],?_⟩;rw[hgo,hact,MK];have e1:m.set n a'=⟨m.data,m.clock,m.aN,upd m.aM n a',mm.evs⟩:=by rw[h.tL.evs];rfl
 rw[e1];have e2:=QF (lo:=W.lo n) (hi:=W.hi n) (mm:=mm) (iZ:=⟨mm.mem,mm.aM.set n (t.stored (e.cell W.words).1 (e.cell W.words).2),mm.evs⟩) (x:=(e.cell W.words).1) (v:=(e.cell W.words).2) hS.oC rfl (by omega);rw[<-e2] at hw;refine h.tL.put h.lt ⟨hS.code,by rw[h2];exact hS.out,by rw[h3];exact hS.fin,by have:=hS.oC;simp only[MT.stored];omega,?_,fun c hc=>?_,fun _=>hw⟩
 ·simp only[MT.stored];rw[List.filter_append,hS.wait,h1,List.map_append,List.filter_cons_of_pos (by simpa using hlow)];rfl
 ·simp only[MT.stored] at hc;rcases List.mem_append.1 hc with hc|hc
  ·exact hS.own c hc
  ·rw[List.mem_singleton.1 hc];exact .inl hlow
theorem Jb {k:Nat} (hS:M7 W mm n t a k) (h:t.wait=[]):a.buf=[]:=by
 have:=hS.wait;rw[h] at this;simpa using this.symm
section
theorem fJ.wb (h:fJ W mm m ks n t a) (hp:a.pt= .wb) (hl:(W.rs n)[a.row]? =some l) (hr:fU (W.tx n) l (b_ (W.rs n) a.row) a (t.ls (W.lo n) (W.hi n) mm)):(mm.go n t=(false,mm)/\t.wait≠[])\/Done W mm m ks n t a:=by
 have X:=h.ok.ctx n h.lt;have R:=bK (W.tx n) (W.rs n) hl;have hwd:=h.ok.wd n h.lt;have hw0:=h.ok.words;have HA:=h.A;have HB:=HA.base (by rw[hp];intro q;cases q);have hsome:=HA.some;have hnew:=HA.new;unfold fU at hr;rw[hp] at hr hsome hnew;simp only at hsome hnew;obtain⟨e,r0,r1,r4,pv,he,hs,F,hn⟩:=hr;have hke:=HA.keys e (bA he);have hck:=h.bX;have Ti:=HA.bX.1;have hc:t.code[t.at_.toNat]? =some ⟨5,0,(2:Nat),(3:Nat),0,0⟩:=by rw[h.s.code,iH hs];exact R.aL 109 _ rfl
 obtain⟨q1,q2⟩:=h.ML (x:=e.1) (by omega);rcases Db (mm:=mm) (n:=n) (x:=e.1) h.s.oC hc (by rw[dI hs (a:=2) (by decide)];show fq (e.1+0)=_;skip;rw[eT (by omega)];omega) q1 q2 with⟨hgo,hw⟩|hgo
 ·exact .inl ⟨hgo,fun q=>by rw[q] at hw;simp at hw⟩
 right
 rw[dI hs (a:=3) (by decide),aB] at hgo;refine h.stores (e:=fF.dat e.1 e.2) (by show e.1<W.words+18;omega) hgo (jE hp) (a':={a with buf:=a.buf++[fF.dat e.1 e.2]}.iB (a.i+1)) ?_ ?_ ?_ ?_ (k:=219) (by unfold cst;rw[hp];show 219<=229;decide) ?_
 ·unfold AS.act;rw[h.eq];simp only[hp];rw[he]
 ·exact((Same.refl {a with buf:=a.buf++[fF.dat e.1 e.2]}).iB (a.i+1)).buf
 ·exact((Same.refl {a with buf:=a.buf++[fF.dat e.1 e.2]}).iB (a.i+1)).out
 ·exact((Same.refl {a with buf:=a.buf++[fF.dat e.1 e.2]}).iB (a.i+1)).fin
 ·rw[hs];exact TH X hl HB.len F hn ⟨by omega,by omega⟩ hsome e.1 e.2
theorem fJ.rel (h:fJ W mm m ks n t a) (hp:a.pt= .rel) (hl:(W.rs n)[a.row]? =some l) (hr:fU (W.tx n) l (b_ (W.rs n) a.row) a (t.ls (W.lo n) (W.hi n) mm)):(mm.go n t=(false,mm)/\t.wait≠[])\/Done W mm m ks n t a:=by
 have X:=h.ok.ctx n h.lt;have R:=bK (W.tx n) (W.rs n) hl;have hwd:=h.ok.wd n h.lt;have hw0:=h.ok.words;have HA:=h.A;have HB:=HA.base (by rw[hp];intro q;cases q);have aY:=HA.held;have hnew:=HA.new;unfold fU at hr;rw[hp] at hr aY hnew;simp only at aY hnew;obtain⟨r0,r2,r3,r4,pv,hs,F⟩:=hr;have lQ:=aY.1;have hc:t.code[t.at_.toNat]? =some ⟨5,0,(5:Nat),(1:Nat),0,0⟩:=by rw[h.s.code,iH hs];exact R.aL 130 _ rfl
 obtain⟨q1,q2⟩:=h.xU lQ;rcases Db (mm:=mm) (n:=n) (x:=W.words+2+(a.s:Int)) h.s.oC hc (by rw[dI hs (a:=5) (by decide)];show fq ((W.tx n).words+2+(a.s:Int)+0)=_;rw[hwd];rw[eT (by omega)];omega) q1 q2 with⟨hgo,hw⟩|hgo
 ·exact .inl ⟨hgo,fun q=>by rw[q] at hw;simp at hw⟩
 right
 rw[dI hs (a:=1) (by decide),ah] at hgo;refine h.stores (e:=fF.lock a.s (2*a.new)) (by show W.words+2+(a.s:Int)<W.words+18;omega) hgo (jE hp) (a':={a with buf:=a.buf++[fF.lock a.s (2*a.new)],held:=upd a.held a.s false}.dV (a.s+1)) ?_ ?_ ?_ ?_ (k:=213) (by unfold cst;rw[hp];show 213<=229;decide) ?_
 ·unfold AS.act;rw[h.eq];simp only[hp]
 ·exact((Same.refl {a with buf:=a.buf++[fF.lock a.s (2*a.new)],held:=upd a.held a.s false}).dV (a.s+1)).buf
 ·exact((Same.refl {a with buf:=a.buf++[fF.lock a.s (2*a.new)],held:=upd a.held a.s false}).dV (a.s+1)).out
 ·exact((Same.refl {a with buf:=a.buf++[fF.lock a.s (2*a.new)],held:=upd a.held a.s false}).dV (a.s+1)).fin
 ·rw[hs];exact Pv X hl F lQ _
theorem fJ.DK (h:fJ W mm m ks n t a) (hp:a.pt= .DK) (hl:(W.rs n)[a.row]? =some l) (hr:fU (W.tx n) l (b_ (W.rs n) a.row) a (t.ls (W.lo n) (W.hi n) mm)):(mm.go n t=(false,mm)/\t.wait≠[])\/Done W mm m ks n t a:=by
 have X:=h.ok.ctx n h.lt;have R:=bK (W.tx n) (W.rs n) hl;have hwd:=h.ok.wd n h.lt;have hw0:=h.ok.words;have HA:=h.A;have HB:=HA.base (by rw[hp];intro q;cases q);have aY:=HA.held;unfold fU at hr;rw[hp] at hr aY;simp only at aY;obtain⟨r0,r1,r3,r4,pv,hs,F,O⟩:=hr;have lQ:=aY.1;have hc:t.code[t.at_.toNat]? =some ⟨5,0,(5:Nat),(2:Nat),0,0⟩:=by rw[h.s.code,iH hs];exact R.aL 152 _ rfl
 obtain⟨q1,q2⟩:=h.xU lQ;rcases Db (mm:=mm) (n:=n) (x:=W.words+2+(a.s:Int)) h.s.oC hc (by rw[dI hs (a:=5) (by decide)];show fq ((W.tx n).words+2+(a.s:Int)+0)=_;rw[hwd];rw[eT (by omega)];omega) q1 q2 with⟨hgo,hw⟩|hgo
 ·exact .inl ⟨hgo,fun q=>by rw[q] at hw;simp at hw⟩
 right
 rw[dI hs (a:=2) (by decide),ai] at hgo;refine h.stores (e:=fF.lock a.s (a.old a.s)) (by show W.words+2+(a.s:Int)<W.words+18;omega) hgo (jE hp) (a':={a with buf:=a.buf++[fF.lock a.s (a.old a.s)],held:=upd a.held a.s false}.bJ (a.s+1)) ?_ ?_ ?_ ?_ (k:=213) (by unfold cst;rw[hp];show 213<=229;decide) ?_
 ·unfold AS.act;rw[h.eq];simp only[hp]
 ·exact((Same.refl {a with buf:=a.buf++[fF.lock a.s (a.old a.s)],held:=upd a.held a.s false}).bJ (a.s+1)).buf
 ·exact((Same.refl {a with buf:=a.buf++[fF.lock a.s (a.old a.s)],held:=upd a.held a.s false}).bJ (a.s+1)).out
 ·exact((Same.refl {a with buf:=a.buf++[fF.lock a.s (a.old a.s)],held:=upd a.held a.s false}).bJ (a.s+1)).fin
 ·rw[hs];exact PN X hl F O lQ _
theorem fJ.zw (h:fJ W mm m ks n t a) (hp:a.pt= .zw) (hl:(W.rs n)[a.row]? =some l) (hr:fU (W.tx n) l (b_ (W.rs n) a.row) a (t.ls (W.lo n) (W.hi n) mm)):(mm.go n t=(false,mm)/\t.wait≠[])\/Done W mm m ks n t a:=by
 have X:=h.ok.ctx n h.lt;have R:=bK (W.tx n) (W.rs n) hl;have hwd:=h.ok.wd n h.lt;have hw0:=h.ok.words;have HA:=h.A;have HB:=HA.base (by rw[hp];intro q;cases q);have aY:=HA.held;have hl1:=HA.l1;unfold fU at hr;rw[hp] at hr aY hl1;simp only at aY hl1;obtain⟨r0,r1,pv,hs,F,O,hn⟩:=hr;have lQ:=aY.1;have hck:=h.bX;have hth:=h.ok.th n h.lt;have hS:=h.s;obtain⟨b1,b2⟩:=h.inv.WG h.ok.n h.lt lQ;have hc:t.code[t.at_.toNat]? =some ⟨8,0,(5:Nat),(4:Nat),(2:Nat),0⟩:=by rw[h.s.code,iH hs];exact R.aL 39 _ rfl
 obtain⟨q1,q2⟩:=h.xU lQ;rcases Y1 (mm:=mm) (n:=n) (x:=W.words+2+(a.s:Int)) h.s.oC hc (by rw[dI hs (a:=5) (by decide)];show fq ((W.tx n).words+2+(a.s:Int)+0)=_;rw[hwd];rw[eT (by omega)];omega) q1 q2 with hgo|⟨hw,hgo⟩
 ·exact .inl hgo
 right
 have hbuf:=Jb hS hw;have hL:=h.tL.aN a.s lQ;rw[dI hs (a:=4) (by decide),dI hs (a:=2) (by decide),aC,ai,hL] at hgo;simp only at hgo;have hl1:0<=a.l1/\a.l1<9223372036854775808:=⟨hl1.2.1,by omega⟩;have ng:=Q9 (r0:=r0) (r1:=r1) (r2:=2*(W.tx n).th+1) (V:=m.aN a.s) X hl HB.len lQ (fun k hk=>(HB.old k hk).1) (by rw[aY.2.2];simp) F O hn ⟨b1,by omega⟩ hl1;by_cases e:m.aN a.s=a.l1
 ·rw[if_pos e] at hgo ng;have hact:m.act (W.rs n) n={m with aN:=upd m.aN a.s (2*n+1)}.set n ({a with held:=upd a.held a.s true,old:=upd a.old a.s a.l1}.cu (a.s+1)):=by
   unfold AS.act;rw[h.eq];simp only[hp];rw[if_pos e]
  have hsm:=(Same.of a {a with held:=upd a.held a.s true,old:=upd a.old a.s a.l1} rfl rfl rfl).cu (a.s+1);refine⟨224,fun _=>hbuf,by unfold cst;rw[hp];show 224<=229;decide,by rw[hgo],?_⟩;rw[hgo,hact];generalize({a with held:=upd a.held a.s true,old:=upd a.old a.s a.l1}.cu (a.s+1):aO)=a' at hsm ng;have e1:AS.set {m with aN:=upd m.aN a.s (2*n+1)} n a'=⟨m.data,m.clock,upd m.aN a.s (2*n+1),upd m.aM n a',mm.evs⟩:=by rw[h.tL.evs];rfl
  rw[e1,hth];have e2:=rJ (lo:=W.lo n) (hi:=W.hi n) (m:=mm) (m':=⟨mm.mem,mm.aM.set n (t.goes ((4:Nat):Int) (m.aN a.s)),mm.evs⟩) hS.oC rfl (m.aN a.s) 4 (by decide);rw[hs,ak] at e2;have low:=X.lay.low;have e3:(t.goes ((4:Nat):Int) (m.aN a.s)).ls (W.lo n) (W.hi n) ⟨mm.mem.set (W.words+2+(a.s:Int)).toNat (2*(n:Int)+1),mm.aM.set n (t.goes ((4:Nat):Int) (m.aN a.s)),mm.evs⟩=(t.goes ((4:Nat):Int) (m.aN a.s)).ls (W.lo n) (W.hi n) ⟨mm.mem,mm.aM.set n (t.goes ((4:Nat):Int) (m.aN a.s)),mm.evs⟩:=MC (fun y h1 h2=>by rw[wT q1 q2 (by omega),if_neg (by omega)]);refine h.tL.aT h.ok h.lt ⟨by omega,by omega⟩ q2 (fun y h1 h2=>by rw[if_neg (by omega)]) (by rw[if_neg (by omega)]) (fun s hs=>?_) (hS.turn rfl rfl rfl (by have:=hS.oC;simp only[MT.goes];omega) rfl hsm ?_)
  ·simp only[bN];by_cases q:s=a.s
   ·subst q;rw[if_pos rfl,if_pos rfl]
   ·rw[if_neg q,if_neg (by omega)]
  ·rw[e3,e2,e];rw[e] at ng;exact ng
 ·rw[if_neg e] at hgo ng;refine h.goes (r:=4) (by decide) hgo (fun _=>hbuf) (a':=a.bJ 0) ?_ ((Same.refl a).bJ 0) (k:=224) (by unfold cst;rw[hp];show 224<=229;decide) ?_
  ·unfold AS.act;rw[h.eq];simp only[hp];rw[if_neg e]
  ·rw[hs,ak];exact ng
theorem fJ.qG (h:fJ W mm m ks n t a) (hp:a.pt= .qG) (hl:(W.rs n)[a.row]? =some l) (hr:fU (W.tx n) l (b_ (W.rs n) a.row) a (t.ls (W.lo n) (W.hi n) mm)):(mm.go n t=(false,mm)/\t.wait≠[])\/Done W mm m ks n t a:=by
 have X:=h.ok.ctx n h.lt;have R:=bK (W.tx n) (W.rs n) hl;have hwd:=h.ok.wd n h.lt;have hw0:=h.ok.words;have HA:=h.A;have HB:=HA.base (by rw[hp];intro q;cases q);have aY:=HA.held;unfold fU at hr;rw[hp] at hr aY;simp only at aY;obtain⟨r0,r2,r3,r4,r5,r6,pv,hs,F,O⟩:=hr;have hck:=h.bX;have hS:=h.s;have hc:t.code[t.at_.toNat]? =some ⟨9,0,(7:Nat),(1:Nat),0,(W.tx n).words+1⟩:=by rw[h.s.code,iH hs];exact R.aL 56 _ rfl
 obtain⟨q1,q2⟩:=h.ML (x:=W.words+1) (by omega);rcases V4 (mm:=mm) (n:=n) (x:=W.words+1) h.s.oC hc (by rw[dI hs (a:=7) (by decide)];show fq (0+_)=_;rw[hwd,eT (by omega)];omega) q1 q2 with hgo|⟨hw,hgo⟩
 ·exact .inl hgo
 right
 have hbuf:=Jb hS hw;have hc0:=h.inv.bX;rw[dI hs (a:=1) (by decide),ah,h.tL.clock,eT (x:=m.clock+1) (by omega)] at hgo;rw[<-hwd] at HB;have ng:=OB (r0:=r0) (r2:=r2) (r3:=r3) (r4:=r4) (r5:=r5) (r6:=r6) (c:=m.clock) X hl HB F O ⟨hc0,hck⟩;have hact:m.act (W.rs n) n={m with clock:=m.clock+1}.set n ({a with new:=m.clock+1}.cz 0):=by
  unfold AS.act;rw[h.eq];simp only[hp]
 have hsm:=(Same.of a {a with new:=m.clock+1} rfl rfl rfl).cz 0;refine⟨219,fun _=>hbuf,by unfold cst;rw[hp];show 219<=229;decide,by rw[hgo],?_⟩;rw[hgo,hact];generalize({a with new:=m.clock+1}.cz 0:aO)=a' at hsm ng;have e1:AS.set {m with clock:=m.clock+1} n a'=⟨m.data,m.clock+1,m.aN,upd m.aM n a',mm.evs⟩:=by rw[h.tL.evs];rfl
 rw[e1];have e2:=rJ (lo:=W.lo n) (hi:=W.hi n) (m:=mm) (m':=⟨mm.mem,mm.aM.set n (t.goes ((1:Nat):Int) m.clock),mm.evs⟩) hS.oC rfl m.clock 1 (by decide);rw[hs,az] at e2;have low:=X.lay.low;have e3:(t.goes ((1:Nat):Int) m.clock).ls (W.lo n) (W.hi n) ⟨mm.mem.set (W.words+1).toNat (m.clock+1),mm.aM.set n (t.goes ((1:Nat):Int) m.clock),mm.evs⟩=(t.goes ((1:Nat):Int) m.clock).ls (W.lo n) (W.hi n) ⟨mm.mem,mm.aM.set n (t.goes ((1:Nat):Int) m.clock),mm.evs⟩:=MC (fun y h1 h2=>by rw[wT q1 q2 (by omega),if_neg (by omega)]);refine h.tL.aT h.ok h.lt ⟨by omega,by omega⟩ q2 (fun y h1 h2=>by rw[if_neg (by omega)]) (by rw[if_pos rfl]) (fun s hs=>by rw[if_neg (by omega)]) (hS.turn rfl rfl rfl (by have:=hS.oC;simp only[MT.goes];omega) rfl hsm ?_);rw[e3,e2];exact ng
end
end
section
variable {W:zB} {mm iZ:MM} {m:AS} {ks:Nat->Nat} {n k:Nat} {t t':MT} {a a':aO} {lo hi words:Int} {l:List Tx}
theorem fJ.all (h:fJ W mm m ks n t a) (hat:vU (W.tx n) (W.rs n) a (t.ls (W.lo n) (W.hi n) mm)):(mm.go n t=(false,mm)/\t.wait≠[])\/Done W mm m ks n t a:=by
 rcases hat with⟨hp,hr⟩|hp|⟨l,hl,hr⟩
 ·exact .inr (h.halt hp hr)
 ·exact absurd (h.A.fin.1 h.fin) (fun q=>q hp)
 ·cases hp:a.pt with
  |look=>exact .inr (h.look hp hl hr)
  |rd=>exact .inr (h.rd hp hl hr)
  |Bz=>exact .inr (h.Bz hp hl hr)
  |dat=>exact .inr (h.dat hp hl hr)
  |ym=>exact .inr (h.ym hp hl hr)
  |wr=>exact .inr (h.wr hp hl hr)
  |full=>exact .inr (h.full hp hl hr)
  |ro=>exact .inr (h.ro hp hl hr)
  |Eg=>exact .inr (h.Eg hp hl hr)
  |zw=>exact h.zw hp hl hr
  |qG=>exact h.qG hp hl hr
  |Bc=>exact .inr (h.Bc hp hl hr)
  |BM=>exact .inr (h.BM hp hl hr)
  |wb=>exact h.wb hp hl hr
  |rel=>exact h.rel hp hl hr
  |DK=>exact h.DK hp hl hr
  |u6=>exact .inr (h.u6 hp hl hr)
  |out=>exact .inr (h.out hp hl hr)
  |halt=>
   unfold fU at hr;rw[hp] at hr;exact hr.elim
  |over=>
   unfold fU at hr;rw[hp] at hr;exact hr.elim
inductive Stp (W:zB) (mm:MM) (m:AS) (ks:Nat->Nat) (n:Nat):Prop
 |none:mm.step n=(false,mm)->(∀t,mm.aM[n]? =some t->t.fin=0->t.wait≠[])->Stp W mm m ks n
 |own (k:Nat):(mm.step n).1=true->n<W.N->k<ks n->xm W (mm.step n).2 m (upd ks n k)->Stp W mm m ks n
 |act (k:Nat):(mm.step n).1=true->n<W.N->(m.aM n).fin=0->(m.aM n).bare->k<=cst (m.aM n)->xm W (mm.step n).2 (m.act (W.rs n) n) (upd ks n k)->Stp W mm m ks n
theorem xm.step (h:xm W mm m ks) (ok:oH W) (I:bS W.N W.words m) (hc:m.clock<2305843009213693951) (n:Nat):Stp W mm m ks n:=by
 cases ht:mm.aM[n]? with
 |none=>
  refine .none (O1 ?_) (fun t q=>by rw[ht] at q;cases q);rcases Nat.lt_or_ge n mm.aM.length with q|q
  ·rw[dZ q] at ht;cases ht
  ·exact q
 |some t=>
  have hn:n<W.N:=by rw[<-h.n];exact(bE.1 ht).1
  have hS:=h.th n t ht;by_cases hf:t.fin=0
  ·have hfa:(m.aM n).fin=0:=by rw[<-hS.fin];exact hf
   have ok1:=ok.ctx n hn;have hw:=hS.will hfa;have e:=QV ht hf;generalize hk:ks n=k0 at hw;generalize hs:t.ls (W.lo n) (W.hi n) mm=s at hw;cases hw with
   |here hq=>
    rw[<-hs] at hq;have A:fJ W mm m ks n t (m.aM n):=⟨ok,h,I,hc,ht,hn,rfl,hfa⟩;rcases A.all hq with⟨h1,h2⟩|⟨k,h1,h2,h3,h4⟩
    ·exact .none (by rw[e];exact h1) (fun u hu _=>by rw[ht] at hu;cases hu;exact h2)
    ·exact .act k (by rw[e];exact h3) hn hfa h1 h2 (by rw[e];exact h4)
   |@step k _ s' o hc' hl hw'=>
    have hpc:t.at_.toNat=s.pc:=by rw[<-hs];rfl
    have hlen:=h.len;have hsz:=ok.size n hn;have hlo:0<=W.lo n:=by have:=ok1.lay.low;have:=ok1.lay.words;omega
    rw[<-hs] at hl;rcases QN hS.oC hlo (by omega) (by rw[hS.code,hpc];exact hc') hl with⟨h1,h2⟩|⟨t',h1,h2,h3,h4,h5⟩
    ·exact .none (by rw[e];exact h1) (fun u hu _=>by rw[ht] at hu;cases hu;exact fun q=>by rw[q] at h2;simp at h2)
    ·refine .own k (by rw[e,h1]) hn (by omega) ?_;rw[e,h1];have low:=ok1.lay.low;have hwd:=ok.wd n hn;have e1:m=⟨m.data,m.clock,m.aN,upd m.aM n (m.aM n),mm.evs⟩:=by
      have:upd m.aM n (m.aM n)=m.aM:=by
       funext j
       rw[bN];split
       ·rename_i q;rw[q]
       ·rfl
      rw[this,h.evs]
     rw[e1];refine h.put (mm:=mm) (t':=t') (evs:=mm.evs) hn ⟨by rw[h4.code];exact hS.code,by rw[h4.out];exact hS.out,by rw[h4.fin];exact hS.fin,h3,?_,?_,fun _=>?_⟩
     ·rcases h5 with h5|⟨x,v,q1,q2,h5⟩
      ·rw[h5];exact hS.wait
      ·rw[h5,List.filter_append,List.filter_cons_of_neg (by simp;omega),List.filter_nil,List.append_nil];exact hS.wait
     ·rcases h5 with h5|⟨x,v,q1,q2,h5⟩
      ·rw[h5];exact hS.own
      ·rw[h5];intro c hc;rcases List.mem_append.1 hc with hc|hc
       ·exact hS.own c hc
       ·rw[List.mem_singleton.1 hc];exact .inr ⟨q1,q2⟩
     ·rw[MK] at h2;rw[h2];exact hw'
  ·exact .none (NH ht hf) (fun u hu hq=>by rw[ht] at hu;cases hu;exact absurd hq hf)
theorem LP (c:Int×Int) (r:List (Int×Int)) (y:Int) (d:Int):(jS (c::r) y).getD d=(jS r y).getD (if c.1=y then c.2 else d):=by
 induction r using yM with
 |h0=>
  have:=gm [] c.1 c.2 y;rw[List.nil_append] at this;show(jS [(c.1,c.2)] y).getD d=_;rw[this,N9];by_cases e:y=c.1
  ·rw[if_pos e,if_pos e.symm];rfl
  ·rw[if_neg e,if_neg (fun q=>e q.symm)]
 |h1 r x ih=>
  obtain⟨p,v⟩:=x;rw[show c::(r++[(p,v)])=(c::r)++[(p,v)] from rfl,gm,gm];by_cases e:y=p
  ·rw[if_pos e,if_pos e];rfl
  ·rw[if_neg e,if_neg e];exact ih
theorem Iq {c:Int×Int} {r:List (Int×Int)} {iZ:MM} (hw:t.wait=c::r) (hm:∀y,0<=y->iZ.at y=if c.1=y then c.2 else mm.at y) (hlo:0<=lo):({t with wait:=r}:MT).ls lo hi iZ=t.ls lo hi mm:=by
 simp only[MT.ls];congr 1
 funext y
 by_cases h:lo<=y/\y<hi
 ·rw[if_pos h,if_pos h];unfold MM.found;rw[hw,LP,hm y (by omega)]
 ·rw[if_neg h,if_neg h]
theorem xm.flush (h:xm W mm m ks) (ok:oH W) (I:bS W.N W.words m) (n:Nat):xm W (mm.flush n).2 m ks\/n<W.N/\(m.aM n).buf≠[]/\xm W (mm.flush n).2 (m.flush n) ks:=by
 unfold MM.flush MM.xq;rw[if_neg (by omega),Int.toNat_natCast];cases ht:mm.aM[n]? with
 |none=>exact .inl h
 |some t=>
  have hn:n<W.N:=by rw[<-h.n];exact(bE.1 ht).1
  have hS:=h.th n t ht;simp only;cases hw:t.wait with
  |nil=>exact .inl h
  |cons c r=>
   have hB:=I.buf n hn;have ok1:=ok.ctx n hn;have low:=ok1.lay.low;have hwd:=ok.wd n hn;have hw0:=ok.words;have hsz:=ok.size n hn;have hlen:=h.len;have hrow:=hS.wait;rw[hw] at hrow;simp only;have hself:m=⟨m.data,m.clock,m.aN,upd m.aM n (m.aM n),mm.evs⟩:=by
    have:upd m.aM n (m.aM n)=m.aM:=by
     funext j
     rw[bN];split
     ·rename_i q;rw[q]
     ·rfl
    rw[this,h.evs]
   have hks:upd ks n (ks n)=ks:=by
    funext j
    rw[bN];split
    ·rename_i q;rw[q]
    ·rfl
   by_cases hlow:c.1<W.words+18
   ·right
    rw[List.filter_cons_of_pos (by simpa using hlow)] at hrow;cases hb:(m.aM n).buf with
    |nil=>rw[hb] at hrow;simp at hrow
    |cons e b=>
     refine⟨hn,by simp,?_⟩;rw[hb,List.map_cons] at hrow;obtain⟨hce,hrb⟩:=List.cons.inj hrow;have hge:1<=c.1:=by
      rw[hce];cases e with
      |dat x v=>exact(hB.low x v (by rw[hb];exact List.mem_cons_self)).1
      |lock s v=>show 1<=W.words+2+(s:Int);omega
     have hl:c.1<mm.mem.length:=by have:=ok1.lay.room;have:=ok1.lay.log;omega
     have hls:=Iq (lo:=W.lo n) (hi:=W.hi n) (mm:=mm) (iZ:=⟨mm.mem.set c.1.toNat c.2,mm.aM.set n {t with wait:=r},mm.evs⟩) hw (fun y hy=>by rw[wT (by omega) hl hy];by_cases q:y=c.1;(rw[if_pos q,if_pos q.symm]);(rw[if_neg q,if_neg (fun p=>q p.symm)];rfl)) (by omega);have hS':∀a':aO,a'={m.aM n with buf:=b}->M7 W ⟨mm.mem.set c.1.toNat c.2,mm.aM.set n {t with wait:=r},mm.evs⟩ n {t with wait:=r} a' (ks n):=by
      rintro a' rfl;exact⟨hS.code,hS.out,hS.fin,hS.oC,hrb,fun d hd=>hS.own d (by rw[hw];exact List.mem_cons_of_mem _ hd),fun hf=>by
       rw[hls];exact hS.will hf⟩
     rw[<-hks];cases e with
     |dat x v=>
      have e1:m.flush n=⟨fun y=>if y=x then v else m.data y,m.clock,m.aN,upd m.aM n {m.aM n with buf:=b},mm.evs⟩:=by
       unfold AS.flush;rw[hb,h.evs];rfl
      rw[e1];obtain rfl:c=(x,v):=hce;have hx:=hB.low x v (by rw[hb];exact List.mem_cons_self);exact h.aT ok hn ⟨hge,hlow⟩ hl (fun y _ _=>rfl) (by rw[if_neg (by simp only;omega)]) (fun s hs=>by rw[if_neg (by simp only;omega)]) (hS' _ rfl)
     |lock s v=>
      have e1:m.flush n=⟨m.data,m.clock,upd m.aN s v,upd m.aM n {m.aM n with buf:=b},mm.evs⟩:=by
       unfold AS.flush;rw[hb,h.evs];rfl
      rw[e1];obtain rfl:c=(W.words+2+(s:Int),v):=hce;exact h.aT ok hn ⟨hge,hlow⟩ hl (fun y _ _=>by rw[if_neg (by simp only;omega)]) (by rw[if_neg (by simp only;omega)]) (fun j hj=>by
       simp only[bN];by_cases q:j=s
       ·subst q;rw[if_pos rfl,if_pos rfl]
       ·rw[if_neg q,if_neg (by omega)]) (hS' _ rfl)
   ·left
    obtain⟨o1,o2⟩:W.lo n<=c.1/\c.1<W.hi n:=by
     rcases hS.own c (by rw[hw];exact List.mem_cons_self) with q|q
     ·exact absurd q hlow
     ·exact q
    rw[List.filter_cons_of_neg (by simpa using hlow)] at hrow;have hl:c.1<mm.mem.length:=by omega
    have hat:∀y,0<=y->(MM.mk (mm.mem.set c.1.toNat c.2) (mm.aM.set n {t with wait:=r}) mm.evs).at y=if y=c.1 then c.2 else mm.at y:=fun y hy=>wT (by omega) hl hy
    have hls:=Iq (lo:=W.lo n) (hi:=W.hi n) (mm:=mm) (iZ:=⟨mm.mem.set c.1.toNat c.2,mm.aM.set n {t with wait:=r},mm.evs⟩) hw (fun y hy=>by rw[wT (by omega) hl hy];by_cases q:y=c.1;(rw[if_pos q,if_pos q.symm]);(rw[if_neg q,if_neg (fun p=>q p.symm)];rfl)) (by omega);show xm W ⟨mm.mem.set c.1.toNat c.2,mm.aM.set n {t with wait:=r},mm.evs⟩ m ks;refine⟨by simp[h.n],by simp[h.len],h.evs,fun y h1 h2=>?_,?_,fun s hs=>?_,fun j u hu=>?_⟩
    ·rw[hat y (by omega),if_neg (by omega)];exact h.data y h1 h2
    ·rw[hat _ (by omega),if_neg (by omega)];exact h.clock
    ·rw[hat _ (by omega),if_neg (by omega)];exact h.aN s hs
    ·by_cases e:j=n
     ·subst e;rw[List.getElem?_set_self (by rw[h.n];exact hn)] at hu;cases hu;exact⟨hS.code,hS.out,hS.fin,hS.oC,hrow,fun d hd=>hS.own d (by rw[hw];exact List.mem_cons_of_mem _ hd),fun hf=>by
       rw[hls];exact hS.will hf⟩
     ·rw[List.getElem?_set_ne (fun q=>e q.symm)] at hu;have hj:j<W.N:=by rw[<-h.n];exact(bE.1 hu).1
      have hap:=ok.apart n j hn hj (fun q=>e q.symm);have afR:=(ok.ctx j hj).lay.low;have agI:=ok.wd j hj;exact(h.th j u hu).mem (fun y q1 q2=>by rw[hat y (by omega),if_neg (by omega)])
end
section
structure gT where
 kind:Int
 th:Int
 n:Int
deriving DecidableEq
def iE (p:gT):List Value:=[.int .u8 p.kind,.int .i64 p.th,.int .i64 p.n]
theorem qi:∀p,(iE p).length=3:=fun _=>rfl
def qA (p:gT):Int:=if p.kind=2 then min p.n 1048577*2 else min p.n 1048577
def nC (p:gT):Bool:=decide (2<p.kind)||decide (p.n<0)
def total (l:List gT):Int:=(l.map qA).sum
def eG (l:List gT):Int×Int:=
 if 65536<l.length then(0,3) else if l.any nC=true then(0,1) else if 1048576<total l then(0,3) else(total l,0)
theorem Nu (p:gT):qA p<=2097154:=by unfold qA;split<;>omega
theorem BA {p:gT} (h:nC p=false):0<=qA p:=by unfold nC at h;simp at h;unfold qA;split<;>omega
theorem mO (l:List gT) (p:gT):total (l++[p])=total l+qA p:=by simp[total]
theorem wC (l r:List gT):total (l++r)=total l+total r:=by simp[total]
theorem oJ {l:List gT} (h:l.any nC=false):0<=total l:=by
 induction l with
 |nil=>simp[total]
 |cons p r ih=>
  simp only[List.any_cons,Bool.or_eq_false_iff] at h;have:=BA h.1;have:=ih h.2;simp only[total,List.map_cons,List.sum_cons] at*;omega
variable {w w':World}
theorem Tu (w:World) (p:gT) (hn:0<=p.n):
  Calls Tryz.prog 99 #[.agg #[.int .u8 p.kind,.int .i64 p.th,.int .i64 p.n]] w fun e w'=>e= .returned (.int .i64 (qA p))/\Below w.heap.size w w':=by
 go_in;by_cases hk:p.kind=2
 ·go_wp2_with fail;all_goals
   go_ret;refine⟨?_,(aQ _ _).alloc (aR _) _⟩;simp[qA,wrap64,hk];omega
 ·go_wp2_with fail;all_goals
   go_ret;refine⟨?_,(aQ _ _).alloc (aR _) _⟩;simp[qA,hk];omega
theorem Kq {ao:Option Addr} {cap:Nat} {l:List gT} (h:fI iE w 3 (.slice ao l.length cap) l) (hm:l.length<=9000000000000) (hn:∀p∈l, -9223372036854775808<=p.n/\0<=p.kind):
  Calls Tryz.prog 61 #[.slice ao l.length cap] w fun e w'=>e= .returned (.tuple #[.int .i64 (eG l).1,.int .i64 (eG l).2])/\Below w.heap.size w w':=by
 have H:=ag h;have HN:=ag hn;clear h hn;go_in;by_cases hb:65536<l.length
 ·go_wp2_with fail
  go_ret2
  unfold eG;rw[if_pos hb];exact⟨rfl,aQ _ _⟩
 ·have h1:¬((l.length:Int)>65536):=by omega
  go_wp2_with fail;go_loopw [14] (fun i w'=>∃k:Nat,k<=l.length/\i= .int .i64 (k:Int)/\Hid (Below w.heap.size w w')/\Hid ((l.take k).any nC=false)) (fun i _=>((l.length:Int) - intOf i).toNat)
  case atStart=>exact⟨0,by omega,rfl,ag (aQ _ _),ag rfl⟩
  case round=>
   obtain⟨k,hk,rfl,HB,hall⟩:=hrel;by_cases hlt:k<l.length
   ·obtain⟨x,hx⟩:=bW hlt;obtain⟨b1,o1,rfl,hs1,hc1⟩:=fI.at qi (Rd.below H.out HB.out) hx;have x0:=hc1 0 _ rfl;have x1:=hc1 1 _ rfl;have x2:=hc1 2 _ rfl;simp only[Nat.add_zero] at x0;clear hc1 hs1;by_cases hbad:nC x=true
    ·have hv:eG l=(0,1):=by unfold eG;rw[if_neg hb,if_pos (List.any_eq_true.2 ⟨x,bA hx,hbad⟩)]
     unfold nC at hbad;simp only[Bool.or_eq_true,decide_eq_true_eq] at hbad;have HV:=ag hv;clear hv hall;by_cases h2:x.kind>2
     ·clear hbad;go_wp2_with fail
      go_ret2
      rw[HV.out];exact⟨rfl,HB.out.alloc HB.out.size _⟩
     ·have h3:x.n<0:=by omega
      clear hbad;go_wp2_with fail
      go_ret2
      rw[HV.out];exact⟨rfl,HB.out.alloc HB.out.size _⟩
    ·have hk2:¬(x.kind>2):=by unfold nC at hbad;simp at hbad;omega
     have hn2:¬(x.n<0):=by unfold nC at hbad;simp at hbad;omega
     have HX:=ag hx;have HBAD:=ag hbad;clear hbad hx;go_wp2_with fail;refine⟨⟨k+1,by omega,by go_num,ag (HB.out.alloc HB.out.size _),ag ?_⟩,by simp[intOf];omega⟩;rw[dx HX.out,List.any_append,hall.out];simpa using HBAD.out
   ·obtain rfl:k=l.length:=by omega
    have Dj:=hall.out;rw[List.take_length] at Dj;have HA:=ag Dj;clear hall Dj;obtain⟨w1,rfl⟩:∃w1,w1=wr:=⟨_,rfl⟩;go_wp2_with fail;go_loopw [4,29] (fun nv i w'=>∃k:Nat,k<=l.length/\i= .int .i64 (k:Int)/\nv= .int .i64 (total (l.take k))/\total (l.take k)<=1048576/\Hid (Below w.heap.size w w')) (fun nv i _=>((l.length:Int) - intOf i).toNat)
    case atStart=>exact⟨0,by omega,rfl,rfl,by simp[total],HB⟩
    case round=>
     obtain⟨k,hk,rfl,rfl,htot,HB⟩:=hrel;by_cases hlt:k<l.length
     ·obtain⟨x,hx⟩:=bW hlt;obtain⟨b1,o1,rfl,hs1,hc1⟩:=fI.at qi (Rd.below H.out HB.out) hx;have x0:=hc1 0 _ rfl;have x1:=hc1 1 _ rfl;have x2:=hc1 2 _ rfl;simp only[Nat.add_zero] at x0;have hbx:nC x=false:=by
       have:=List.any_eq_false.1 HA.out x (bA hx);simpa using this
      have hng:0<=x.n:=by unfold nC at hbx;simp at hbx;omega
      have hp0:=BA hbx;have hp1:=Nu x;have ht0:0<=total (l.take k):=oJ (by
       refine List.any_eq_false.2 fun y hy=>?_
       exact List.any_eq_false.1 HA.out y (List.mem_of_mem_take hy))
      have hsn:total (l.take (k+1))=total (l.take k)+qA x:=by rw[dx hx,mO]
      have hle:total (l.take (k+1))<=total l:=by
       have h1:=wC (l.take (k+1)) (l.drop (k+1));rw[List.take_append_drop] at h1;have:0<=total (l.drop (k+1)):=oJ (by
        refine List.any_eq_false.2 fun y hy=>?_
        exact List.any_eq_false.1 HA.out y (List.mem_of_mem_drop hy))
       omega
      have Xe:=ag hle;have HX:=ag hx;clear hc1 hs1 hx hbx hle;go_wp2_with fail;refine(Tu _ x hng).mono ?_;rintro e w2 ⟨rfl,hb2⟩;have HB2:=ag ((HB.out.alloc HB.out.size _).trans (hb2.mono (by have:=HB.out.size;simp;omega)));clear hb2;have YJ:=ag hsn;clear hsn;generalize hT:total (l.take k)=T at*;generalize hP:qA x=pl at*;clear hT hP;by_cases hgt:T+pl>1048576
      ·go_wp2_with fail
       go_ret2
       have hv:eG l=(0,3):=by unfold eG;rw[if_neg hb,if_neg (by rw[HA.out];decide),if_pos (by have:=Xe.out;have:=YJ.out;omega)]
       rw[hv];exact⟨rfl,HB2.out⟩
      ·go_wp2_with fail;exact⟨⟨k+1,by omega,by go_num,by rw[YJ.out],by rw[YJ.out];omega,HB2⟩,by simp[intOf];omega⟩
     ·obtain rfl:k=l.length:=by omega
      go_wp2_with fail
      go_ret2
      rw[List.take_length] at htot⊢;refine⟨?_,HB.out⟩;have hv:eG l=(total l,0):=by unfold eG;rw[if_neg hb,if_neg (by rw[HA.out];decide),if_neg (by omega)]
      rw[hv];rfl
end
theorem cK {w:World} {base:Nat} {e:TypeId} {size:Nat} {v:Value} {n:Nat} {xs:List Value} (h:w.ownsRow base e size v n xs) {g:Nat} (hg:v.ownBlock=some g):base<=g/\g<w.heap.size:=by
 rcases h.2 with⟨rfl,_⟩|⟨g',cap,cur,rfl,hb,hgg,_⟩
 ·cases hg
 ·simp only[Value.ownBlock,bU] at hg;subst hg;exact⟨hb,lt_of_block hgg⟩
theorem FX {α:Type} {enc:α->List Value} {sz:Nat} (he:∀a,(enc a).length=sz) (l:List α):∀{k:Nat} {x y:α} {j:Nat} {u:Value},l[k]? =some x->enc y=(enc x).set j u->j<sz->(l.set k y).flatMap enc=(l.flatMap enc).set (k*sz+j) u:=by
 induction l with
 |nil=>intro k x y j u h;simp at h
 |cons a l ih=>
  intro k x y j u h hy hj;cases k with
  |zero=>
   simp only[List.getElem?_cons_zero,bU] at h;subst h;rw[List.set_cons_zero,List.flatMap_cons,List.flatMap_cons,hy,Nat.zero_mul,Nat.zero_add,List.set_append_left _ _ (by rw[he];exact hj)]
  |succ k=>
   simp only[List.getElem?_cons_succ] at h;rw[List.set_cons_succ,List.flatMap_cons,List.flatMap_cons,ih h hy hj,List.set_append_right _ _ (by rw[he,Nat.add_mul];omega),he];congr 2
   rw[Nat.add_mul];omega
theorem xM {α:Type} {enc:α->List Value} {sz:Nat} (he:∀a,(enc a).length=sz) {w:World} {base:Nat} {e:TypeId} {g o n c:Nat} {l:List α} (h:w.ownsRow base e sz (.slice (some ⟨g,o,none⟩) n c) n (l.flatMap enc))
  {k:Nat} {x y:α} {j:Nat} {u:Value} (hx:l[k]? =some x) (hy:enc y=(enc x).set j u) (hj:j<sz):
  o=0/\(w.setCell ⟨g,k*sz+j,none⟩ u).ownsRow base e sz (.slice (some ⟨g,o,none⟩) n c) n ((l.set k y).flatMap enc):=by
 rcases h.2 with⟨hv,_⟩|⟨g',cap,cur,hv,hb,hg,hc,hm,hs,ht⟩
 ·simp at hv
 ·simp only[Value.slice.injEq,bU,Addr.mk.injEq,and_true,true_and] at hv;obtain⟨⟨rfl,rfl⟩,rfl⟩:=hv;refine⟨rfl,by rw[FX he l hx hy hj,List.length_set];exact h.1,.inr ⟨g,c,cur.setIfInBounds (k*sz+j) u,rfl,hb,aK u hg,hc,hm,by simpa using hs,?_⟩⟩;rw[Array.toList_setIfInBounds,List.take_set,ht,FX he l hx hy hj]
theorem aP {w w':World} {base:Nat} {e:TypeId} {size:Nat} {v:Value} {n:Nat} {xs:List Value} (h:w.ownsRow base e size v n xs) (hk:∀g,v.ownBlock=some g->g<w.heap.size->w'.heap[g]? =w.heap[g]?):w'.ownsRow base e size v n xs:=by
 refine⟨h.1,?_⟩;rcases h.2 with hn|⟨g',cap,cur,rfl,hb,hgg,rest⟩
 ·exact .inl hn
 ·refine .inr ⟨g',cap,cur,rfl,hb,?_,rest⟩;rw[hk g' rfl (Array.getElem?_eq_some_iff.1 hgg).1];exact hgg
section
def mF (x:Ev):List Value:=[.int .i64 x.th,.int .u8 x.k,.int .i64 x.a,.int .i64 x.b]
theorem Oq:∀a,(mF a).length=4:=fun _=>rfl
def encI (z:Int):List Value:=[.int .i64 z]
theorem jL:∀a,(encI a).length=1:=fun _=>rfl
structure TX where
 th:MT
 cv:Value
 bb:Nat
 ov:Value
def sN (x:TX):List Value:=
 [x.cv,.int .i64 (x.th.reg 0),.int .i64 (x.th.reg 1),.int .i64 (x.th.reg 2),.int .i64 (x.th.reg 3),.int .i64 (x.th.reg 4),.int .i64 (x.th.reg 5),.int .i64 (x.th.reg 6),.int .i64 (x.th.reg 7),
  .int .i64 x.th.at_,.pointer (some ⟨x.bb,0,none⟩),x.ov,.int .u8 x.th.fin]
theorem vD:∀x,(sN x).length=13:=fun _=>rfl
theorem vX (x:TX):∀r,r<8->(sN x)[1+r]? =some (.int .i64 (x.th.reg r))
 |0,_=>rfl|1,_=>rfl|2,_=>rfl|3,_=>rfl|4,_=>rfl|5,_=>rfl|6,_=>rfl|7,_=>rfl
 |n+8,h=>absurd h (by omega)
theorem IM (x:TX) (v:Int):∀r,r<8->sN {x with th:={x.th with reg:=upd x.th.reg r v}}=(sN x).set (1+r) (.int .i64 v)
 |0,_=>rfl|1,_=>rfl|2,_=>rfl|3,_=>rfl|4,_=>rfl|5,_=>rfl|6,_=>rfl|7,_=>rfl
 |n+8,h=>absurd h (by omega)
structure VH (w:World) (base:Nat) (own:Nat->Nat) (i:Nat) (x:TX):Prop where
 code:fI bR w 6 x.cv x.th.code
 kX:∀g,x.th.code≠[]->x.cv.ownBlock=some g->base<=g/\own g=5+3*i
 ring:∃c f,Ring w x.bb x.th.wait c f
 pQ:base<=x.bb/\own x.bb=6+3*i
 out:w.ownsRow base 2 1 x.ov x.th.out.length (x.th.out.flatMap encI)
 outT:∀g,x.ov.ownBlock=some g->own g=7+3*i
structure eZ (w:World) (base b:Nat) (own:Nat->Nat) (mm:MM) (xs:List TX) (mv tv ev:Value):Prop where
 blk:w.heap[b]? =some (.cells #[.bool true,mv,tv,ev] 179 (0,0))
 bT:base<=b/\own b=1
 mem:w.ownsRow base 2 1 mv mm.mem.length (mm.mem.flatMap encI)
 memT:∀g,mv.ownBlock=some g->own g=2
 aM:w.ownsRow base 184 13 tv xs.length (xs.flatMap sN)
 fo:∀g,tv.ownBlock=some g->own g=3
 evs:w.ownsRow base 127 4 ev mm.evs.length (mm.evs.flatMap mF)
 jI:∀g,ev.ownBlock=some g->own g=4
 same:mm.aM=xs.map TX.th
 th:∀(i:Nat) x,xs[i]? =some x->VH w base own i x
 fresh:∀k,w.heap.size<=k->own k=0
theorem fI.yN {α:Type} {enc:α->List Value} {w w':World} {sz:Nat} {v:Value} {l:List α} (h:fI enc w sz v l) (hk:∀g,l≠[]->v.ownBlock=some g->g<w.heap.size->w'.heap[g]? =w.heap[g]?):fI enc w' sz v l:=by
 by_cases e:l=[]
 ·subst e;obtain⟨h1,ao,cap,h2,h3,h4⟩:=h;exact⟨h1,ao,cap,h2,h3,fun hn=>absurd hn (by simp)⟩
 ·exact h.keep fun g hg hl=>hk g e hg hl
theorem VH.keep {w w':World} {base:Nat} {own own':Nat->Nat} {i:Nat} {x:TX} (h:VH w base own i x) (ho:∀k,k<w.heap.size->own' k=own k)
  (hk:∀g,own g=5+3*i\/own g=6+3*i\/own g=7+3*i->g<w.heap.size->w'.heap[g]? =w.heap[g]?):VH w' base own' i x:=by
 obtain⟨c,f,hr⟩:=h.ring;refine⟨h.code.yN fun g hn hg hl=>hk g (.inl (h.kX g hn hg).2) hl,fun g hn hg=>?_,⟨c,f,hr.keep (hk _ (.inr (.inl h.pQ.2)) hr.lt)⟩,⟨h.pQ.1,by rw[ho _ hr.lt];exact h.pQ.2⟩,
  aP h.out fun g hg hl=>hk g (.inr (.inr (h.outT g hg))) hl,fun g hg=>by rw[ho _ (cK h.out hg).2];exact h.outT g hg⟩
 refine⟨(h.kX g hn hg).1,?_⟩;obtain⟨h1,ao,cap,h2,h3,h4⟩:=h.code;obtain⟨b,off,rfl,hb,_⟩:=h4 (List.length_pos_iff.2 hn);rw[h2] at hg;simp only[Value.ownBlock,bU] at hg;subst hg;rw[ho _ hb];exact(h.kX b hn (by rw[h2];rfl)).2
variable {w w':World} {base b:Nat} {own own':Nat->Nat} {mm:MM} {xs:List TX} {mv tv ev:Value}
theorem eZ.lt (h:eZ w base b own mm xs mv tv ev):b<w.heap.size:=lt_of_block h.blk
theorem eZ.eX (h:eZ w base b own mm xs mv tv ev):base<=w.heap.size:=Nat.le_trans h.bT.1 (Nat.le_of_lt h.lt)
theorem eZ.keep (h:eZ w base b own mm xs mv tv ev) (hs:w.heap.size<=w'.heap.size) (hk:∀g,own g≠0->g<w.heap.size->w'.heap[g]? =w.heap[g]?):eZ w' base b own mm xs mv tv ev:=
 ⟨(hk b (by rw[h.bT.2];decide) h.lt).trans h.blk,h.bT,aP h.mem fun g hg hl=>hk g (by rw[h.memT g hg];decide) hl,h.memT,
  aP h.aM fun g hg hl=>hk g (by rw[h.fo g hg];decide) hl,h.fo,
  aP h.evs fun g hg hl=>hk g (by rw[h.jI g hg];decide) hl,h.jI,h.same,
  fun i x hx=>(h.th i x hx).keep (fun _ _=>rfl) fun g hg hl=>hk g (by omega) hl,fun k hk'=>h.fresh k (by omega)⟩
theorem eZ.below (h:eZ w base b own mm xs mv tv ev) (hb:Below w.heap.size w w'):eZ w' base b own mm xs mv tv ev:=h.keep hb.size fun g _ hl=>hb.block g hl
theorem eZ.drewN (h:eZ w base b own mm xs mv tv ev) (n:Nat):eZ (w.drewN n) base b own mm xs mv tv ev:=h.keep (aR _) fun g _ hl=>rfl
theorem eZ.drew (h:eZ w base b own mm xs mv tv ev):eZ w.drew base b own mm xs mv tv ev:=h.keep (aR _) fun g _ hl=>rfl
theorem eZ.GZ {S:Nat->Prop} (h:eZ w base b own mm xs mv tv ev) (hc:bH S w w') (hs:∀k,own k≠0->¬S k):eZ w' base b own mm xs mv tv ev:=h.keep hc.size fun g hg hl=>hc.block g hl (hs g hg)
theorem bG (w:World) (p:Addr) (u:Value):(w.setCell p u).heap.size=w.heap.size:=by simp[World.setCell]
theorem gM {α:Type} {l:List α} {n:Nat} {x:α} (h:l[n]? =some x) (y:α):(l.set n y)[n]? =some y:=by
 rw[List.getElem?_set_self (bE.1 h).1]
theorem eZ.AU (h:eZ w base b own mm xs mv tv ev) {n:Nat} {x:TX} (hx:xs[n]? =some x):mm.aM[n]? =some x.th:=by rw[h.same];simp[hx]
theorem eZ.xE (h:eZ w base b own mm xs mv tv ev) {n:Nat} {x:TX} (hx:xs[n]? =some x):∃tb cap,tv= .slice (some ⟨tb,0,none⟩) xs.length cap/\own tb=3:=by
 have hl:=(bE.1 hx).1;obtain⟨ao,cap,rfl⟩:=bF h.aM;obtain⟨tb,cur,rfl,_⟩:=h_ h.aM (by omega);exact⟨tb,cap,rfl,h.fo tb rfl⟩
theorem eZ.cell {tb cap:Nat} (h:eZ w base b own mm xs mv (.slice (some ⟨tb,0,none⟩) xs.length cap) ev) {n:Nat} {x:TX} (hx:xs[n]? =some x) (j:Nat) (u:Value) (hu:(sN x)[j]? =some u):w.cell? ⟨tb,n*13+j,none⟩=some u:=by
 obtain⟨b',off,e1,hb,hc⟩:=fI.at (enc:=sN) vD (Rd.iV h.aM) hx;simp only[bU,Addr.mk.injEq,and_true] at e1;obtain⟨rfl,rfl⟩:=e1;have:=hc j u hu
 rwa [Nat.zero_add] at this
theorem eZ.free {tb cap:Nat} (h:eZ w base b own mm xs mv (.slice (some ⟨tb,0,none⟩) xs.length cap) ev) (hn:0<xs.length) (o:Nat):w.frozen? ⟨tb,o,none⟩=false:=by
 obtain⟨tb',cur,e1,_,hg,_⟩:=h_ h.aM hn;simp only[bU,Addr.mk.injEq,and_true] at e1;subst e1;exact aJ hg
theorem eZ.iA (h:eZ w base b own mm xs mv tv ev) (j:Nat) (u:Value) (hu:(#[Value.bool true,mv,tv,ev])[j]? =some u):w.cell? ⟨b,j,none⟩=some u:=af h.blk hu
theorem eZ.WI (h:eZ w base b own mm xs mv tv ev) (o:Nat):w.frozen? ⟨b,o,none⟩=false:=aJ h.blk
theorem eZ.aT {tb cap:Nat} (h:eZ w base b own mm xs mv (.slice (some ⟨tb,0,none⟩) xs.length cap) ev) {n:Nat} {x:TX} (hx:xs[n]? =some x) (y:TX) (j:Nat) (u:Value) (hj:j<13) (he:sN y=(sN x).set j u)
  (h1:y.cv=x.cv) (h2:y.th.code=x.th.code) (h3:y.bb=x.bb) (h4:y.th.wait=x.th.wait) (h5:y.ov=x.ov) (h6:y.th.out=x.th.out):
  eZ (w.setCell ⟨tb,n*13+j,none⟩ u) base b own (mm.put n y.th) (xs.set n y) mv (.slice (some ⟨tb,0,none⟩) (xs.set n y).length cap) ev:=by
 have hk:∀g,own g≠3->(w.setCell ⟨tb,n*13+j,none⟩ u).heap[g]? =w.heap[g]?:=fun g hg=>dO _ _ _ _ fun e=>hg (by rw[e];exact h.fo tb rfl)
 have hr:=(xM vD h.aM hx he hj).2;refine⟨by rw[List.length_set];exact(hk b (by rw[h.bT.2];decide)).trans h.blk,h.bT,aP h.mem fun g hg _=>hk g (by rw[h.memT g hg];decide),h.memT,by rw[List.length_set];exact hr,h.fo,aP h.evs fun g hg _=>hk g (by rw[h.jI g hg];decide),h.jI,
  by rw[MM.put,List.map_set,h.same],fun i z hz=>?_,fun k hk'=>h.fresh k (by rw[bG] at hk';exact hk')⟩
 rw[List.getElem?_set] at hz;split at hz
 ·rename_i e;subst e;split at hz
  ·cases hz;have ht:=(h.th n x hx).keep (w':=w.setCell ⟨tb,n*13+j,none⟩ u) (own':=own) (fun _ _=>rfl) fun g hg _=>hk g (by omega)
   exact⟨by rw[h1,h2];exact ht.code,by rw[h1,h2];exact ht.kX,by rw[h3,h4];exact ht.ring,by rw[h3];exact ht.pQ,by rw[h5,h6];exact ht.out,by rw[h5];exact ht.outT⟩
  ·cases hz
 ·exact(h.th i z hz).keep (fun _ _=>rfl) fun g hg _=>hk g (by omega)
theorem eZ.Rc (h:eZ w base b own mm xs mv tv ev) {n:Nat} {x:TX} (hx:xs[n]? =some x) (hc:bH (fun k=>k=x.bb) w w') {q:List (Int×Int)} {c:Array Value} {f:Nat} (hr:Ring w' x.bb q c f):
  eZ w' base b own (mm.put n {x.th with wait:=q}) (xs.set n {x with th:={x.th with wait:=q}}) mv tv ev:=by
 have hb:=(h.th n x hx).pQ;have hk:∀g,own g≠6+3*n->g<w.heap.size->w'.heap[g]? =w.heap[g]?:=fun g hg hl=>hc.block g hl fun e=>hg (by rw[e];exact hb.2)
 have hs:(xs.set n {x with th:={x.th with wait:=q}}).flatMap sN=xs.flatMap sN:=by
  refine List.ext_getElem? fun k=>?_
  have:=FX (j:=0) (u:=x.cv) vD xs hx (y:={x with th:={x.th with wait:=q}}) rfl (by decide);rw[this,List.getElem?_set];split
  ·rename_i e;subst e;have h9:=pY vD xs hx 0 x.cv rfl;rw[h9,if_pos (bE.1 h9).1]
  ·rfl
 refine⟨(hk b (by rw[h.bT.2];omega) h.lt).trans h.blk,h.bT,aP h.mem fun g hg hl=>hk g (by rw[h.memT g hg];omega) hl,h.memT,by rw[List.length_set,hs];exact aP h.aM fun g hg hl=>hk g (by rw[h.fo g hg];omega) hl,h.fo,
  aP h.evs fun g hg hl=>hk g (by rw[h.jI g hg];omega) hl,h.jI,by rw[MM.put,List.map_set,h.same],fun i z hz=>?_,fun k hk'=>h.fresh k (by have:=hc.size;omega)⟩
 rw[List.getElem?_set] at hz;split at hz
 ·rename_i e;subst e;split at hz
  ·cases hz;have ht:=h.th n x hx;refine⟨ht.code.yN fun g hn hg hl=>hk g (by rw[(ht.kX g hn hg).2];omega) hl,ht.kX,⟨c,f,hr⟩,hb,aP ht.out fun g hg hl=>hk g (by rw[ht.outT g hg];omega) hl,ht.outT⟩
  ·cases hz
 ·rename_i hne;exact(h.th i z hz).keep (fun _ _=>rfl) fun g hg hl=>hk g (by omega) hl
theorem eZ.word {mb mc:Nat} (h:eZ w base b own mm xs (.slice (some ⟨mb,0,none⟩) mm.mem.length mc) tv ev) {a:Nat} (ha:a<mm.mem.length) (v:Int):
  eZ (w.setCell ⟨mb,a,none⟩ (.int .i64 v)) base b own {mm with mem:=mm.mem.set a v} xs (.slice (some ⟨mb,0,none⟩) mm.mem.length mc) tv ev:=by
 have hk:∀g,own g≠2->(w.setCell ⟨mb,a,none⟩ (.int .i64 v)).heap[g]? =w.heap[g]?:=fun g hg=>dO _ _ _ _ fun e=>hg (by rw[e];exact h.memT mb rfl)
 have hr:=(xM (j:=0) (y:=v) (u:=.int .i64 v) jL h.mem (dZ ha) rfl (by decide)).2;rw[Nat.mul_one,Nat.add_zero] at hr;exact⟨(hk b (by rw[h.bT.2];decide)).trans h.blk,h.bT,by rw[List.length_set];exact hr,h.memT,aP h.aM fun g hg _=>hk g (by rw[h.fo g hg];decide),h.fo,aP h.evs fun g hg _=>hk g (by rw[h.jI g hg];decide),h.jI,h.same,
  fun i z hz=>(h.th i z hz).keep (fun _ _=>rfl) fun g hg _=>hk g (by omega),fun k hk'=>h.fresh k (by rw[bG] at hk';exact hk')⟩
theorem eZ.nZ (h:eZ w base b own mm xs mv tv ev) (hm:0<mm.mem.length):∃mb cap,mv= .slice (some ⟨mb,0,none⟩) mm.mem.length cap/\own mb=2:=by
 obtain⟨ao,cap,rfl⟩:=bF h.mem;obtain⟨mb,cur,rfl,_⟩:=h_ h.mem hm;exact⟨mb,cap,rfl,h.memT mb rfl⟩
theorem eZ.yZ {mb mc:Nat} (h:eZ w base b own mm xs (.slice (some ⟨mb,0,none⟩) mm.mem.length mc) tv ev) {a:Nat} (ha:a<mm.mem.length):w.cell? ⟨mb,a,none⟩=some (.int .i64 (mm.mem.getD a 0)):=by
 obtain⟨b',off,e1,hb,hc⟩:=fI.at (enc:=encI) jL (Rd.iV h.mem) (dZ ha);simp only[bU,Addr.mk.injEq,and_true] at e1;obtain⟨rfl,rfl⟩:=e1;have:=hc 0 _ rfl;rw[Nat.zero_add,Nat.mul_one,Nat.add_zero] at this;rw[this];simp[List.getD,ha]
theorem eZ.Cv {mb mc:Nat} (h:eZ w base b own mm xs (.slice (some ⟨mb,0,none⟩) mm.mem.length mc) tv ev) (hn:0<mm.mem.length) (o:Nat):w.frozen? ⟨mb,o,none⟩=false:=by
 obtain⟨tb',cur,e1,_,hg,_⟩:=h_ h.mem hn;simp only[bU,Addr.mk.injEq,and_true] at e1;subst e1;exact aJ hg
def retag (own:Nat->Nat) (v:Value) (p n:Nat):Nat->Nat:=fun k=>if v.ownBlock=some k/\n<=k then p else own k
theorem iT {own:Nat->Nat} {v:Value} {p n k:Nat} (h:k<n):retag own v p n k=own k:=by
 unfold retag;rw[if_neg (by omega)]
theorem qd {own:Nat->Nat} {v u:Value} {p n g:Nat} (hf:∀g,v.ownBlock=some g->u.ownBlock=some g\/n<=g) (hu:∀g,u.ownBlock=some g->own g=p) (hg:v.ownBlock=some g):retag own v p n g=p:=by
 unfold retag;split
 ·rfl
 ·rename_i hn;rcases hf g hg with e|e
  ·exact hu g e
  ·exact absurd ⟨hg,e⟩ hn
theorem m_ {own:Nat->Nat} {v:Value} {p n m k:Nat} (hl:∀g,v.ownBlock=some g->g<m) (h0:own k=0) (hk:m<=k):retag own v p n k=0:=by
 unfold retag;rw[if_neg (fun h=>by have:=hl k h.1;omega)];exact h0
theorem eZ.event (h:eZ w base b own mm xs mv tv ev) (es:List Ev) (ev':Value) (hc:bH (fun k=>k=b\/ev.ownBlock=some k) w w') (hb:w'.heap[b]? =some (.cells #[.bool true,mv,tv,ev'] 179 (0,0)))
  (he:w'.ownsRow base 127 4 ev' es.length (es.flatMap mF)) (hf:∀g,ev'.ownBlock=some g->ev.ownBlock=some g\/w.heap.size<=g):
  eZ w' base b (retag own ev' 4 w.heap.size) {mm with evs:=es} xs mv tv ev':=by
 have ho:∀k,k<w.heap.size->retag own ev' 4 w.heap.size k=own k:=fun k hk=>iT hk
 have hk:∀g,own g≠1->own g≠4->g<w.heap.size->w'.heap[g]? =w.heap[g]?:=fun g h1 h4 hl=>hc.block g hl fun e=>by
  rcases e with e|e
  ·exact h1 (by rw[e];exact h.bT.2)
  ·exact h4 (h.jI g e)
 exact⟨hb,⟨h.bT.1,by rw[ho _ h.lt];exact h.bT.2⟩,aP h.mem fun g hg hl=>hk g (by rw[h.memT g hg];decide) (by rw[h.memT g hg];decide) hl,fun g hg=>by rw[ho _ (cK h.mem hg).2];exact h.memT g hg,
  aP h.aM fun g hg hl=>hk g (by rw[h.fo g hg];decide) (by rw[h.fo g hg];decide) hl,fun g hg=>by rw[ho _ (cK h.aM hg).2];exact h.fo g hg,he,fun g hg=>qd hf h.jI hg,h.same,
  fun i z hz=>(h.th i z hz).keep ho fun g hg hl=>hk g (by omega) (by omega) hl,fun k hk'=>m_ (fun g hg=>(cK he hg).2) (h.fresh k (by have:=hc.size;omega)) hk'⟩
theorem eZ.told {tb cap:Nat} (h:eZ w base b own mm xs mv (.slice (some ⟨tb,0,none⟩) xs.length cap) ev) {n:Nat} {x:TX} (hx:xs[n]? =some x) (os:List Int) (SA:Value) (hc:bH (fun k=>x.ov.ownBlock=some k) w w')
  (he:w'.ownsRow base 2 1 SA os.length (os.flatMap encI)) (hf:∀g,SA.ownBlock=some g->x.ov.ownBlock=some g\/w.heap.size<=g):
  eZ (w'.setCell ⟨tb,n*13+11,none⟩ SA) base b (retag own SA (7+3*n) w.heap.size) (mm.put n {x.th with out:=os}) (xs.set n {x with th:={x.th with out:=os},ov:=SA}) mv (.slice (some ⟨tb,0,none⟩) (xs.set n {x with th:={x.th with out:=os},ov:=SA}).length cap) ev:=by
 have ho:∀k,k<w.heap.size->retag own SA (7+3*n) w.heap.size k=own k:=fun k hk=>iT hk
 have hx7:=(h.th n x hx).outT;have hk0:∀g,own g≠7+3*n->g<w.heap.size->w'.heap[g]? =w.heap[g]?:=fun g h1 hl=>hc.block g hl fun e=>h1 (hx7 g e)
 have hk:∀g,own g≠3->own g≠7+3*n->g<w.heap.size->(w'.setCell ⟨tb,n*13+11,none⟩ SA).heap[g]? =w.heap[g]?:=fun g h3 h7 hl=>by
  rw[dO _ _ _ _ fun e=>h3 (by rw[e];exact h.fo tb rfl)];exact hk0 g h7 hl
 have htb:tb<w.heap.size:=(cK h.aM rfl).2;have hr:=(xM (j:=11) (y:={x with th:={x.th with out:=os},ov:=SA}) (u:=SA) vD (aP h.aM fun g hg hl=>hk0 g (by rw[h.fo g hg];omega) hl) hx rfl (by decide)).2;have R9:∀g,SA.ownBlock=some g->g≠tb:=fun g hg e=>by
  rcases hf g hg with e'|e'
  ·have:=hx7 g e';rw[e,h.fo tb rfl] at this;omega
  ·omega
 refine⟨by rw[List.length_set];exact(hk b (by rw[h.bT.2];decide) (by rw[h.bT.2];omega) h.lt).trans h.blk,⟨h.bT.1,by rw[ho _ h.lt];exact h.bT.2⟩,aP h.mem fun g hg hl=>hk g (by rw[h.memT g hg];decide) (by rw[h.memT g hg];omega) hl,fun g hg=>by rw[ho _ (cK h.mem hg).2];exact h.memT g hg,
  by rw[List.length_set];exact hr,fun g hg=>by rw[ho _ (cK h.aM hg).2];exact h.fo g hg,aP h.evs fun g hg hl=>hk g (by rw[h.jI g hg];decide) (by rw[h.jI g hg];omega) hl,fun g hg=>by rw[ho _ (cK h.evs hg).2];exact h.jI g hg,
  by rw[MM.put,List.map_set,h.same],fun i z hz=>?_,fun k hk'=>by rw[bG] at hk';exact m_ (fun g hg=>(cK he hg).2) (h.fresh k (by have:=hc.size;omega)) hk'⟩
 rw[List.getElem?_set] at hz;split at hz
 ·rename_i e;subst e;split at hz
  ·cases hz;have ht:=h.th n x hx;obtain⟨c,f,hrg⟩:=ht.ring;have htk:=ht;refine⟨ht.code.yN fun g hn hg hl=>hk g (by rw[(ht.kX g hn hg).2];omega) (by rw[(ht.kX g hn hg).2];omega) hl,fun g hn hg=>?_,⟨c,f,hrg.keep (hk _ (by rw[ht.pQ.2];omega) (by rw[ht.pQ.2];omega) hrg.lt)⟩,
    ⟨ht.pQ.1,by rw[ho _ hrg.lt];exact ht.pQ.2⟩,aP he fun g hg _=>dO _ _ _ _ (R9 g hg),fun g hg=>qd hf hx7 hg⟩
   refine⟨(ht.kX g hn hg).1,?_⟩;obtain⟨h1,ao,cp,h2,h3,h4⟩:=ht.code;obtain⟨bb,off,rfl,hb,_⟩:=h4 (List.length_pos_iff.2 hn);rw[h2] at hg;simp only[Value.ownBlock,bU] at hg;subst hg;rw[ho _ hb];exact(ht.kX bb hn (by rw[h2];rfl)).2
  ·cases hz
 ·rename_i hne;exact(h.th i z hz).keep ho fun g hg hl=>hk g (by omega) (by omega) hl
def nA (w:World) (base b:Nat) (own:Nat->Nat) (iZ:MM) (w':World):Prop:=
 (∃own' xs mv tv ev,eZ w' base b own' iZ xs mv tv ev/\∀k,k<w.heap.size->own' k=own k)/\bH (fun k=>own k≠0/\¬(5<=own k/\own k%3=2)) w w'
end
section
variable {w w':World} {base b:Nat} {own own':Nat->Nat} {mm:MM} {xs:List TX} {mv tv ev:Value}
theorem vK {tb cap:Nat} (h:eZ w base b own mm xs mv (.slice (some ⟨tb,0,none⟩) xs.length cap) ev) {n:Nat} {x:TX} (hx:xs[n]? =some x):
  Calls Tryz.prog 100 #[.pointer (some ⟨b,0,none⟩),.int .i64 (n:Int)] w fun r w'=>r= .returned (.pointer (some ⟨tb,n*13,none⟩))/\w'=w:=by
 have c0:=h.iA 0 _ rfl;have c2:=h.iA 2 _ rfl;have hn:n<xs.length:=(bE.1 hx).1;clear h hx;go_in;go_wp2_with fail;go_ret;exact⟨rfl,rfl⟩
theorem WQ (h:eZ w base b own mm xs mv tv ev) {z:Int} (hz:z<0\/xs.length<=z):
  Calls Tryz.prog 100 #[.pointer (some ⟨b,0,none⟩),.int .i64 z] w fun r w'=>r= .returned (.pointer none)/\w'=w:=by
 obtain⟨ao,cp,rfl⟩:=bF h.aM;have c0:=h.iA 0 _ rfl;have c2:=h.iA 2 _ rfl;clear h;by_cases h0:z<0
 ·go_in;go_wp2_with fail;go_ret;exact⟨rfl,rfl⟩
 ·have h1:(xs.length:Int)<=z:=by omega
  clear hz;go_in;go_wp2_with fail;go_ret;exact⟨rfl,rfl⟩
theorem JI (h:eZ w base b own mm xs mv tv ev) {a:Int} (ha:0<=a/\a<mm.mem.length) (hl:mm.mem.length<=262144):
  Calls Tryz.prog 141 #[.pointer (some ⟨b,0,none⟩),.int .i64 a] w fun r w'=>r= .returned (.int .i64 a)/\w'=w:=by
 obtain⟨ao,cp,rfl⟩:=bF h.mem;have c1:=h.iA 1 _ rfl;have e1:IntKind.i64.wrap (mm.mem.length:Int)=mm.mem.length:=IntWalk.i64_in _ (by omega);have e2:IntKind.i64.wrap a=a:=IntWalk.i64_in _ (by omega);clear h;go_in;go_wp2_with fail;go_ret;exact⟨rfl,rfl⟩
def qP (k:Int):PanicEntry:={v:=.iface 188 (.int .u8 k),recovered:=false}
theorem Ei (h:eZ w base b own mm xs mv tv ev) {a:Int} (ha:¬(0<=a/\a<mm.mem.length)) (hl:mm.mem.length<=262144):
  Calls Tryz.prog 141 #[.pointer (some ⟨b,0,none⟩),.int .i64 a] w fun r w'=>r= .panicked [qP 8]/\w'=w:=by
 obtain⟨ao,cp,rfl⟩:=bF h.mem;have c1:=h.iA 1 _ rfl;have e1:IntKind.i64.wrap (mm.mem.length:Int)=mm.mem.length:=IntWalk.i64_in _ (by omega);clear h;by_cases h0:a<0
 ·clear ha;go_in;go_wp2_with fail;exact⟨rfl,rfl,rfl⟩
 ·have h1:(mm.mem.length:Int)<=a:=by omega
  clear ha;go_in;go_wp2_with fail;exact⟨rfl,rfl,rfl⟩
theorem bH.imp {S T:Nat->Prop} {a c:World} (h:bH S a c) (hs:∀k,k<a.heap.size->S k->T k):bH T a c:=
 ⟨h.os,h.tape,h.output,h.size,fun k hk hn=>h.block k hk fun hS=>hn (hs k hk hS)⟩
theorem Tq:(Tryz.prog.info? 127).map (fun i=>(i.zero,i.size,i.bytes))=some (some (.agg #[.int .i64 0,.int .u8 0,.int .i64 0,.int .i64 0]),4,32):=by kernel_rfl
theorem TP (x:Ev):∀u∈mF x,u.oneCell'=true:=by
 intro u hu;simp[mF] at hu;rcases hu with rfl|rfl|rfl|rfl<;>rfl
theorem Be {P:Program} {w:World} (d:Nat) (t e:TypeId) (tb o o':Nat) (h:P.underlying t=some (.pointer e)) {i:TypeInfo} (hi:P.info? e=some i) (hs:i.size≠0):
  (Op.equalIn (d+1) t (.pointer (some ⟨tb,o,none⟩)) (.pointer (some ⟨tb,o',none⟩))).run P w= .ok (decide (o=o')) w:=by
 have h3:((⟨tb,o,none⟩:Addr)==⟨tb,o',none⟩)=decide (o=o'):=by
  rw[Bool.eq_iff_iff];simp
 simp[Op.equalIn,run_underlying h,sizeOf,typeInfo,hi,hs,sameAddr,h3]
theorem YN:(Tryz.prog.info? 184).map (·.size)=some 13:=by kernel_rfl
theorem KU (w:World) (tb o o':Nat):Sem.run Tryz.prog (binOp BinOp.eql 186 (.pointer (some ⟨tb,o,none⟩)) (.pointer (some ⟨tb,o',none⟩))) w= .ok (.bool (decide (o=o'))) w:=by
 obtain⟨i,hi,hs⟩:∃i,Tryz.prog.info? 184=some i/\i.size=13:=by
  have:=YN;cases hq:Tryz.prog.info? 184 with
  |none=>rw[hq] at this;cases this
  |some i=>rw[hq] at this;exact⟨i,rfl,by simpa using this⟩
 have:=Be (P:=Tryz.prog) (w:=w) 9999 186 184 tb o o' Tryz.underlying186 hi (by omega);simp[binOp,Op.equal,Op.maxDepth,this]
def K4 (base b:Nat) (own:Nat->Nat) (mm:MM) (xs:List TX) (mv tv:Value) (w w':World):Prop:=
 (∃own' ev',eZ w' base b own' mm xs mv tv ev'/\∀k,k<w.heap.size->own' k=own k)/\bH (fun k=>own k=1\/own k=4) w w'
theorem sH {tb cap:Nat} (h:eZ w base b own mm xs mv (.slice (some ⟨tb,0,none⟩) xs.length cap) ev) {n:Nat} {x:TX} (hx:xs[n]? =some x) (hlen:mm.evs.length<1000000000) (h4:xs.length<=4) (k:Int) (a c:Int):
  Calls Tryz.prog 102 #[.pointer (some ⟨b,0,none⟩),.pointer (some ⟨tb,n*13,none⟩),.int .u8 k,.int .i64 a,.int .i64 c] w fun r w'=>r= .returned (.tuple #[])/\K4 base b own (mm.tell n k a c) xs mv (.slice (some ⟨tb,0,none⟩) xs.length cap) w w':=by
 have c2:=h.iA 2 _ rfl;have c3:=h.iA 3 _ rfl;have hn:n<xs.length:=(bE.1 hx).1;have H:=ag h;have HX:=ag hx;have HL:=ag hlen;obtain⟨i0,hi,hz0,hz1,hz2⟩:=info_parts Tq;have HI:=ag hi;have HZ0:=ag hz0;have HZ1:=ag hz1;have HZ2:=ag hz2;clear h hx hlen hi hz0 hz1 hz2;go_in;go_wp2_with fail;go_loopw [16] (fun i w'=>∃q:Nat,q<=xs.length/\i= .int .i64 (q:Int)/\(q<=n/\w'=w\/n<q/\Hid (K4 base b own (mm.tell n k a c) xs mv (.slice (some ⟨tb,0,none⟩) xs.length cap) w w'))) (fun i _=>((xs.length:Int) - intOf i).toNat)
 case atStart=>exact⟨0,by omega,rfl,.inl ⟨by omega,rfl⟩⟩
 case round=>
  obtain⟨q,hq,rfl,hw⟩:=hrel;by_cases hlt:q<xs.length
  ·rcases hw with⟨hqn,rfl⟩|⟨hqn,HE⟩
   ·by_cases he:q=n
    ·subst he;have hp:=fun w=>(KU w tb (q*13) (q*13)).trans (by rw[decide_eq_true rfl])
     have hi:=HI.out;have hz0:=HZ0.out;have hz1:=HZ1.out;have hz2:=HZ2.out;go_wp2_with (at_builtin;refine fe _ rfl _ _ 53 rfl base 127 i0 _ 4 32 Tryz.underlying53 hi hz0 hz1 hz2 rfl (by decide) _ _ _ rfl (bD H.out.evs ((bH.refl (fun _=>False) wr).alloc _) (fun _ _=>id)) ⟨wr.heap.size,0,none⟩ 1 1 (mF ⟨q,k,a,c⟩) rfl rfl ?c1 ?c2 ?c3 ?c4 ?c5 ?_)
     case c1=>first|exact kK (aX _ _)|exact fun j u h=>h
     case c2=>exact TP _
     case c3=>have:=HL.out;unfold maxLen;omega
     case c4=>have:=HL.out;omega
     case c5=>have:=H.out.eX;simp;omega
     intro ao cp w1 hown mI iW;have hc:=bH.grown (S:=fun k=>ev.ownBlock=some k) ((bH.refl _ wr).alloc (.cells (mF ⟨q,k,a,c⟩).toArray 127)) iW (fun k hk=>.inl hk);have hb1:=gV hc H.out.blk (fun hk=>by have h1:=H.out.jI _ hk;rw[H.out.bT.2] at h1;exact absurd h1 (by decide));have f1:=aJ (o:=3) hb1;have f2:w1.cell? ⟨b,3,none⟩=some ev:=af hb1 rfl;have HB:=ag hb1;have HC:=ag hc;have HO:=ag hown;have HF:=ag mI;clear hb1 hc hown mI iW hi hz0 hz1 hz2 hp;go_wp2_with fail;have hset:=aK (o:=3) (.slice ao (mm.evs.length+1) cp) HB.out;have hne:∀g,(Value.slice ao (mm.evs.length+1) cp).ownBlock=some g->ev.ownBlock=some g\/wr.heap.size<=g:=fun g hg=>by
      rcases HF.out g hg with e|e
      ·exact .inl e
      ·exact .inr (by omega)
     have Ur:bH (fun k=>k=b\/ev.ownBlock=some k) wr (w1.setCell ⟨b,3,none⟩ (.slice ao (mm.evs.length+1) cp)):=
      (bH.gY (S:=fun k=>k=b\/ev.ownBlock=some k) (bH.refl _ wr) HC.out (fun k _ hk=>.inr hk)).setCell (p:=⟨b,3,none⟩) (.inl (.inl rfl)) _
     have hm:=H.out.event (mm.evs++[⟨q,k,a,c⟩]) (.slice ao (mm.evs.length+1) cp) Ur hset (by
      rw[List.length_append,mU];exact aP HO.out fun g hg hlt=>dO _ _ _ _ (fun e=>by
       rcases hne g hg with h1|h1
       ·have h2:=H.out.jI _ h1;rw[e,H.out.bT.2] at h2;exact absurd h2 (by decide)
       ·have:=H.out.lt;simp only at e;omega)) hne
     have HE:K4 base b own (mm.tell q k a c) xs mv (.slice (some ⟨tb,0,none⟩) xs.length cap) wr (w1.setCell ⟨b,3,none⟩ (.slice ao (mm.evs.length+1) cp)):=
      ⟨⟨_,_,hm,fun k hk=>iT hk⟩,Ur.imp fun k _ hk=>by
       rcases hk with rfl|hk
       ·exact .inl H.out.bT.2
       ·exact .inr (H.out.jI k hk)⟩
     exact⟨⟨q+1,by omega,by go_num,.inr ⟨by omega,ag HE⟩⟩,by simp[intOf];omega⟩
    ·have hp:=fun w=>(KU w tb (q*13) (n*13)).trans (by rw[decide_eq_false (show ¬q*13=n*13 by omega)])
     go_wp2_with fail;exact⟨⟨q+1,by omega,by go_num,.inl ⟨by omega,trivial⟩⟩,by simp[intOf];omega⟩
   ·have hp:=fun w=>(KU w tb (q*13) (n*13)).trans (by rw[decide_eq_false (show ¬q*13=n*13 by omega)])
    obtain⟨⟨own',ev',hm,ho⟩,hc⟩:=HE.out;have d2:=hm.iA 2 _ rfl;clear hm ho hc;go_wp2_with fail;exact⟨⟨q+1,by omega,by go_num,.inr ⟨by omega,HE⟩⟩,by simp[intOf];omega⟩
  ·obtain rfl:q=xs.length:=by omega
   rcases hw with⟨hqn,rfl⟩|⟨hqn,HE⟩
   ·omega
   ·go_wp2_with fail;go_end0;exact⟨rfl,HE.out⟩
end
def doV (c a b:Int):Int:=(gL c a b).getD 0
def ZI (c a b:Int):Int:=if(gL c a b).isSome=true then 0 else if c=4\/c=5 then 4 else 1
theorem CB {c a b v:Int} (h:gL c a b=some v):doV c a b=v:=by unfold doV;rw[h];rfl
theorem Ca {c a b v:Int} (h:gL c a b=some v):ZI c a b=0:=by unfold ZI;rw[h];rfl
theorem Dw {c a b:Int} (h:gL c a b=none):doV c a b=0:=by unfold doV;rw[h];rfl
theorem CR {c a b:Int} (h:gL c a b=none):ZI c a b=if c=4\/c=5 then 4 else 1:=by unfold ZI;rw[h];rfl
def dA (c a b:Int) (w:World) (r:Ending) (w':World):Prop:=r= .returned (.tuple #[.int .i64 (doV c a b),.int .i64 (ZI c a b)])/\w'=w
theorem dA.some {c a b v:Int} {w:World} {r:Ending} {w':World} (h:gL c a b=some v) (hr:r= .returned (.tuple #[.int .i64 v,.int .i64 0])) (hw:w'=w):dA c a b w r w':=by
 refine⟨?_,hw⟩;rw[CB h,Ca h];exact hr
theorem dA.none {c a b:Int} {w:World} {r:Ending} {w':World} (h:gL c a b=none) (hr:r= .returned (.tuple #[.int .i64 0,.int .i64 (if c=4\/c=5 then 4 else 1)])) (hw:w'=w):dA c a b w r w':=by
 refine⟨?_,hw⟩;rw[Dw h,CR h];exact hr
theorem wB (w:World) (x:Bool):Calls Tryz.prog 171 #[.bool x] w fun r w'=>r= .returned (.int .i64 (vM x))/\w'=w:=by
 cases x with
 |true=>
  go_in;go_wp2_with fail;go_ret;exact⟨rfl,rfl⟩
 |false=>
  go_in;go_wp2_with fail;go_ret;exact⟨rfl,rfl⟩
theorem do_1 (w:World) (a b:Int):Calls Tryz.prog 168 #[.int .u8 1,.int .i64 a,.int .i64 b] w (dA 1 a b w):=by
 go_in;go_wp2_with fail
 go_ret2
 exact .some rfl rfl rfl
theorem adV (w:World) (a b:Int):Calls Tryz.prog 168 #[.int .u8 2,.int .i64 a,.int .i64 b] w (dA 2 a b w):=by
 go_in;go_wp2_with fail
 go_ret2
 exact .some rfl rfl rfl
theorem ac5 (w:World) (a b:Int):Calls Tryz.prog 168 #[.int .u8 3,.int .i64 a,.int .i64 b] w (dA 3 a b w):=by
 go_in;go_wp2_with fail
 go_ret2
 exact .some rfl rfl rfl
theorem adl (w:World) (a b:Int):Calls Tryz.prog 168 #[.int .u8 6,.int .i64 a,.int .i64 b] w (dA 6 a b w):=by
 go_in;go_wp2_with fail
 go_ret2
 exact .some rfl rfl rfl
theorem acN (w:World) (a b:Int):Calls Tryz.prog 168 #[.int .u8 7,.int .i64 a,.int .i64 b] w (dA 7 a b w):=by
 go_in;go_wp2_with fail
 go_ret2
 exact .some rfl rfl rfl
theorem adb (w:World) (a b:Int):Calls Tryz.prog 168 #[.int .u8 8,.int .i64 a,.int .i64 b] w (dA 8 a b w):=by
 go_in;go_wp2_with fail
 go_ret2
 exact .some rfl rfl rfl
theorem adM (w:World) (a b:Int) (h:b≠0):Calls Tryz.prog 168 #[.int .u8 4,.int .i64 a,.int .i64 b] w (dA 4 a b w):=by
 have hb:(b==0)=false:=by rw[bY];exact h
 go_in;go_wp2_with fail
 go_ret2
 refine .some ?_ rfl rfl;unfold gL;simp[h,fq,IntWalk.i64_left]
theorem aad (w:World) (a b:Int) (h:b=0):Calls Tryz.prog 168 #[.int .u8 4,.int .i64 a,.int .i64 b] w (dA 4 a b w):=by
 subst h;go_in;go_wp2_with fail
 go_ret2
 exact .none rfl rfl rfl
theorem adF (w:World) (a b:Int) (h:b≠0):Calls Tryz.prog 168 #[.int .u8 5,.int .i64 a,.int .i64 b] w (dA 5 a b w):=by
 have hb:(b==0)=false:=by rw[bY];exact h
 go_in;go_wp2_with fail
 go_ret2
 refine .some ?_ rfl rfl;unfold gL;simp[h,fq,IntWalk.i64_left]
theorem aao (w:World) (a b:Int) (h:b=0):Calls Tryz.prog 168 #[.int .u8 5,.int .i64 a,.int .i64 b] w (dA 5 a b w):=by
 subst h;go_in;go_wp2_with fail
 go_ret2
 exact .none rfl rfl rfl
theorem acZ (w:World) (a b:Int):Calls Tryz.prog 168 #[.int .u8 9,.int .i64 a,.int .i64 b] w (dA 9 a b w):=by
 go_in;go_wp2_with fail
 go_ret2
 exact .some rfl rfl rfl
theorem aa8 (w:World) (a b:Int):Calls Tryz.prog 168 #[.int .u8 10,.int .i64 a,.int .i64 b] w (dA 10 a b w):=by
 go_in;go_wp2_with fail
 go_ret2
 exact .some rfl rfl rfl
theorem Z5 (w:World) (a b:Int):Calls Tryz.prog 168 #[.int .u8 11,.int .i64 a,.int .i64 b] w (dA 11 a b w):=by
 go_in;go_wp2_with fail;refine(wB w _).mono ?_;rintro r w1 ⟨rfl,rfl⟩;go_wp2_with fail
 go_ret2
 exact .some rfl rfl rfl
theorem aa5 (w:World) (a b:Int):Calls Tryz.prog 168 #[.int .u8 12,.int .i64 a,.int .i64 b] w (dA 12 a b w):=by
 go_in;go_wp2_with fail;refine(wB w _).mono ?_;rintro r w1 ⟨rfl,rfl⟩;go_wp2_with fail
 go_ret2
 exact .some rfl rfl rfl
theorem Z8 (w:World) (a b:Int):Calls Tryz.prog 168 #[.int .u8 13,.int .i64 a,.int .i64 b] w (dA 13 a b w):=by
 go_in;go_wp2_with fail;refine(wB w _).mono ?_;rintro r w1 ⟨rfl,rfl⟩;go_wp2_with fail
 go_ret2
 exact .some rfl rfl rfl
theorem aaz (w:World) (a b:Int):Calls Tryz.prog 168 #[.int .u8 14,.int .i64 a,.int .i64 b] w (dA 14 a b w):=by
 go_in;go_wp2_with fail;refine(wB w _).mono ?_;rintro r w1 ⟨rfl,rfl⟩;go_wp2_with fail
 go_ret2
 exact .some rfl rfl rfl
theorem aa0 (w:World) (c a b:Int) (h:¬(1<=c/\c<=14)):Calls Tryz.prog 168 #[.int .u8 c,.int .i64 a,.int .i64 b] w (dA c a b w):=by
 have k1:(c==1)=false:=by rw[bY];omega
 have k2:(c==2)=false:=by rw[bY];omega
 have k3:(c==3)=false:=by rw[bY];omega
 have k4:(c==4)=false:=by rw[bY];omega
 have k5:(c==5)=false:=by rw[bY];omega
 have k6:(c==6)=false:=by rw[bY];omega
 have k7:(c==7)=false:=by rw[bY];omega
 have k8:(c==8)=false:=by rw[bY];omega
 have k9:(c==9)=false:=by rw[bY];omega
 have k10:(c==10)=false:=by rw[bY];omega
 have k11:(c==11)=false:=by rw[bY];omega
 have k12:(c==12)=false:=by rw[bY];omega
 have k13:(c==13)=false:=by rw[bY];omega
 have k14:(c==14)=false:=by rw[bY];omega
 have hn:gL c a b=none:=by
  unfold gL;rw[if_neg (by omega),if_neg (by omega),if_neg (by omega),if_neg (by omega),if_neg (by omega),if_neg (by omega),if_neg (by omega),if_neg (by omega),if_neg (by omega),if_neg (by omega),if_neg (by omega),if_neg (by omega),if_neg (by omega),if_neg (by omega)]
 clear h;go_in;go_wp2_with fail
 go_ret2
 exact .none hn (by rw[if_neg (by rw[bY] at k4 k5;omega)];rfl) rfl
theorem XH (w:World) (c a b:Int):Calls Tryz.prog 168 #[.int .u8 c,.int .i64 a,.int .i64 b] w (dA c a b w):=by
 by_cases h:1<=c/\c<=14
 ·rcases(by omega:c=1\/c=2\/c=3\/c=4\/c=5\/c=6\/c=7\/c=8\/c=9\/c=10\/c=11\/c=12\/c=13\/c=14) with rfl|rfl|rfl|rfl|rfl|rfl|rfl|rfl|rfl|rfl|rfl|rfl|rfl|rfl
  ·exact do_1 w a b
  ·exact adV w a b
  ·exact ac5 w a b
  ·by_cases hb:b=0
   ·exact aad w a b hb
   ·exact adM w a b hb
  ·by_cases hb:b=0
   ·exact aao w a b hb
   ·exact adF w a b hb
  ·exact adl w a b
  ·exact acN w a b
  ·exact adb w a b
  ·exact acZ w a b
  ·exact aa8 w a b
  ·exact Z5 w a b
  ·exact aa5 w a b
  ·exact Z8 w a b
  ·exact aaz w a b
 ·exact aa0 w c a b h
end Go.Proofs.YtopdcjimpdalpaaGreat

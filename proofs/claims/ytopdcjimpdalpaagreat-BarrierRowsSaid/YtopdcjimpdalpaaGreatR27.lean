import Derived.Test.YtopdcjimpdalpaaGreatR26
import Derived.BigQuiet
namespace Go.Proofs.YtopdcjimpdalpaaGreat
open Go.RowKit
set_option linter.all false
set_option maxHeartbeats 2000000
set_option maxRecDepth 100000
section
variable {W:FC} {mm j5:MM} {m:AS} {ks:Nat->Nat} {n k:Nat} {t t':MT} {a a':aY} {lo hi words:Int} {l:List Tx}
theorem aar.stores (h:aar W mm m ks n t a) {e:gD} (hlow:(e.cell W.words).1<W.words+18) (hgo:mm.go n t=(true,mm.put n (t.stored (e.cell W.words).1 (e.cell W.words).2))) (hb:a.bare) (hact:m.act (W.rs n) n=m.set n a') (h1:a'.buf=a.buf++[e]) (h2:a'.out=a.out) (h3:a'.fin=a.fin) {k:Nat} (hk:k<=cst a)
  (hw:eT (bM (W.tx n) (W.rs n)) (W.lo n) (W.hi n) (wP (W.tx n) (W.rs n) a') k ((t.ls (W.lo n) (W.hi n) mm).at ((t.ls (W.lo n) (W.hi n) mm).pc+1))):Done W mm m ks n t a:=by
 have hS:=h.s;have low:=(h.ok.ctx n h.lt).lay.low;have hwd:=h.ok.wd n h.lt;refine⟨k,hb,hk,by rw[hgo],?_⟩;rw[hgo,hact,Ow];have e1:m.set n a'=⟨m.data,m.clock,m.aR,upd m.aT n a',mm.evs⟩:=by rw[h.Bn.evs];rfl
 rw[e1];have e2:=TP (lo:=W.lo n) (hi:=W.hi n) (mm:=mm) (j5:=⟨mm.mem,mm.aT.set n (t.stored (e.cell W.words).1 (e.cell W.words).2),mm.evs⟩) (x:=(e.cell W.words).1) (v:=(e.cell W.words).2) hS.pJ rfl (by omega);rw[<-e2] at hw;refine h.Bn.put h.lt ⟨hS.code,by rw[h2];exact hS.out,by rw[h3];exact hS.fin,by have:=hS.pJ;simp only[MT.stored];omega,?_,fun c hc=>?_,fun _=>hw⟩
 ·simp only[MT.stored];rw[List.filter_append,hS.wait,h1,List.map_append,List.filter_cons_of_pos (by simpa using hlow)];rfl
 ·simp only[MT.stored] at hc;rcases List.mem_append.1 hc with hc|hc
  ·exact hS.own c hc
  ·rw[List.mem_singleton.1 hc];exact .inl hlow
theorem JM {k:Nat} (hS:OU W mm n t a k) (h:t.wait=[]):a.buf=[]:=by
 have:=hS.wait;rw[h] at this;simpa using this.symm
section
theorem aar.wb (h:aar W mm m ks n t a) (hp:a.pt= .wb) (hl:(W.rs n)[a.row]? =some l) (hr:gM (W.tx n) l (dw (W.rs n) a.row) a (t.ls (W.lo n) (W.hi n) mm)):(mm.go n t=(false,mm)/\t.wait≠[])\/Done W mm m ks n t a:=by
 have X:=h.ok.ctx n h.lt;have R:=bQ (W.tx n) (W.rs n) hl;have hwd:=h.ok.wd n h.lt;have hw0:=h.ok.words;have HA:=h.A;have HB:=HA.base (by rw[hp];intro q;cases q);have hsome:=HA.some;have hnew:=HA.new;unfold gM at hr;rw[hp] at hr hsome hnew;simp only at hsome hnew;obtain⟨e,r0,r1,r4,pv,he,hs,F,hn⟩:=hr;have hke:=HA.keys e (bC he);have hck:=h.dx;have Tk:=HA.dx.1;have hc:t.code[t.at_.toNat]? =some ⟨5,0,(2:Nat),(3:Nat),0,0⟩:=by rw[h.s.code,jd hs];exact R.aQ 109 _ rfl
 obtain⟨q1,q2⟩:=h.OC (x:=e.1) (by omega);rcases DC (mm:=mm) (n:=n) (x:=e.1) h.s.pJ hc (by rw[dO hs (a:=2) (by decide)];show fV (e.1+0)=_;skip;rw[fH (by omega)];omega) q1 q2 with⟨hgo,hw⟩|hgo
 ·exact .inl ⟨hgo,fun q=>by rw[q] at hw;simp at hw⟩
 right
 rw[dO hs (a:=3) (by decide),aH] at hgo;refine h.stores (e:=gD.dat e.1 e.2) (by show e.1<W.words+18;omega) hgo (jP hp) (a':={a with buf:=a.buf++[gD.dat e.1 e.2]}.kE (a.i+1)) ?_ ?_ ?_ ?_ (k:=219) (by unfold cst;rw[hp];show 219<=229;decide) ?_
 ·unfold AS.act;rw[h.eq];simp only[hp];rw[he]
 ·exact((Same.refl {a with buf:=a.buf++[gD.dat e.1 e.2]}).kE (a.i+1)).buf
 ·exact((Same.refl {a with buf:=a.buf++[gD.dat e.1 e.2]}).kE (a.i+1)).out
 ·exact((Same.refl {a with buf:=a.buf++[gD.dat e.1 e.2]}).kE (a.i+1)).fin
 ·rw[hs];exact U0 X hl HB.len F hn ⟨by omega,by omega⟩ hsome e.1 e.2
theorem aar.rel (h:aar W mm m ks n t a) (hp:a.pt= .rel) (hl:(W.rs n)[a.row]? =some l) (hr:gM (W.tx n) l (dw (W.rs n) a.row) a (t.ls (W.lo n) (W.hi n) mm)):(mm.go n t=(false,mm)/\t.wait≠[])\/Done W mm m ks n t a:=by
 have X:=h.ok.ctx n h.lt;have R:=bQ (W.tx n) (W.rs n) hl;have hwd:=h.ok.wd n h.lt;have hw0:=h.ok.words;have HA:=h.A;have HB:=HA.base (by rw[hp];intro q;cases q);have bK:=HA.held;have hnew:=HA.new;unfold gM at hr;rw[hp] at hr bK hnew;simp only at bK hnew;obtain⟨r0,r2,r3,r4,pv,hs,F⟩:=hr;have nX:=bK.1;have hc:t.code[t.at_.toNat]? =some ⟨5,0,(5:Nat),(1:Nat),0,0⟩:=by rw[h.s.code,jd hs];exact R.aQ 130 _ rfl
 obtain⟨q1,q2⟩:=h.yM nX;rcases DC (mm:=mm) (n:=n) (x:=W.words+2+(a.s:Int)) h.s.pJ hc (by rw[dO hs (a:=5) (by decide)];show fV ((W.tx n).words+2+(a.s:Int)+0)=_;rw[hwd];rw[fH (by omega)];omega) q1 q2 with⟨hgo,hw⟩|hgo
 ·exact .inl ⟨hgo,fun q=>by rw[q] at hw;simp at hw⟩
 right
 rw[dO hs (a:=1) (by decide),ax] at hgo;refine h.stores (e:=gD.lock a.s (2*a.new)) (by show W.words+2+(a.s:Int)<W.words+18;omega) hgo (jP hp) (a':={a with buf:=a.buf++[gD.lock a.s (2*a.new)],held:=upd a.held a.s false}.iw (a.s+1)) ?_ ?_ ?_ ?_ (k:=213) (by unfold cst;rw[hp];show 213<=229;decide) ?_
 ·unfold AS.act;rw[h.eq];simp only[hp]
 ·exact((Same.refl {a with buf:=a.buf++[gD.lock a.s (2*a.new)],held:=upd a.held a.s false}).iw (a.s+1)).buf
 ·exact((Same.refl {a with buf:=a.buf++[gD.lock a.s (2*a.new)],held:=upd a.held a.s false}).iw (a.s+1)).out
 ·exact((Same.refl {a with buf:=a.buf++[gD.lock a.s (2*a.new)],held:=upd a.held a.s false}).iw (a.s+1)).fin
 ·rw[hs];exact Qo X hl F nX _
theorem aar.Kn (h:aar W mm m ks n t a) (hp:a.pt= .Kn) (hl:(W.rs n)[a.row]? =some l) (hr:gM (W.tx n) l (dw (W.rs n) a.row) a (t.ls (W.lo n) (W.hi n) mm)):(mm.go n t=(false,mm)/\t.wait≠[])\/Done W mm m ks n t a:=by
 have X:=h.ok.ctx n h.lt;have R:=bQ (W.tx n) (W.rs n) hl;have hwd:=h.ok.wd n h.lt;have hw0:=h.ok.words;have HA:=h.A;have HB:=HA.base (by rw[hp];intro q;cases q);have bK:=HA.held;unfold gM at hr;rw[hp] at hr bK;simp only at bK;obtain⟨r0,r1,r3,r4,pv,hs,F,O⟩:=hr;have nX:=bK.1;have hc:t.code[t.at_.toNat]? =some ⟨5,0,(5:Nat),(2:Nat),0,0⟩:=by rw[h.s.code,jd hs];exact R.aQ 152 _ rfl
 obtain⟨q1,q2⟩:=h.yM nX;rcases DC (mm:=mm) (n:=n) (x:=W.words+2+(a.s:Int)) h.s.pJ hc (by rw[dO hs (a:=5) (by decide)];show fV ((W.tx n).words+2+(a.s:Int)+0)=_;rw[hwd];rw[fH (by omega)];omega) q1 q2 with⟨hgo,hw⟩|hgo
 ·exact .inl ⟨hgo,fun q=>by rw[q] at hw;simp at hw⟩
 right
 rw[dO hs (a:=2) (by decide),ay] at hgo;refine h.stores (e:=gD.lock a.s (a.old a.s)) (by show W.words+2+(a.s:Int)<W.words+18;omega) hgo (jP hp) (a':={a with buf:=a.buf++[gD.lock a.s (a.old a.s)],held:=upd a.held a.s false}.bZ (a.s+1)) ?_ ?_ ?_ ?_ (k:=213) (by unfold cst;rw[hp];show 213<=229;decide) ?_
 ·unfold AS.act;rw[h.eq];simp only[hp]
 ·exact((Same.refl {a with buf:=a.buf++[gD.lock a.s (a.old a.s)],held:=upd a.held a.s false}).bZ (a.s+1)).buf
 ·exact((Same.refl {a with buf:=a.buf++[gD.lock a.s (a.old a.s)],held:=upd a.held a.s false}).bZ (a.s+1)).out
 ·exact((Same.refl {a with buf:=a.buf++[gD.lock a.s (a.old a.s)],held:=upd a.held a.s false}).bZ (a.s+1)).fin
 ·rw[hs];exact QX X hl F O nX _
theorem aar.CR (h:aar W mm m ks n t a) (hp:a.pt= .CR) (hl:(W.rs n)[a.row]? =some l) (hr:gM (W.tx n) l (dw (W.rs n) a.row) a (t.ls (W.lo n) (W.hi n) mm)):(mm.go n t=(false,mm)/\t.wait≠[])\/Done W mm m ks n t a:=by
 have X:=h.ok.ctx n h.lt;have R:=bQ (W.tx n) (W.rs n) hl;have hwd:=h.ok.wd n h.lt;have hw0:=h.ok.words;have HA:=h.A;have HB:=HA.base (by rw[hp];intro q;cases q);have bK:=HA.held;have hl1:=HA.l1;unfold gM at hr;rw[hp] at hr bK hl1;simp only at bK hl1;obtain⟨r0,r1,pv,hs,F,O,hn⟩:=hr;have nX:=bK.1;have hck:=h.dx;have hth:=h.ok.th n h.lt;have hS:=h.s;obtain⟨b1,b2⟩:=h.inv.Zn h.ok.n h.lt nX;have hc:t.code[t.at_.toNat]? =some ⟨8,0,(5:Nat),(4:Nat),(2:Nat),0⟩:=by rw[h.s.code,jd hs];exact R.aQ 39 _ rfl
 obtain⟨q1,q2⟩:=h.yM nX;rcases ZN (mm:=mm) (n:=n) (x:=W.words+2+(a.s:Int)) h.s.pJ hc (by rw[dO hs (a:=5) (by decide)];show fV ((W.tx n).words+2+(a.s:Int)+0)=_;rw[hwd];rw[fH (by omega)];omega) q1 q2 with hgo|⟨hw,hgo⟩
 ·exact .inl hgo
 right
 have hbuf:=JM hS hw;have hL:=h.Bn.aR a.s nX;rw[dO hs (a:=4) (by decide),dO hs (a:=2) (by decide),aI,ay,hL] at hgo;simp only at hgo;have hl1:0<=a.l1/\a.l1<9223372036854775808:=⟨hl1.2.1,by omega⟩;have nP:=Tv (r0:=r0) (r1:=r1) (r2:=2*(W.tx n).th+1) (V:=m.aR a.s) X hl HB.len nX (fun k hk=>(HB.old k hk).1) (by rw[bK.2.2];simp) F O hn ⟨b1,by omega⟩ hl1;by_cases e:m.aR a.s=a.l1
 ·rw[if_pos e] at hgo nP;have hact:m.act (W.rs n) n={m with aR:=upd m.aR a.s (2*n+1)}.set n ({a with held:=upd a.held a.s true,old:=upd a.old a.s a.l1}.eu (a.s+1)):=by
   unfold AS.act;rw[h.eq];simp only[hp];rw[if_pos e]
  have hsm:=(Same.of a {a with held:=upd a.held a.s true,old:=upd a.old a.s a.l1} rfl rfl rfl).eu (a.s+1);refine⟨224,fun _=>hbuf,by unfold cst;rw[hp];show 224<=229;decide,by rw[hgo],?_⟩;rw[hgo,hact];generalize({a with held:=upd a.held a.s true,old:=upd a.old a.s a.l1}.eu (a.s+1):aY)=a' at hsm nP;have e1:AS.set {m with aR:=upd m.aR a.s (2*n+1)} n a'=⟨m.data,m.clock,upd m.aR a.s (2*n+1),upd m.aT n a',mm.evs⟩:=by rw[h.Bn.evs];rfl
  rw[e1,hth];have e2:=sw (lo:=W.lo n) (hi:=W.hi n) (m:=mm) (m':=⟨mm.mem,mm.aT.set n (t.goes ((4:Nat):Int) (m.aR a.s)),mm.evs⟩) hS.pJ rfl (m.aR a.s) 4 (by decide);rw[hs,aA] at e2;have low:=X.lay.low;have e3:(t.goes ((4:Nat):Int) (m.aR a.s)).ls (W.lo n) (W.hi n) ⟨mm.mem.set (W.words+2+(a.s:Int)).toNat (2*(n:Int)+1),mm.aT.set n (t.goes ((4:Nat):Int) (m.aR a.s)),mm.evs⟩=(t.goes ((4:Nat):Int) (m.aR a.s)).ls (W.lo n) (W.hi n) ⟨mm.mem,mm.aT.set n (t.goes ((4:Nat):Int) (m.aR a.s)),mm.evs⟩:=NC (fun y h1 h2=>by rw[xE q1 q2 (by omega),if_neg (by omega)]);refine h.Bn.aW h.ok h.lt ⟨by omega,by omega⟩ q2 (fun y h1 h2=>by rw[if_neg (by omega)]) (by rw[if_neg (by omega)]) (fun s hs=>?_) (hS.turn rfl rfl rfl (by have:=hS.pJ;simp only[MT.goes];omega) rfl hsm ?_)
  ·simp only[bS];by_cases q:s=a.s
   ·subst q;rw[if_pos rfl,if_pos rfl]
   ·rw[if_neg q,if_neg (by omega)]
  ·rw[e3,e2,e];rw[e] at nP;exact nP
 ·rw[if_neg e] at hgo nP;refine h.goes (r:=4) (by decide) hgo (fun _=>hbuf) (a':=a.bZ 0) ?_ ((Same.refl a).bZ 0) (k:=224) (by unfold cst;rw[hp];show 224<=229;decide) ?_
  ·unfold AS.act;rw[h.eq];simp only[hp];rw[if_neg e]
  ·rw[hs,aA];exact nP
theorem aar.vO (h:aar W mm m ks n t a) (hp:a.pt= .vO) (hl:(W.rs n)[a.row]? =some l) (hr:gM (W.tx n) l (dw (W.rs n) a.row) a (t.ls (W.lo n) (W.hi n) mm)):(mm.go n t=(false,mm)/\t.wait≠[])\/Done W mm m ks n t a:=by
 have X:=h.ok.ctx n h.lt;have R:=bQ (W.tx n) (W.rs n) hl;have hwd:=h.ok.wd n h.lt;have hw0:=h.ok.words;have HA:=h.A;have HB:=HA.base (by rw[hp];intro q;cases q);have bK:=HA.held;unfold gM at hr;rw[hp] at hr bK;simp only at bK;obtain⟨r0,r2,r3,r4,r5,r6,pv,hs,F,O⟩:=hr;have hck:=h.dx;have hS:=h.s;have hc:t.code[t.at_.toNat]? =some ⟨9,0,(7:Nat),(1:Nat),0,(W.tx n).words+1⟩:=by rw[h.s.code,jd hs];exact R.aQ 56 _ rfl
 obtain⟨q1,q2⟩:=h.OC (x:=W.words+1) (by omega);rcases Xf (mm:=mm) (n:=n) (x:=W.words+1) h.s.pJ hc (by rw[dO hs (a:=7) (by decide)];show fV (0+_)=_;rw[hwd,fH (by omega)];omega) q1 q2 with hgo|⟨hw,hgo⟩
 ·exact .inl hgo
 right
 have hbuf:=JM hS hw;have hc0:=h.inv.dx;rw[dO hs (a:=1) (by decide),ax,h.Bn.clock,fH (x:=m.clock+1) (by omega)] at hgo;rw[<-hwd] at HB;have nP:=pK (r0:=r0) (r2:=r2) (r3:=r3) (r4:=r4) (r5:=r5) (r6:=r6) (c:=m.clock) X hl HB F O ⟨hc0,hck⟩;have hact:m.act (W.rs n) n={m with clock:=m.clock+1}.set n ({a with new:=m.clock+1}.dV 0):=by
  unfold AS.act;rw[h.eq];simp only[hp]
 have hsm:=(Same.of a {a with new:=m.clock+1} rfl rfl rfl).dV 0;refine⟨219,fun _=>hbuf,by unfold cst;rw[hp];show 219<=229;decide,by rw[hgo],?_⟩;rw[hgo,hact];generalize({a with new:=m.clock+1}.dV 0:aY)=a' at hsm nP;have e1:AS.set {m with clock:=m.clock+1} n a'=⟨m.data,m.clock+1,m.aR,upd m.aT n a',mm.evs⟩:=by rw[h.Bn.evs];rfl
 rw[e1];have e2:=sw (lo:=W.lo n) (hi:=W.hi n) (m:=mm) (m':=⟨mm.mem,mm.aT.set n (t.goes ((1:Nat):Int) m.clock),mm.evs⟩) hS.pJ rfl m.clock 1 (by decide);rw[hs,aJ] at e2;have low:=X.lay.low;have e3:(t.goes ((1:Nat):Int) m.clock).ls (W.lo n) (W.hi n) ⟨mm.mem.set (W.words+1).toNat (m.clock+1),mm.aT.set n (t.goes ((1:Nat):Int) m.clock),mm.evs⟩=(t.goes ((1:Nat):Int) m.clock).ls (W.lo n) (W.hi n) ⟨mm.mem,mm.aT.set n (t.goes ((1:Nat):Int) m.clock),mm.evs⟩:=NC (fun y h1 h2=>by rw[xE q1 q2 (by omega),if_neg (by omega)]);refine h.Bn.aW h.ok h.lt ⟨by omega,by omega⟩ q2 (fun y h1 h2=>by rw[if_neg (by omega)]) (by rw[if_pos rfl]) (fun s hs=>by rw[if_neg (by omega)]) (hS.turn rfl rfl rfl (by have:=hS.pJ;simp only[MT.goes];omega) rfl hsm ?_);rw[e3,e2];exact nP
end
end
section
variable {W:FC} {mm j5:MM} {m:AS} {ks:Nat->Nat} {n k:Nat} {t t':MT} {a a':aY} {lo hi words:Int} {l:List Tx}
theorem aar.all (h:aar W mm m ks n t a) (hat:wP (W.tx n) (W.rs n) a (t.ls (W.lo n) (W.hi n) mm)):(mm.go n t=(false,mm)/\t.wait≠[])\/Done W mm m ks n t a:=by
 rcases hat with⟨hp,hr⟩|hp|⟨l,hl,hr⟩
 ·exact .inr (h.halt hp hr)
 ·exact absurd (h.A.fin.1 h.fin) (fun q=>q hp)
 ·cases hp:a.pt with
  |look=>exact .inr (h.look hp hl hr)
  |rd=>exact .inr (h.rd hp hl hr)
  |JY=>exact .inr (h.JY hp hl hr)
  |dat=>exact .inr (h.dat hp hl hr)
  |Dq=>exact .inr (h.Dq hp hl hr)
  |wr=>exact .inr (h.wr hp hl hr)
  |full=>exact .inr (h.full hp hl hr)
  |ro=>exact .inr (h.ro hp hl hr)
  |Lx=>exact .inr (h.Lx hp hl hr)
  |CR=>exact h.CR hp hl hr
  |vO=>exact h.vO hp hl hr
  |Gb=>exact .inr (h.Gb hp hl hr)
  |Hu=>exact .inr (h.Hu hp hl hr)
  |wb=>exact h.wb hp hl hr
  |rel=>exact h.rel hp hl hr
  |Kn=>exact h.Kn hp hl hr
  |yz=>exact .inr (h.yz hp hl hr)
  |out=>exact .inr (h.out hp hl hr)
  |halt=>
   unfold gM at hr;rw[hp] at hr;exact hr.elim
  |over=>
   unfold gM at hr;rw[hp] at hr;exact hr.elim
inductive Stp (W:FC) (mm:MM) (m:AS) (ks:Nat->Nat) (n:Nat):Prop
 |none:mm.step n=(false,mm)->(∀t,mm.aT[n]? =some t->t.fin=0->t.wait≠[])->Stp W mm m ks n
 |own (k:Nat):(mm.step n).1=true->n<W.N->k<ks n->Ak W (mm.step n).2 m (upd ks n k)->Stp W mm m ks n
 |act (k:Nat):(mm.step n).1=true->n<W.N->(m.aT n).fin=0->(m.aT n).bare->k<=cst (m.aT n)->Ak W (mm.step n).2 (m.act (W.rs n) n) (upd ks n k)->Stp W mm m ks n
theorem Ak.step (h:Ak W mm m ks) (ok:yt W) (I:cZ W.N W.words m) (hc:m.clock<2305843009213693951) (n:Nat):Stp W mm m ks n:=by
 cases ht:mm.aT[n]? with
 |none=>
  refine .none (PV ?_) (fun t q=>by rw[ht] at q;cases q);rcases Nat.lt_or_ge n mm.aT.length with q|q
  ·rw[eO q] at ht;cases ht
  ·exact q
 |some t=>
  have hn:n<W.N:=by rw[<-h.n];exact(bu.1 ht).1
  have hS:=h.th n t ht;by_cases hf:t.fin=0
  ·have hfa:(m.aT n).fin=0:=by rw[<-hS.fin];exact hf
   have ok1:=ok.ctx n hn;have hw:=hS.will hfa;have e:=Vb ht hf;generalize hk:ks n=k0 at hw;generalize hs:t.ls (W.lo n) (W.hi n) mm=s at hw;cases hw with
   |here hq=>
    rw[<-hs] at hq;have A:aar W mm m ks n t (m.aT n):=⟨ok,h,I,hc,ht,hn,rfl,hfa⟩;rcases A.all hq with⟨h1,h2⟩|⟨k,h1,h2,h3,h4⟩
    ·exact .none (by rw[e];exact h1) (fun u hu _=>by rw[ht] at hu;cases hu;exact h2)
    ·exact .act k (by rw[e];exact h3) hn hfa h1 h2 (by rw[e];exact h4)
   |@step k _ s' o hc' hl hw'=>
    have hpc:t.at_.toNat=s.pc:=by rw[<-hs];rfl
    have hlen:=h.len;have hsz:=ok.size n hn;have hlo:0<=W.lo n:=by have:=ok1.lay.low;have:=ok1.lay.words;omega
    rw[<-hs] at hl;rcases TB hS.pJ hlo (by omega) (by rw[hS.code,hpc];exact hc') hl with⟨h1,h2⟩|⟨t',h1,h2,h3,h4,h5⟩
    ·exact .none (by rw[e];exact h1) (fun u hu _=>by rw[ht] at hu;cases hu;exact fun q=>by rw[q] at h2;simp at h2)
    ·refine .own k (by rw[e,h1]) hn (by omega) ?_;rw[e,h1];have low:=ok1.lay.low;have hwd:=ok.wd n hn;have e1:m=⟨m.data,m.clock,m.aR,upd m.aT n (m.aT n),mm.evs⟩:=by
      have:upd m.aT n (m.aT n)=m.aT:=by
       funext j
       rw[bS];split
       ·rename_i q;rw[q]
       ·rfl
      rw[this,h.evs]
     rw[e1];refine h.put (mm:=mm) (t':=t') (evs:=mm.evs) hn ⟨by rw[h4.code];exact hS.code,by rw[h4.out];exact hS.out,by rw[h4.fin];exact hS.fin,h3,?_,?_,fun _=>?_⟩
     ·rcases h5 with h5|⟨x,v,q1,q2,h5⟩
      ·rw[h5];exact hS.wait
      ·rw[h5,List.filter_append,List.filter_cons_of_neg (by simp;omega),List.filter_nil,List.append_nil];exact hS.wait
     ·rcases h5 with h5|⟨x,v,q1,q2,h5⟩
      ·rw[h5];exact hS.own
      ·rw[h5];intro c hc;rcases List.mem_append.1 hc with hc|hc
       ·exact hS.own c hc
       ·rw[List.mem_singleton.1 hc];exact .inr ⟨q1,q2⟩
     ·rw[Ow] at h2;rw[h2];exact hw'
  ·exact .none (RL ht hf) (fun u hu hq=>by rw[ht] at hu;cases hu;exact absurd hq hf)
theorem MO (c:Int×Int) (r:List (Int×Int)) (y:Int) (d:Int):(ku (c::r) y).getD d=(ku r y).getD (if c.1=y then c.2 else d):=by
 induction r using zS with
 |h0=>
  have:=gL [] c.1 c.2 y;rw[List.nil_append] at this;show(ku [(c.1,c.2)] y).getD d=_;rw[this,Ri];by_cases e:y=c.1
  ·rw[if_pos e,if_pos e.symm];rfl
  ·rw[if_neg e,if_neg (fun q=>e q.symm)]
 |h1 r x ih=>
  obtain⟨p,v⟩:=x;rw[show c::(r++[(p,v)])=(c::r)++[(p,v)] from rfl,gL,gL];by_cases e:y=p
  ·rw[if_pos e,if_pos e];rfl
  ·rw[if_neg e,if_neg e];exact ih
theorem Km {c:Int×Int} {r:List (Int×Int)} {j5:MM} (hw:t.wait=c::r) (hm:∀y,0<=y->j5.at y=if c.1=y then c.2 else mm.at y) (hlo:0<=lo):({t with wait:=r}:MT).ls lo hi j5=t.ls lo hi mm:=by
 simp only[MT.ls];congr 1
 funext y
 by_cases h:lo<=y/\y<hi
 ·rw[if_pos h,if_pos h];unfold MM.found;rw[hw,MO,hm y (by omega)]
 ·rw[if_neg h,if_neg h]
theorem Ak.flush (h:Ak W mm m ks) (ok:yt W) (I:cZ W.N W.words m) (n:Nat):Ak W (mm.flush n).2 m ks\/n<W.N/\(m.aT n).buf≠[]/\Ak W (mm.flush n).2 (m.flush n) ks:=by
 unfold MM.flush MM.Cn;rw[if_neg (by omega),Int.toNat_natCast];cases ht:mm.aT[n]? with
 |none=>exact .inl h
 |some t=>
  have hn:n<W.N:=by rw[<-h.n];exact(bu.1 ht).1
  have hS:=h.th n t ht;simp only;cases hw:t.wait with
  |nil=>exact .inl h
  |cons c r=>
   have hB:=I.buf n hn;have ok1:=ok.ctx n hn;have low:=ok1.lay.low;have hwd:=ok.wd n hn;have hw0:=ok.words;have hsz:=ok.size n hn;have hlen:=h.len;have hrow:=hS.wait;rw[hw] at hrow;simp only;have hself:m=⟨m.data,m.clock,m.aR,upd m.aT n (m.aT n),mm.evs⟩:=by
    have:upd m.aT n (m.aT n)=m.aT:=by
     funext j
     rw[bS];split
     ·rename_i q;rw[q]
     ·rfl
    rw[this,h.evs]
   have hks:upd ks n (ks n)=ks:=by
    funext j
    rw[bS];split
    ·rename_i q;rw[q]
    ·rfl
   by_cases hlow:c.1<W.words+18
   ·right
    rw[List.filter_cons_of_pos (by simpa using hlow)] at hrow;cases hb:(m.aT n).buf with
    |nil=>rw[hb] at hrow;simp at hrow
    |cons e b=>
     refine⟨hn,by simp,?_⟩;rw[hb,List.map_cons] at hrow;obtain⟨hce,hrb⟩:=List.cons.inj hrow;have hge:1<=c.1:=by
      rw[hce];cases e with
      |dat x v=>exact(hB.low x v (by rw[hb];exact List.mem_cons_self)).1
      |lock s v=>show 1<=W.words+2+(s:Int);omega
     have hl:c.1<mm.mem.length:=by have:=ok1.lay.room;have:=ok1.lay.log;omega
     have hls:=Km (lo:=W.lo n) (hi:=W.hi n) (mm:=mm) (j5:=⟨mm.mem.set c.1.toNat c.2,mm.aT.set n {t with wait:=r},mm.evs⟩) hw (fun y hy=>by rw[xE (by omega) hl hy];by_cases q:y=c.1;(rw[if_pos q,if_pos q.symm]);(rw[if_neg q,if_neg (fun p=>q p.symm)];rfl)) (by omega);have hS':∀a':aY,a'={m.aT n with buf:=b}->OU W ⟨mm.mem.set c.1.toNat c.2,mm.aT.set n {t with wait:=r},mm.evs⟩ n {t with wait:=r} a' (ks n):=by
      rintro a' rfl;exact⟨hS.code,hS.out,hS.fin,hS.pJ,hrb,fun d hd=>hS.own d (by rw[hw];exact List.mem_cons_of_mem _ hd),fun hf=>by
       rw[hls];exact hS.will hf⟩
     rw[<-hks];cases e with
     |dat x v=>
      have e1:m.flush n=⟨fun y=>if y=x then v else m.data y,m.clock,m.aR,upd m.aT n {m.aT n with buf:=b},mm.evs⟩:=by
       unfold AS.flush;rw[hb,h.evs];rfl
      rw[e1];obtain rfl:c=(x,v):=hce;have hx:=hB.low x v (by rw[hb];exact List.mem_cons_self);exact h.aW ok hn ⟨hge,hlow⟩ hl (fun y _ _=>rfl) (by rw[if_neg (by simp only;omega)]) (fun s hs=>by rw[if_neg (by simp only;omega)]) (hS' _ rfl)
     |lock s v=>
      have e1:m.flush n=⟨m.data,m.clock,upd m.aR s v,upd m.aT n {m.aT n with buf:=b},mm.evs⟩:=by
       unfold AS.flush;rw[hb,h.evs];rfl
      rw[e1];obtain rfl:c=(W.words+2+(s:Int),v):=hce;exact h.aW ok hn ⟨hge,hlow⟩ hl (fun y _ _=>by rw[if_neg (by simp only;omega)]) (by rw[if_neg (by simp only;omega)]) (fun j hj=>by
       simp only[bS];by_cases q:j=s
       ·subst q;rw[if_pos rfl,if_pos rfl]
       ·rw[if_neg q,if_neg (by omega)]) (hS' _ rfl)
   ·left
    obtain⟨o1,o2⟩:W.lo n<=c.1/\c.1<W.hi n:=by
     rcases hS.own c (by rw[hw];exact List.mem_cons_self) with q|q
     ·exact absurd q hlow
     ·exact q
    rw[List.filter_cons_of_neg (by simpa using hlow)] at hrow;have hl:c.1<mm.mem.length:=by omega
    have hat:∀y,0<=y->(MM.mk (mm.mem.set c.1.toNat c.2) (mm.aT.set n {t with wait:=r}) mm.evs).at y=if y=c.1 then c.2 else mm.at y:=fun y hy=>xE (by omega) hl hy
    have hls:=Km (lo:=W.lo n) (hi:=W.hi n) (mm:=mm) (j5:=⟨mm.mem.set c.1.toNat c.2,mm.aT.set n {t with wait:=r},mm.evs⟩) hw (fun y hy=>by rw[xE (by omega) hl hy];by_cases q:y=c.1;(rw[if_pos q,if_pos q.symm]);(rw[if_neg q,if_neg (fun p=>q p.symm)];rfl)) (by omega);show Ak W ⟨mm.mem.set c.1.toNat c.2,mm.aT.set n {t with wait:=r},mm.evs⟩ m ks;refine⟨by simp[h.n],by simp[h.len],h.evs,fun y h1 h2=>?_,?_,fun s hs=>?_,fun j u hu=>?_⟩
    ·rw[hat y (by omega),if_neg (by omega)];exact h.data y h1 h2
    ·rw[hat _ (by omega),if_neg (by omega)];exact h.clock
    ·rw[hat _ (by omega),if_neg (by omega)];exact h.aR s hs
    ·by_cases e:j=n
     ·subst e;rw[List.getElem?_set_self (by rw[h.n];exact hn)] at hu;cases hu;exact⟨hS.code,hS.out,hS.fin,hS.pJ,hrow,fun d hd=>hS.own d (by rw[hw];exact List.mem_cons_of_mem _ hd),fun hf=>by
       rw[hls];exact hS.will hf⟩
     ·rw[List.getElem?_set_ne (fun q=>e q.symm)] at hu;have hj:j<W.N:=by rw[<-h.n];exact(bu.1 hu).1
      have hap:=ok.apart n j hn hj (fun q=>e q.symm);have ajR:=(ok.ctx j hj).lay.low;have aih:=ok.wd j hj;exact(h.th j u hu).mem (fun y q1 q2=>by rw[hat y (by omega),if_neg (by omega)])
end
section
structure dB where
 kind:Int
 th:Int
 n:Int
deriving DecidableEq
def fU (p:dB):List Value:=[.int .u8 p.kind,.int .i64 p.th,.int .i64 p.n]
theorem qN:∀p,(fU p).length=3:=fun _=>rfl
def pF (p:dB):Int:=if p.kind=2 then min p.n 1048577*2 else min p.n 1048577
def nO (p:dB):Bool:=decide (2<p.kind)||decide (p.n<0)
def total (l:List dB):Int:=(l.map pF).sum
def dK (l:List dB):Int×Int:=
 if 65536<l.length then(0,3) else if l.any nO=true then(0,1) else if 1048576<total l then(0,3) else(total l,0)
theorem OM (p:dB):pF p<=2097154:=by unfold pF;split<;>omega
theorem zD {p:dB} (h:nO p=false):0<=pF p:=by unfold nO at h;simp at h;unfold pF;split<;>omega
theorem nM (l:List dB) (p:dB):total (l++[p])=total l+pF p:=by simp[total]
theorem xB (l r:List dB):total (l++r)=total l+total r:=by simp[total]
theorem oI {l:List dB} (h:l.any nO=false):0<=total l:=by
 induction l with
 |nil=>simp[total]
 |cons p r ih=>
  simp only[List.any_cons,Bool.or_eq_false_iff] at h;have:=zD h.1;have:=ih h.2;simp only[total,List.map_cons,List.sum_cons] at*;omega
variable {w w':World}
theorem VD (w:World) (p:dB) (hn:0<=p.n):
  Calls Tryz.prog 99 #[.agg #[.int .u8 p.kind,.int .i64 p.th,.int .i64 p.n]] w fun e w'=>e= .returned (.int .i64 (pF p))/\Below w.heap.size w w':=by
 go_in;by_cases hk:p.kind=2
 ·go_wp2_with fail;all_goals
   go_ret;refine⟨?_,(au _ _).alloc (aB _) _⟩;simp[pF,wrap64,hk];omega
 ·go_wp2_with fail;all_goals
   go_ret;refine⟨?_,(au _ _).alloc (aB _) _⟩;simp[pF,hk];omega
theorem Oj {ao:Option Addr} {cap:Nat} {l:List dB} (h:dH fU w 3 (.slice ao l.length cap) l) (hm:l.length<=9000000000000) (hn:∀p∈l, -9223372036854775808<=p.n/\0<=p.kind):
  Calls Tryz.prog 61 #[.slice ao l.length cap] w fun e w'=>e= .returned (.tuple #[.int .i64 (dK l).1,.int .i64 (dK l).2])/\Below w.heap.size w w':=by
 have H:=ag h;have HN:=ag hn;clear h hn;go_in;by_cases hb:65536<l.length
 ·go_wp2_with fail
  go_ret2
  unfold dK;rw[if_pos hb];exact⟨rfl,au _ _⟩
 ·have h1:¬((l.length:Int)>65536):=by omega
  go_wp2_with fail;go_loopw [14] (fun i w'=>∃k:Nat,k<=l.length/\i= .int .i64 (k:Int)/\Hid (Below w.heap.size w w')/\Hid ((l.take k).any nO=false)) (fun i _=>((l.length:Int) - intOf i).toNat)
  case atStart=>exact⟨0,by omega,rfl,ag (au _ _),ag rfl⟩
  case round=>
   obtain⟨k,hk,rfl,HB,hall⟩:=hrel;by_cases hlt:k<l.length
   ·obtain⟨x,hx⟩:=bE hlt;obtain⟨b1,o1,rfl,hs1,hc1⟩:=dH.at qN (Rd.below H.out HB.out) hx;have x0:=hc1 0 _ rfl;have x1:=hc1 1 _ rfl;have x2:=hc1 2 _ rfl;simp only[Nat.add_zero] at x0;clear hc1 hs1;by_cases hbad:nO x=true
    ·have hv:dK l=(0,1):=by unfold dK;rw[if_neg hb,if_pos (List.any_eq_true.2 ⟨x,bC hx,hbad⟩)]
     unfold nO at hbad;simp only[Bool.or_eq_true,decide_eq_true_eq] at hbad;have HV:=ag hv;clear hv hall;by_cases h2:x.kind>2
     ·clear hbad;go_wp2_with fail
      go_ret2
      rw[HV.out];exact⟨rfl,HB.out.alloc HB.out.size _⟩
     ·have h3:x.n<0:=by omega
      clear hbad;go_wp2_with fail
      go_ret2
      rw[HV.out];exact⟨rfl,HB.out.alloc HB.out.size _⟩
    ·have hk2:¬(x.kind>2):=by unfold nO at hbad;simp at hbad;omega
     have hn2:¬(x.n<0):=by unfold nO at hbad;simp at hbad;omega
     have HX:=ag hx;have HBAD:=ag hbad;clear hbad hx;go_wp2_with fail;refine⟨⟨k+1,by omega,by go_num,ag (HB.out.alloc HB.out.size _),ag ?_⟩,by simp[intOf];omega⟩;rw[bU HX.out,List.any_append,hall.out];simpa using HBAD.out
   ·obtain rfl:k=l.length:=by omega
    have Ea:=hall.out;rw[List.take_length] at Ea;have HA:=ag Ea;clear hall Ea;obtain⟨w1,rfl⟩:∃w1,w1=wr:=⟨_,rfl⟩;go_wp2_with fail;go_loopw [4,29] (fun nv i w'=>∃k:Nat,k<=l.length/\i= .int .i64 (k:Int)/\nv= .int .i64 (total (l.take k))/\total (l.take k)<=1048576/\Hid (Below w.heap.size w w')) (fun nv i _=>((l.length:Int) - intOf i).toNat)
    case atStart=>exact⟨0,by omega,rfl,rfl,by simp[total],HB⟩
    case round=>
     obtain⟨k,hk,rfl,rfl,htot,HB⟩:=hrel;by_cases hlt:k<l.length
     ·obtain⟨x,hx⟩:=bE hlt;obtain⟨b1,o1,rfl,hs1,hc1⟩:=dH.at qN (Rd.below H.out HB.out) hx;have x0:=hc1 0 _ rfl;have x1:=hc1 1 _ rfl;have x2:=hc1 2 _ rfl;simp only[Nat.add_zero] at x0;have hbx:nO x=false:=by
       have:=List.any_eq_false.1 HA.out x (bC hx);simpa using this
      have Zc:0<=x.n:=by unfold nO at hbx;simp at hbx;omega
      have hp0:=zD hbx;have hp1:=OM x;have ht0:0<=total (l.take k):=oI (by
       refine List.any_eq_false.2 fun y hy=>?_
       exact List.any_eq_false.1 HA.out y (List.mem_of_mem_take hy))
      have hsn:total (l.take (k+1))=total (l.take k)+pF x:=by rw[bU hx,nM]
      have hle:total (l.take (k+1))<=total l:=by
       have h1:=xB (l.take (k+1)) (l.drop (k+1));rw[List.take_append_drop] at h1;have:0<=total (l.drop (k+1)):=oI (by
        refine List.any_eq_false.2 fun y hy=>?_
        exact List.any_eq_false.1 HA.out y (List.mem_of_mem_drop hy))
       omega
      have WS:=ag hle;have HX:=ag hx;clear hc1 hs1 hx hbx hle;go_wp2_with fail;refine(VD _ x Zc).mono ?_;rintro e w2 ⟨rfl,hb2⟩;have HB2:=ag ((HB.out.alloc HB.out.size _).trans (hb2.mono (by have:=HB.out.size;simp;omega)));clear hb2;have zw:=ag hsn;clear hsn;generalize hT:total (l.take k)=T at*;generalize hP:pF x=pl at*;clear hT hP;by_cases hgt:T+pl>1048576
      ·go_wp2_with fail
       go_ret2
       have hv:dK l=(0,3):=by unfold dK;rw[if_neg hb,if_neg (by rw[HA.out];decide),if_pos (by have:=WS.out;have:=zw.out;omega)]
       rw[hv];exact⟨rfl,HB2.out⟩
      ·go_wp2_with fail;exact⟨⟨k+1,by omega,by go_num,by rw[zw.out],by rw[zw.out];omega,HB2⟩,by simp[intOf];omega⟩
     ·obtain rfl:k=l.length:=by omega
      go_wp2_with fail
      go_ret2
      rw[List.take_length] at htot⊢;refine⟨?_,HB.out⟩;have hv:dK l=(total l,0):=by unfold dK;rw[if_neg hb,if_neg (by rw[HA.out];decide),if_neg (by omega)]
      rw[hv];rfl
end
theorem bO {w:World} {base:Nat} {e:TypeId} {size:Nat} {v:Value} {n:Nat} {xs:List Value} (h:w.ownsRow base e size v n xs) {g:Nat} (hg:v.ownBlock=some g):base<=g/\g<w.heap.size:=by
 rcases h.2 with⟨rfl,_⟩|⟨g',cap,cur,rfl,hb,hgg,_⟩
 ·cases hg
 ·simp only[Value.ownBlock,bH] at hg;subst hg;exact⟨hb,lt_of_block hgg⟩
theorem IG {α:Type} {enc:α->List Value} {sz:Nat} (he:∀a,(enc a).length=sz) (l:List α):∀{k:Nat} {x y:α} {j:Nat} {u:Value},l[k]? =some x->enc y=(enc x).set j u->j<sz->(l.set k y).flatMap enc=(l.flatMap enc).set (k*sz+j) u:=by
 induction l with
 |nil=>intro k x y j u h;simp at h
 |cons a l ih=>
  intro k x y j u h hy hj;cases k with
  |zero=>
   simp only[List.getElem?_cons_zero,bH] at h;subst h;rw[List.set_cons_zero,List.flatMap_cons,List.flatMap_cons,hy,Nat.zero_mul,Nat.zero_add,List.set_append_left _ _ (by rw[he];exact hj)]
  |succ k=>
   simp only[List.getElem?_cons_succ] at h;rw[List.set_cons_succ,List.flatMap_cons,List.flatMap_cons,ih h hy hj,List.set_append_right _ _ (by rw[he,Nat.add_mul];omega),he];congr 2
   rw[Nat.add_mul];omega
theorem vW {α:Type} {enc:α->List Value} {sz:Nat} (he:∀a,(enc a).length=sz) {w:World} {base:Nat} {e:TypeId} {g o n c:Nat} {l:List α} (h:w.ownsRow base e sz (.slice (some ⟨g,o,none⟩) n c) n (l.flatMap enc))
  {k:Nat} {x y:α} {j:Nat} {u:Value} (hx:l[k]? =some x) (hy:enc y=(enc x).set j u) (hj:j<sz):
  o=0/\(w.setCell ⟨g,k*sz+j,none⟩ u).ownsRow base e sz (.slice (some ⟨g,o,none⟩) n c) n ((l.set k y).flatMap enc):=by
 rcases h.2 with⟨hv,_⟩|⟨g',cap,cur,hv,hb,hg,hc,hm,hs,ht⟩
 ·simp at hv
 ·simp only[Value.slice.injEq,bH,Addr.mk.injEq,and_true,true_and] at hv;obtain⟨⟨rfl,rfl⟩,rfl⟩:=hv;refine⟨rfl,by rw[IG he l hx hy hj,List.length_set];exact h.1,.inr ⟨g,c,cur.setIfInBounds (k*sz+j) u,rfl,hb,ai u hg,hc,hm,by simpa using hs,?_⟩⟩;rw[Array.toList_setIfInBounds,List.take_set,ht,IG he l hx hy hj]
theorem aP {w w':World} {base:Nat} {e:TypeId} {size:Nat} {v:Value} {n:Nat} {xs:List Value} (h:w.ownsRow base e size v n xs) (hk:∀g,v.ownBlock=some g->g<w.heap.size->w'.heap[g]? =w.heap[g]?):w'.ownsRow base e size v n xs:=by
 refine⟨h.1,?_⟩;rcases h.2 with hn|⟨g',cap,cur,rfl,hb,hgg,rest⟩
 ·exact .inl hn
 ·refine .inr ⟨g',cap,cur,rfl,hb,?_,rest⟩;rw[hk g' rfl (Array.getElem?_eq_some_iff.1 hgg).1];exact hgg
theorem XI {w:World} {base:Nat} {e:TypeId} {size:Nat} {g n cap:Nat} {xs:List Value} {cur:Array Value} (h:w.ownsRow base e size (.slice (some ⟨g,0,none⟩) n cap) n xs) (hg:w.heap[g]? =some (.cells cur e (0,0))):n*size<=cur.size:=by
 rcases h.2 with⟨hv,_⟩|⟨g',cap',cur',hv,hb,hg',hc,hm,hs,ht⟩
 ·simp at hv
 ·simp only[Value.slice.injEq,bH,Addr.mk.injEq,and_true,true_and] at hv;obtain⟨rfl,rfl⟩:=hv;rw[hg] at hg';simp only[bH,Obj.cells.injEq,true_and] at hg';obtain⟨rfl,_⟩:=hg';rw[hs];exact Nat.mul_le_mul_right _ hc
section
def mV (x:Ev):List Value:=[.int .i64 x.th,.int .u8 x.k,.int .i64 x.a,.int .i64 x.b]
theorem Re:∀a,(mV a).length=4:=fun _=>rfl
def encI (z:Int):List Value:=[.int .i64 z]
theorem ko:∀a,(encI a).length=1:=fun _=>rfl
structure TX where
 th:MT
 cv:Value
 bb:Nat
 ov:Value
def uE (x:TX):List Value:=
 [x.cv,.int .i64 (x.th.reg 0),.int .i64 (x.th.reg 1),.int .i64 (x.th.reg 2),.int .i64 (x.th.reg 3),.int .i64 (x.th.reg 4),.int .i64 (x.th.reg 5),.int .i64 (x.th.reg 6),.int .i64 (x.th.reg 7),
  .int .i64 x.th.at_,.pointer (some ⟨x.bb,0,none⟩),x.ov,.int .u8 x.th.fin]
theorem vS:∀x,(uE x).length=13:=fun _=>rfl
theorem vZ (x:TX):∀r,r<8->(uE x)[1+r]? =some (.int .i64 (x.th.reg r))
 |0,_=>rfl|1,_=>rfl|2,_=>rfl|3,_=>rfl|4,_=>rfl|5,_=>rfl|6,_=>rfl|7,_=>rfl
 |n+8,h=>absurd h (by omega)
theorem Ji (x:TX) (v:Int):∀r,r<8->uE {x with th:={x.th with reg:=upd x.th.reg r v}}=(uE x).set (1+r) (.int .i64 v)
 |0,_=>rfl|1,_=>rfl|2,_=>rfl|3,_=>rfl|4,_=>rfl|5,_=>rfl|6,_=>rfl|7,_=>rfl
 |n+8,h=>absurd h (by omega)
structure X3 (w:World) (base:Nat) (own:Nat->Nat) (i:Nat) (x:TX):Prop where
 code:dH b_ w 6 x.cv x.th.code
 mg:∀g,x.th.code≠[]->x.cv.ownBlock=some g->base<=g/\own g=5+3*i
 ring:∃c f,Ring w x.bb x.th.wait c f
 qD:base<=x.bb/\own x.bb=6+3*i
 out:w.ownsRow base 2 1 x.ov x.th.out.length (x.th.out.flatMap encI)
 outT:∀g,x.ov.ownBlock=some g->own g=7+3*i
structure fJ (w:World) (base b:Nat) (own:Nat->Nat) (mm:MM) (xs:List TX) (mv tv ev:Value):Prop where
 blk:w.heap[b]? =some (.cells #[.bool true,mv,tv,ev] 179 (0,0))
 bT:base<=b/\own b=1
 mem:w.ownsRow base 2 1 mv mm.mem.length (mm.mem.flatMap encI)
 memT:∀g,mv.ownBlock=some g->own g=2
 aT:w.ownsRow base 184 13 tv xs.length (xs.flatMap uE)
 fK:∀g,tv.ownBlock=some g->own g=3
 evs:w.ownsRow base 127 4 ev mm.evs.length (mm.evs.flatMap mV)
 j6:∀g,ev.ownBlock=some g->own g=4
 same:mm.aT=xs.map TX.th
 th:∀(i:Nat) x,xs[i]? =some x->X3 w base own i x
 fresh:∀k,w.heap.size<=k->own k=0
theorem dH.zN {α:Type} {enc:α->List Value} {w w':World} {sz:Nat} {v:Value} {l:List α} (h:dH enc w sz v l) (hk:∀g,l≠[]->v.ownBlock=some g->g<w.heap.size->w'.heap[g]? =w.heap[g]?):dH enc w' sz v l:=by
 by_cases e:l=[]
 ·subst e;obtain⟨h1,ao,cap,h2,h3,h4⟩:=h;exact⟨h1,ao,cap,h2,h3,fun hn=>absurd hn (by simp)⟩
 ·exact h.keep fun g hg hl=>hk g e hg hl
theorem X3.keep {w w':World} {base:Nat} {own own':Nat->Nat} {i:Nat} {x:TX} (h:X3 w base own i x) (ho:∀k,k<w.heap.size->own' k=own k)
  (hk:∀g,own g=5+3*i\/own g=6+3*i\/own g=7+3*i->g<w.heap.size->w'.heap[g]? =w.heap[g]?):X3 w' base own' i x:=by
 obtain⟨c,f,hr⟩:=h.ring;refine⟨h.code.zN fun g hn hg hl=>hk g (.inl (h.mg g hn hg).2) hl,fun g hn hg=>?_,⟨c,f,hr.keep (hk _ (.inr (.inl h.qD.2)) hr.lt)⟩,⟨h.qD.1,by rw[ho _ hr.lt];exact h.qD.2⟩,
  aP h.out fun g hg hl=>hk g (.inr (.inr (h.outT g hg))) hl,fun g hg=>by rw[ho _ (bO h.out hg).2];exact h.outT g hg⟩
 refine⟨(h.mg g hn hg).1,?_⟩;obtain⟨h1,ao,cap,h2,h3,h4⟩:=h.code;obtain⟨b,off,rfl,hb,_⟩:=h4 (List.length_pos_iff.2 hn);rw[h2] at hg;simp only[Value.ownBlock,bH] at hg;subst hg;rw[ho _ hb];exact(h.mg b hn (by rw[h2];rfl)).2
variable {w w':World} {base b:Nat} {own own':Nat->Nat} {mm:MM} {xs:List TX} {mv tv ev:Value}
theorem fJ.lt (h:fJ w base b own mm xs mv tv ev):b<w.heap.size:=lt_of_block h.blk
theorem fJ.fQ (h:fJ w base b own mm xs mv tv ev):base<=w.heap.size:=Nat.le_trans h.bT.1 (Nat.le_of_lt h.lt)
theorem fJ.keep (h:fJ w base b own mm xs mv tv ev) (hs:w.heap.size<=w'.heap.size) (hk:∀g,own g≠0->g<w.heap.size->w'.heap[g]? =w.heap[g]?):fJ w' base b own mm xs mv tv ev:=
 ⟨(hk b (by rw[h.bT.2];decide) h.lt).trans h.blk,h.bT,aP h.mem fun g hg hl=>hk g (by rw[h.memT g hg];decide) hl,h.memT,
  aP h.aT fun g hg hl=>hk g (by rw[h.fK g hg];decide) hl,h.fK,
  aP h.evs fun g hg hl=>hk g (by rw[h.j6 g hg];decide) hl,h.j6,h.same,
  fun i x hx=>(h.th i x hx).keep (fun _ _=>rfl) fun g hg hl=>hk g (by omega) hl,fun k hk'=>h.fresh k (by omega)⟩
theorem fJ.below (h:fJ w base b own mm xs mv tv ev) (hb:Below w.heap.size w w'):fJ w' base b own mm xs mv tv ev:=h.keep hb.size fun g _ hl=>hb.block g hl
theorem fJ.drewN (h:fJ w base b own mm xs mv tv ev) (n:Nat):fJ (w.drewN n) base b own mm xs mv tv ev:=h.keep (aB _) fun g _ hl=>rfl
theorem fJ.drew (h:fJ w base b own mm xs mv tv ev):fJ w.drew base b own mm xs mv tv ev:=h.keep (aB _) fun g _ hl=>rfl
theorem fJ.Ja {S:Nat->Prop} (h:fJ w base b own mm xs mv tv ev) (hc:bz S w w') (hs:∀k,own k≠0->¬S k):fJ w' base b own mm xs mv tv ev:=h.keep hc.size fun g hg hl=>hc.block g hl (hs g hg)
theorem bL (w:World) (p:Addr) (u:Value):(w.setCell p u).heap.size=w.heap.size:=by simp[World.setCell]
theorem bN {α:Type} {l:List α} {n:Nat} {x:α} (h:l[n]? =some x) (y:α):(l.set n y)[n]? =some y:=by
 rw[List.getElem?_set_self (bu.1 h).1]
theorem fJ.Bg (h:fJ w base b own mm xs mv tv ev) {n:Nat} {x:TX} (hx:xs[n]? =some x):mm.aT[n]? =some x.th:=by rw[h.same];simp[hx]
theorem fJ.yw (h:fJ w base b own mm xs mv tv ev) {n:Nat} {x:TX} (hx:xs[n]? =some x):∃tb cap,tv= .slice (some ⟨tb,0,none⟩) xs.length cap/\own tb=3:=by
 have hl:=(bu.1 hx).1;obtain⟨ao,cap,rfl⟩:=aS h.aT;obtain⟨tb,cur,rfl,_⟩:=bX h.aT (by omega);exact⟨tb,cap,rfl,h.fK tb rfl⟩
theorem fJ.cell {tb cap:Nat} (h:fJ w base b own mm xs mv (.slice (some ⟨tb,0,none⟩) xs.length cap) ev) {n:Nat} {x:TX} (hx:xs[n]? =some x) (j:Nat) (u:Value) (hu:(uE x)[j]? =some u):w.cell? ⟨tb,n*13+j,none⟩=some u:=by
 obtain⟨b',off,e1,hb,hc⟩:=dH.at (enc:=uE) vS (Rd.gu h.aT) hx;simp only[bH,Addr.mk.injEq,and_true] at e1;obtain⟨rfl,rfl⟩:=e1;have:=hc j u hu
 rwa [Nat.zero_add] at this
theorem fJ.free {tb cap:Nat} (h:fJ w base b own mm xs mv (.slice (some ⟨tb,0,none⟩) xs.length cap) ev) (hn:0<xs.length) (o:Nat):w.frozen? ⟨tb,o,none⟩=false:=by
 obtain⟨tb',cur,e1,_,hg,_⟩:=bX h.aT hn;simp only[bH,Addr.mk.injEq,and_true] at e1;subst e1;exact ah hg
theorem fJ.iN (h:fJ w base b own mm xs mv tv ev) (j:Nat) (u:Value) (hu:(#[Value.bool true,mv,tv,ev])[j]? =some u):w.cell? ⟨b,j,none⟩=some u:=af h.blk hu
theorem fJ.Zf (h:fJ w base b own mm xs mv tv ev) (o:Nat):w.frozen? ⟨b,o,none⟩=false:=ah h.blk
theorem fJ.aW {tb cap:Nat} (h:fJ w base b own mm xs mv (.slice (some ⟨tb,0,none⟩) xs.length cap) ev) {n:Nat} {x:TX} (hx:xs[n]? =some x) (y:TX) (j:Nat) (u:Value) (hj:j<13) (he:uE y=(uE x).set j u)
  (h1:y.cv=x.cv) (h2:y.th.code=x.th.code) (h3:y.bb=x.bb) (h4:y.th.wait=x.th.wait) (h5:y.ov=x.ov) (h6:y.th.out=x.th.out):
  fJ (w.setCell ⟨tb,n*13+j,none⟩ u) base b own (mm.put n y.th) (xs.set n y) mv (.slice (some ⟨tb,0,none⟩) (xs.set n y).length cap) ev:=by
 have hk:∀g,own g≠3->(w.setCell ⟨tb,n*13+j,none⟩ u).heap[g]? =w.heap[g]?:=fun g hg=>dm _ _ _ _ fun e=>hg (by rw[e];exact h.fK tb rfl)
 have hr:=(vW vS h.aT hx he hj).2;refine⟨by rw[List.length_set];exact(hk b (by rw[h.bT.2];decide)).trans h.blk,h.bT,aP h.mem fun g hg _=>hk g (by rw[h.memT g hg];decide),h.memT,by rw[List.length_set];exact hr,h.fK,aP h.evs fun g hg _=>hk g (by rw[h.j6 g hg];decide),h.j6,
  by rw[MM.put,List.map_set,h.same],fun i z hz=>?_,fun k hk'=>h.fresh k (by rw[bL] at hk';exact hk')⟩
 rw[List.getElem?_set] at hz;split at hz
 ·rename_i e;subst e;split at hz
  ·cases hz;have ht:=(h.th n x hx).keep (w':=w.setCell ⟨tb,n*13+j,none⟩ u) (own':=own) (fun _ _=>rfl) fun g hg _=>hk g (by omega)
   exact⟨by rw[h1,h2];exact ht.code,by rw[h1,h2];exact ht.mg,by rw[h3,h4];exact ht.ring,by rw[h3];exact ht.qD,by rw[h5,h6];exact ht.out,by rw[h5];exact ht.outT⟩
  ·cases hz
 ·exact(h.th i z hz).keep (fun _ _=>rfl) fun g hg _=>hk g (by omega)
theorem fJ.Ur (h:fJ w base b own mm xs mv tv ev) {n:Nat} {x:TX} (hx:xs[n]? =some x) (hc:bz (fun k=>k=x.bb) w w') {q:List (Int×Int)} {c:Array Value} {f:Nat} (hr:Ring w' x.bb q c f):
  fJ w' base b own (mm.put n {x.th with wait:=q}) (xs.set n {x with th:={x.th with wait:=q}}) mv tv ev:=by
 have hb:=(h.th n x hx).qD;have hk:∀g,own g≠6+3*n->g<w.heap.size->w'.heap[g]? =w.heap[g]?:=fun g hg hl=>hc.block g hl fun e=>hg (by rw[e];exact hb.2)
 have hs:(xs.set n {x with th:={x.th with wait:=q}}).flatMap uE=xs.flatMap uE:=by
  refine List.ext_getElem? fun k=>?_
  have:=IG (j:=0) (u:=x.cv) vS xs hx (y:={x with th:={x.th with wait:=q}}) rfl (by decide);rw[this,List.getElem?_set];split
  ·rename_i e;subst e;have h9:=j_ vS xs hx 0 x.cv rfl;rw[h9,if_pos (bu.1 h9).1]
  ·rfl
 refine⟨(hk b (by rw[h.bT.2];omega) h.lt).trans h.blk,h.bT,aP h.mem fun g hg hl=>hk g (by rw[h.memT g hg];omega) hl,h.memT,by rw[List.length_set,hs];exact aP h.aT fun g hg hl=>hk g (by rw[h.fK g hg];omega) hl,h.fK,
  aP h.evs fun g hg hl=>hk g (by rw[h.j6 g hg];omega) hl,h.j6,by rw[MM.put,List.map_set,h.same],fun i z hz=>?_,fun k hk'=>h.fresh k (by have:=hc.size;omega)⟩
 rw[List.getElem?_set] at hz;split at hz
 ·rename_i e;subst e;split at hz
  ·cases hz;have ht:=h.th n x hx;refine⟨ht.code.zN fun g hn hg hl=>hk g (by rw[(ht.mg g hn hg).2];omega) hl,ht.mg,⟨c,f,hr⟩,hb,aP ht.out fun g hg hl=>hk g (by rw[ht.outT g hg];omega) hl,ht.outT⟩
  ·cases hz
 ·rename_i hne;exact(h.th i z hz).keep (fun _ _=>rfl) fun g hg hl=>hk g (by omega) hl
theorem fJ.word {mb mc:Nat} (h:fJ w base b own mm xs (.slice (some ⟨mb,0,none⟩) mm.mem.length mc) tv ev) {a:Nat} (ha:a<mm.mem.length) (v:Int):
  fJ (w.setCell ⟨mb,a,none⟩ (.int .i64 v)) base b own {mm with mem:=mm.mem.set a v} xs (.slice (some ⟨mb,0,none⟩) mm.mem.length mc) tv ev:=by
 have hk:∀g,own g≠2->(w.setCell ⟨mb,a,none⟩ (.int .i64 v)).heap[g]? =w.heap[g]?:=fun g hg=>dm _ _ _ _ fun e=>hg (by rw[e];exact h.memT mb rfl)
 have hr:=(vW (j:=0) (y:=v) (u:=.int .i64 v) ko h.mem (eO ha) rfl (by decide)).2;rw[Nat.mul_one,Nat.add_zero] at hr;exact⟨(hk b (by rw[h.bT.2];decide)).trans h.blk,h.bT,by rw[List.length_set];exact hr,h.memT,aP h.aT fun g hg _=>hk g (by rw[h.fK g hg];decide),h.fK,aP h.evs fun g hg _=>hk g (by rw[h.j6 g hg];decide),h.j6,h.same,
  fun i z hz=>(h.th i z hz).keep (fun _ _=>rfl) fun g hg _=>hk g (by omega),fun k hk'=>h.fresh k (by rw[bL] at hk';exact hk')⟩
theorem fJ.qA (h:fJ w base b own mm xs mv tv ev) (hm:0<mm.mem.length):∃mb cap,mv= .slice (some ⟨mb,0,none⟩) mm.mem.length cap/\own mb=2:=by
 obtain⟨ao,cap,rfl⟩:=aS h.mem;obtain⟨mb,cur,rfl,_⟩:=bX h.mem hm;exact⟨mb,cap,rfl,h.memT mb rfl⟩
theorem fJ.Be {mb mc:Nat} (h:fJ w base b own mm xs (.slice (some ⟨mb,0,none⟩) mm.mem.length mc) tv ev) {a:Nat} (ha:a<mm.mem.length):w.cell? ⟨mb,a,none⟩=some (.int .i64 (mm.mem.getD a 0)):=by
 obtain⟨b',off,e1,hb,hc⟩:=dH.at (enc:=encI) ko (Rd.gu h.mem) (eO ha);simp only[bH,Addr.mk.injEq,and_true] at e1;obtain⟨rfl,rfl⟩:=e1;have:=hc 0 _ rfl;rw[Nat.zero_add,Nat.mul_one,Nat.add_zero] at this;rw[this];simp[List.getD,ha]
theorem fJ.C_ {mb mc:Nat} (h:fJ w base b own mm xs (.slice (some ⟨mb,0,none⟩) mm.mem.length mc) tv ev) (hn:0<mm.mem.length) (o:Nat):w.frozen? ⟨mb,o,none⟩=false:=by
 obtain⟨tb',cur,e1,_,hg,_⟩:=bX h.mem hn;simp only[bH,Addr.mk.injEq,and_true] at e1;subst e1;exact ah hg
def retag (own:Nat->Nat) (v:Value) (p n:Nat):Nat->Nat:=fun k=>if v.ownBlock=some k/\n<=k then p else own k
theorem jk {own:Nat->Nat} {v:Value} {p n k:Nat} (h:k<n):retag own v p n k=own k:=by
 unfold retag;rw[if_neg (by omega)]
theorem qO {own:Nat->Nat} {v u:Value} {p n g:Nat} (hf:∀g,v.ownBlock=some g->u.ownBlock=some g\/n<=g) (hu:∀g,u.ownBlock=some g->own g=p) (hg:v.ownBlock=some g):retag own v p n g=p:=by
 unfold retag;split
 ·rfl
 ·rename_i hn;rcases hf g hg with e|e
  ·exact hu g e
  ·exact absurd ⟨hg,e⟩ hn
theorem nV {own:Nat->Nat} {v:Value} {p n m k:Nat} (hl:∀g,v.ownBlock=some g->g<m) (h0:own k=0) (hk:m<=k):retag own v p n k=0:=by
 unfold retag;rw[if_neg (fun h=>by have:=hl k h.1;omega)];exact h0
theorem fJ.event (h:fJ w base b own mm xs mv tv ev) (es:List Ev) (ev':Value) (hc:bz (fun k=>k=b\/ev.ownBlock=some k) w w') (hb:w'.heap[b]? =some (.cells #[.bool true,mv,tv,ev'] 179 (0,0)))
  (he:w'.ownsRow base 127 4 ev' es.length (es.flatMap mV)) (hf:∀g,ev'.ownBlock=some g->ev.ownBlock=some g\/w.heap.size<=g):
  fJ w' base b (retag own ev' 4 w.heap.size) {mm with evs:=es} xs mv tv ev':=by
 have ho:∀k,k<w.heap.size->retag own ev' 4 w.heap.size k=own k:=fun k hk=>jk hk
 have hk:∀g,own g≠1->own g≠4->g<w.heap.size->w'.heap[g]? =w.heap[g]?:=fun g h1 h4 hl=>hc.block g hl fun e=>by
  rcases e with e|e
  ·exact h1 (by rw[e];exact h.bT.2)
  ·exact h4 (h.j6 g e)
 exact⟨hb,⟨h.bT.1,by rw[ho _ h.lt];exact h.bT.2⟩,aP h.mem fun g hg hl=>hk g (by rw[h.memT g hg];decide) (by rw[h.memT g hg];decide) hl,fun g hg=>by rw[ho _ (bO h.mem hg).2];exact h.memT g hg,
  aP h.aT fun g hg hl=>hk g (by rw[h.fK g hg];decide) (by rw[h.fK g hg];decide) hl,fun g hg=>by rw[ho _ (bO h.aT hg).2];exact h.fK g hg,he,fun g hg=>qO hf h.j6 hg,h.same,
  fun i z hz=>(h.th i z hz).keep ho fun g hg hl=>hk g (by omega) (by omega) hl,fun k hk'=>nV (fun g hg=>(bO he hg).2) (h.fresh k (by have:=hc.size;omega)) hk'⟩
theorem fJ.told {tb cap:Nat} (h:fJ w base b own mm xs mv (.slice (some ⟨tb,0,none⟩) xs.length cap) ev) {n:Nat} {x:TX} (hx:xs[n]? =some x) (os:List Int) (Vf:Value) (hc:bz (fun k=>x.ov.ownBlock=some k) w w')
  (he:w'.ownsRow base 2 1 Vf os.length (os.flatMap encI)) (hf:∀g,Vf.ownBlock=some g->x.ov.ownBlock=some g\/w.heap.size<=g):
  fJ (w'.setCell ⟨tb,n*13+11,none⟩ Vf) base b (retag own Vf (7+3*n) w.heap.size) (mm.put n {x.th with out:=os}) (xs.set n {x with th:={x.th with out:=os},ov:=Vf}) mv (.slice (some ⟨tb,0,none⟩) (xs.set n {x with th:={x.th with out:=os},ov:=Vf}).length cap) ev:=by
 have ho:∀k,k<w.heap.size->retag own Vf (7+3*n) w.heap.size k=own k:=fun k hk=>jk hk
 have hx7:=(h.th n x hx).outT;have hk0:∀g,own g≠7+3*n->g<w.heap.size->w'.heap[g]? =w.heap[g]?:=fun g h1 hl=>hc.block g hl fun e=>h1 (hx7 g e)
 have hk:∀g,own g≠3->own g≠7+3*n->g<w.heap.size->(w'.setCell ⟨tb,n*13+11,none⟩ Vf).heap[g]? =w.heap[g]?:=fun g h3 h7 hl=>by
  rw[dm _ _ _ _ fun e=>h3 (by rw[e];exact h.fK tb rfl)];exact hk0 g h7 hl
 have htb:tb<w.heap.size:=(bO h.aT rfl).2;have hr:=(vW (j:=11) (y:={x with th:={x.th with out:=os},ov:=Vf}) (u:=Vf) vS (aP h.aT fun g hg hl=>hk0 g (by rw[h.fK g hg];omega) hl) hx rfl (by decide)).2;have Wn:∀g,Vf.ownBlock=some g->g≠tb:=fun g hg e=>by
  rcases hf g hg with e'|e'
  ·have:=hx7 g e';rw[e,h.fK tb rfl] at this;omega
  ·omega
 refine⟨by rw[List.length_set];exact(hk b (by rw[h.bT.2];decide) (by rw[h.bT.2];omega) h.lt).trans h.blk,⟨h.bT.1,by rw[ho _ h.lt];exact h.bT.2⟩,aP h.mem fun g hg hl=>hk g (by rw[h.memT g hg];decide) (by rw[h.memT g hg];omega) hl,fun g hg=>by rw[ho _ (bO h.mem hg).2];exact h.memT g hg,
  by rw[List.length_set];exact hr,fun g hg=>by rw[ho _ (bO h.aT hg).2];exact h.fK g hg,aP h.evs fun g hg hl=>hk g (by rw[h.j6 g hg];decide) (by rw[h.j6 g hg];omega) hl,fun g hg=>by rw[ho _ (bO h.evs hg).2];exact h.j6 g hg,
  by rw[MM.put,List.map_set,h.same],fun i z hz=>?_,fun k hk'=>by rw[bL] at hk';exact nV (fun g hg=>(bO he hg).2) (h.fresh k (by have:=hc.size;omega)) hk'⟩
 rw[List.getElem?_set] at hz;split at hz
 ·rename_i e;subst e;split at hz
  ·cases hz;have ht:=h.th n x hx;obtain⟨c,f,hrg⟩:=ht.ring;have htk:=ht;refine⟨ht.code.zN fun g hn hg hl=>hk g (by rw[(ht.mg g hn hg).2];omega) (by rw[(ht.mg g hn hg).2];omega) hl,fun g hn hg=>?_,⟨c,f,hrg.keep (hk _ (by rw[ht.qD.2];omega) (by rw[ht.qD.2];omega) hrg.lt)⟩,
    ⟨ht.qD.1,by rw[ho _ hrg.lt];exact ht.qD.2⟩,aP he fun g hg _=>dm _ _ _ _ (Wn g hg),fun g hg=>qO hf hx7 hg⟩
   refine⟨(ht.mg g hn hg).1,?_⟩;obtain⟨h1,ao,cp,h2,h3,h4⟩:=ht.code;obtain⟨bb,off,rfl,hb,_⟩:=h4 (List.length_pos_iff.2 hn);rw[h2] at hg;simp only[Value.ownBlock,bH] at hg;subst hg;rw[ho _ hb];exact(ht.mg bb hn (by rw[h2];rfl)).2
  ·cases hz
 ·rename_i hne;exact(h.th i z hz).keep ho fun g hg hl=>hk g (by omega) (by omega) hl
def ow (w:World) (base b:Nat) (own:Nat->Nat) (j5:MM) (w':World):Prop:=
 (∃own' xs mv tv ev,fJ w' base b own' j5 xs mv tv ev/\∀k,k<w.heap.size->own' k=own k)/\bz (fun k=>own k≠0/\¬(5<=own k/\own k%3=2)) w w'
end
section
variable {w w':World} {base b:Nat} {own own':Nat->Nat} {mm:MM} {xs:List TX} {mv tv ev:Value}
theorem wm {tb cap:Nat} (h:fJ w base b own mm xs mv (.slice (some ⟨tb,0,none⟩) xs.length cap) ev) {n:Nat} {x:TX} (hx:xs[n]? =some x):
  Calls Tryz.prog 100 #[.pointer (some ⟨b,0,none⟩),.int .i64 (n:Int)] w fun r w'=>r= .returned (.pointer (some ⟨tb,n*13,none⟩))/\w'=w:=by
 have c0:=h.iN 0 _ rfl;have c2:=h.iN 2 _ rfl;have hn:n<xs.length:=(bu.1 hx).1;clear h hx;go_in;go_wp2_with fail;go_ret;exact⟨rfl,rfl⟩
theorem ZJ (h:fJ w base b own mm xs mv tv ev) {z:Int} (hz:z<0\/xs.length<=z):
  Calls Tryz.prog 100 #[.pointer (some ⟨b,0,none⟩),.int .i64 z] w fun r w'=>r= .returned (.pointer none)/\w'=w:=by
 obtain⟨ao,cp,rfl⟩:=aS h.aT;have c0:=h.iN 0 _ rfl;have c2:=h.iN 2 _ rfl;clear h;by_cases h0:z<0
 ·go_in;go_wp2_with fail;go_ret;exact⟨rfl,rfl⟩
 ·have h1:(xs.length:Int)<=z:=by omega
  clear hz;go_in;go_wp2_with fail;go_ret;exact⟨rfl,rfl⟩
theorem JF (h:fJ w base b own mm xs mv tv ev) {a:Int} (ha:0<=a/\a<mm.mem.length) (hl:mm.mem.length<=262144):
  Calls Tryz.prog 141 #[.pointer (some ⟨b,0,none⟩),.int .i64 a] w fun r w'=>r= .returned (.int .i64 a)/\w'=w:=by
 obtain⟨ao,cp,rfl⟩:=aS h.mem;have c1:=h.iN 1 _ rfl;have e1:IntKind.i64.wrap (mm.mem.length:Int)=mm.mem.length:=IntWalk.i64_in _ (by omega);have e2:IntKind.i64.wrap a=a:=IntWalk.i64_in _ (by omega);clear h;go_in;go_wp2_with fail;go_ret;exact⟨rfl,rfl⟩
def ru (k:Int):PanicEntry:={v:=.iface 188 (.int .u8 k),recovered:=false}
theorem FR (h:fJ w base b own mm xs mv tv ev) {a:Int} (ha:¬(0<=a/\a<mm.mem.length)) (hl:mm.mem.length<=262144):
  Calls Tryz.prog 141 #[.pointer (some ⟨b,0,none⟩),.int .i64 a] w fun r w'=>r= .panicked [ru 8]/\w'=w:=by
 obtain⟨ao,cp,rfl⟩:=aS h.mem;have c1:=h.iN 1 _ rfl;have e1:IntKind.i64.wrap (mm.mem.length:Int)=mm.mem.length:=IntWalk.i64_in _ (by omega);clear h;by_cases h0:a<0
 ·clear ha;go_in;go_wp2_with fail;exact⟨rfl,rfl,rfl⟩
 ·have h1:(mm.mem.length:Int)<=a:=by omega
  clear ha;go_in;go_wp2_with fail;exact⟨rfl,rfl,rfl⟩
theorem bz.imp {S T:Nat->Prop} {a c:World} (h:bz S a c) (hs:∀k,k<a.heap.size->S k->T k):bz T a c:=
 ⟨h.os,h.tape,h.output,h.size,fun k hk hn=>h.block k hk fun hS=>hn (hs k hk hS)⟩
theorem UC:(Tryz.prog.info? 127).map (fun i=>(i.zero,i.size,i.bytes))=some (some (.agg #[.int .i64 0,.int .u8 0,.int .i64 0,.int .i64 0]),4,32):=by kernel_rfl
theorem VN (x:Ev):∀u∈mV x,u.oneCell'=true:=by
 intro u hu;simp[mV] at hu;rcases hu with rfl|rfl|rfl|rfl<;>rfl
theorem Cg {P:Program} {w:World} (d:Nat) (t e:TypeId) (tb o o':Nat) (h:P.underlying t=some (.pointer e)) {i:TypeInfo} (hi:P.info? e=some i) (hs:i.size≠0):
  (Op.equalIn (d+1) t (.pointer (some ⟨tb,o,none⟩)) (.pointer (some ⟨tb,o',none⟩))).run P w= .ok (decide (o=o')) w:=by
 have h3:((⟨tb,o,none⟩:Addr)==⟨tb,o',none⟩)=decide (o=o'):=by
  rw[Bool.eq_iff_iff];simp
 simp[Op.equalIn,run_underlying h,sizeOf,typeInfo,hi,hs,sameAddr,h3]
theorem abP:(Tryz.prog.info? 184).map (·.size)=some 13:=by kernel_rfl
theorem ND (w:World) (tb o o':Nat):Sem.run Tryz.prog (binOp BinOp.eql 186 (.pointer (some ⟨tb,o,none⟩)) (.pointer (some ⟨tb,o',none⟩))) w= .ok (.bool (decide (o=o'))) w:=by
 obtain⟨i,hi,hs⟩:∃i,Tryz.prog.info? 184=some i/\i.size=13:=by
  have:=abP;cases hq:Tryz.prog.info? 184 with
  |none=>rw[hq] at this;cases this
  |some i=>rw[hq] at this;exact⟨i,rfl,by simpa using this⟩
 have:=Cg (P:=Tryz.prog) (w:=w) 9999 186 184 tb o o' Tryz.underlying186 hi (by omega);simp[binOp,Op.equal,Op.maxDepth,this]
def MW (base b:Nat) (own:Nat->Nat) (mm:MM) (xs:List TX) (mv tv:Value) (w w':World):Prop:=
 (∃own' ev',fJ w' base b own' mm xs mv tv ev'/\∀k,k<w.heap.size->own' k=own k)/\bz (fun k=>own k=1\/own k=4) w w'
theorem um {tb cap:Nat} (h:fJ w base b own mm xs mv (.slice (some ⟨tb,0,none⟩) xs.length cap) ev) {n:Nat} {x:TX} (hx:xs[n]? =some x) (hlen:mm.evs.length<1000000000) (h4:xs.length<=4) (k:Int) (a c:Int):
  Calls Tryz.prog 102 #[.pointer (some ⟨b,0,none⟩),.pointer (some ⟨tb,n*13,none⟩),.int .u8 k,.int .i64 a,.int .i64 c] w fun r w'=>r= .returned (.tuple #[])/\MW base b own (mm.tell n k a c) xs mv (.slice (some ⟨tb,0,none⟩) xs.length cap) w w':=by
 have c2:=h.iN 2 _ rfl;have c3:=h.iN 3 _ rfl;have hn:n<xs.length:=(bu.1 hx).1;have H:=ag h;have HX:=ag hx;have HL:=ag hlen;obtain⟨i0,hi,hz0,hz1,hz2⟩:=info_parts UC;have HI:=ag hi;have HZ0:=ag hz0;have HZ1:=ag hz1;have HZ2:=ag hz2;clear h hx hlen hi hz0 hz1 hz2;go_in;go_wp2_with fail;go_loopw [16] (fun i w'=>∃q:Nat,q<=xs.length/\i= .int .i64 (q:Int)/\(q<=n/\w'=w\/n<q/\Hid (MW base b own (mm.tell n k a c) xs mv (.slice (some ⟨tb,0,none⟩) xs.length cap) w w'))) (fun i _=>((xs.length:Int) - intOf i).toNat)
 case atStart=>exact⟨0,by omega,rfl,.inl ⟨by omega,rfl⟩⟩
 case round=>
  obtain⟨q,hq,rfl,hw⟩:=hrel;by_cases hlt:q<xs.length
  ·rcases hw with⟨hqn,rfl⟩|⟨hqn,HE⟩
   ·by_cases he:q=n
    ·subst he;have hp:=fun w=>(ND w tb (q*13) (q*13)).trans (by rw[decide_eq_true rfl])
     have hi:=HI.out;have hz0:=HZ0.out;have hz1:=HZ1.out;have hz2:=HZ2.out;go_wp2_with (at_builtin;refine dD _ rfl _ _ 53 rfl base 127 i0 _ 4 32 Tryz.underlying53 hi hz0 hz1 hz2 rfl (by decide) _ _ _ rfl (aX H.out.evs ((bz.refl (fun _=>False) wr).alloc _) (fun _ _=>id)) ⟨wr.heap.size,0,none⟩ 1 1 (mV ⟨q,k,a,c⟩) rfl rfl ?c1 ?c2 ?c3 ?c4 ?c5 ?_)
     case c1=>first|exact iP (aj _ _)|exact fun j u h=>h
     case c2=>exact VN _
     case c3=>have:=HL.out;unfold maxLen;omega
     case c4=>have:=HL.out;omega
     case c5=>have:=H.out.fQ;simp;omega
     intro ao cp w1 hown jh eU;have hc:=bz.grown (S:=fun k=>ev.ownBlock=some k) ((bz.refl _ wr).alloc (.cells (mV ⟨q,k,a,c⟩).toArray 127)) eU (fun k hk=>.inl hk);have hb1:=dG hc H.out.blk (fun hk=>by have h1:=H.out.j6 _ hk;rw[H.out.bT.2] at h1;exact absurd h1 (by decide));have f1:=ah (o:=3) hb1;have f2:w1.cell? ⟨b,3,none⟩=some ev:=af hb1 rfl;have HB:=ag hb1;have HC:=ag hc;have HO:=ag hown;have HF:=ag jh;clear hb1 hc hown jh eU hi hz0 hz1 hz2 hp;go_wp2_with fail;have hset:=ai (o:=3) (.slice ao (mm.evs.length+1) cp) HB.out;have hne:∀g,(Value.slice ao (mm.evs.length+1) cp).ownBlock=some g->ev.ownBlock=some g\/wr.heap.size<=g:=fun g hg=>by
      rcases HF.out g hg with e|e
      ·exact .inl e
      ·exact .inr (by omega)
     have WE:bz (fun k=>k=b\/ev.ownBlock=some k) wr (w1.setCell ⟨b,3,none⟩ (.slice ao (mm.evs.length+1) cp)):=
      (bz.dY (S:=fun k=>k=b\/ev.ownBlock=some k) (bz.refl _ wr) HC.out (fun k _ hk=>.inr hk)).setCell (p:=⟨b,3,none⟩) (.inl (.inl rfl)) _
     have hm:=H.out.event (mm.evs++[⟨q,k,a,c⟩]) (.slice ao (mm.evs.length+1) cp) WE hset (by
      rw[List.length_append,mJ];exact aP HO.out fun g hg hlt=>dm _ _ _ _ (fun e=>by
       rcases hne g hg with h1|h1
       ·have h2:=H.out.j6 _ h1;rw[e,H.out.bT.2] at h2;exact absurd h2 (by decide)
       ·have:=H.out.lt;simp only at e;omega)) hne
     have HE:MW base b own (mm.tell q k a c) xs mv (.slice (some ⟨tb,0,none⟩) xs.length cap) wr (w1.setCell ⟨b,3,none⟩ (.slice ao (mm.evs.length+1) cp)):=
      ⟨⟨_,_,hm,fun k hk=>jk hk⟩,WE.imp fun k _ hk=>by
       rcases hk with rfl|hk
       ·exact .inl H.out.bT.2
       ·exact .inr (H.out.j6 k hk)⟩
     exact⟨⟨q+1,by omega,by go_num,.inr ⟨by omega,ag HE⟩⟩,by simp[intOf];omega⟩
    ·have hp:=fun w=>(ND w tb (q*13) (n*13)).trans (by rw[decide_eq_false (show ¬q*13=n*13 by omega)])
     go_wp2_with fail;exact⟨⟨q+1,by omega,by go_num,.inl ⟨by omega,trivial⟩⟩,by simp[intOf];omega⟩
   ·have hp:=fun w=>(ND w tb (q*13) (n*13)).trans (by rw[decide_eq_false (show ¬q*13=n*13 by omega)])
    obtain⟨⟨own',ev',hm,ho⟩,hc⟩:=HE.out;have d2:=hm.iN 2 _ rfl;clear hm ho hc;go_wp2_with fail;exact⟨⟨q+1,by omega,by go_num,.inr ⟨by omega,HE⟩⟩,by simp[intOf];omega⟩
  ·obtain rfl:q=xs.length:=by omega
   rcases hw with⟨hqn,rfl⟩|⟨hqn,HE⟩
   ·omega
   ·go_wp2_with fail;go_end0;exact⟨rfl,HE.out⟩
end
def Rz (c a b:Int):Int:=(gX c a b).getD 0
def Ua (c a b:Int):Int:=if(gX c a b).isSome=true then 0 else if c=4\/c=5 then 4 else 1
theorem DN {c a b v:Int} (h:gX c a b=some v):Rz c a b=v:=by unfold Rz;rw[h];rfl
theorem Ey {c a b v:Int} (h:gX c a b=some v):Ua c a b=0:=by unfold Ua;rw[h];rfl
theorem Ef {c a b:Int} (h:gX c a b=none):Rz c a b=0:=by unfold Rz;rw[h];rfl
theorem Eo {c a b:Int} (h:gX c a b=none):Ua c a b=if c=4\/c=5 then 4 else 1:=by unfold Ua;rw[h];rfl
def dL (c a b:Int) (w:World) (r:Ending) (w':World):Prop:=r= .returned (.tuple #[.int .i64 (Rz c a b),.int .i64 (Ua c a b)])/\w'=w
theorem dL.some {c a b v:Int} {w:World} {r:Ending} {w':World} (h:gX c a b=some v) (hr:r= .returned (.tuple #[.int .i64 v,.int .i64 0])) (hw:w'=w):dL c a b w r w':=by
 refine⟨?_,hw⟩;rw[DN h,Ey h];exact hr
theorem dL.none {c a b:Int} {w:World} {r:Ending} {w':World} (h:gX c a b=none) (hr:r= .returned (.tuple #[.int .i64 0,.int .i64 (if c=4\/c=5 then 4 else 1)])) (hw:w'=w):dL c a b w r w':=by
 refine⟨?_,hw⟩;rw[Ef h,Eo h];exact hr
theorem xH (w:World) (x:Bool):Calls Tryz.prog 171 #[.bool x] w fun r w'=>r= .returned (.int .i64 (wQ x))/\w'=w:=by
 cases x with
 |true=>
  go_in;go_wp2_with fail;go_ret;exact⟨rfl,rfl⟩
 |false=>
  go_in;go_wp2_with fail;go_ret;exact⟨rfl,rfl⟩
theorem do_1 (w:World) (a b:Int):Calls Tryz.prog 168 #[.int .u8 1,.int .i64 a,.int .i64 b] w (dL 1 a b w):=by
 go_in;go_wp2_with fail
 go_ret2
 exact .some rfl rfl rfl
theorem afh (w:World) (a b:Int):Calls Tryz.prog 168 #[.int .u8 2,.int .i64 a,.int .i64 b] w (dL 2 a b w):=by
 go_in;go_wp2_with fail
 go_ret2
 exact .some rfl rfl rfl
theorem afW (w:World) (a b:Int):Calls Tryz.prog 168 #[.int .u8 3,.int .i64 a,.int .i64 b] w (dL 3 a b w):=by
 go_in;go_wp2_with fail
 go_ret2
 exact .some rfl rfl rfl
theorem afI (w:World) (a b:Int):Calls Tryz.prog 168 #[.int .u8 6,.int .i64 a,.int .i64 b] w (dL 6 a b w):=by
 go_in;go_wp2_with fail
 go_ret2
 exact .some rfl rfl rfl
theorem af_ (w:World) (a b:Int):Calls Tryz.prog 168 #[.int .u8 7,.int .i64 a,.int .i64 b] w (dL 7 a b w):=by
 go_in;go_wp2_with fail
 go_ret2
 exact .some rfl rfl rfl
theorem ae_ (w:World) (a b:Int):Calls Tryz.prog 168 #[.int .u8 8,.int .i64 a,.int .i64 b] w (dL 8 a b w):=by
 go_in;go_wp2_with fail
 go_ret2
 exact .some rfl rfl rfl
theorem afi (w:World) (a b:Int) (h:b≠0):Calls Tryz.prog 168 #[.int .u8 4,.int .i64 a,.int .i64 b] w (dL 4 a b w):=by
 have hb:(b==0)=false:=by rw[cz];exact h
 go_in;go_wp2_with fail
 go_ret2
 refine .some ?_ rfl rfl;unfold gX;simp[h,fV,IntWalk.i64_left]
theorem aeg (w:World) (a b:Int) (h:b=0):Calls Tryz.prog 168 #[.int .u8 4,.int .i64 a,.int .i64 b] w (dL 4 a b w):=by
 subst h;go_in;go_wp2_with fail
 go_ret2
 exact .none rfl rfl rfl
theorem af0 (w:World) (a b:Int) (h:b≠0):Calls Tryz.prog 168 #[.int .u8 5,.int .i64 a,.int .i64 b] w (dL 5 a b w):=by
 have hb:(b==0)=false:=by rw[cz];exact h
 go_in;go_wp2_with fail
 go_ret2
 refine .some ?_ rfl rfl;unfold gX;simp[h,fV,IntWalk.i64_left]
theorem aeh (w:World) (a b:Int) (h:b=0):Calls Tryz.prog 168 #[.int .u8 5,.int .i64 a,.int .i64 b] w (dL 5 a b w):=by
 subst h;go_in;go_wp2_with fail
 go_ret2
 exact .none rfl rfl rfl
theorem afA (w:World) (a b:Int):Calls Tryz.prog 168 #[.int .u8 9,.int .i64 a,.int .i64 b] w (dL 9 a b w):=by
 go_in;go_wp2_with fail
 go_ret2
 exact .some rfl rfl rfl
theorem adU (w:World) (a b:Int):Calls Tryz.prog 168 #[.int .u8 10,.int .i64 a,.int .i64 b] w (dL 10 a b w):=by
 go_in;go_wp2_with fail
 go_ret2
 exact .some rfl rfl rfl
theorem ade (w:World) (a b:Int):Calls Tryz.prog 168 #[.int .u8 11,.int .i64 a,.int .i64 b] w (dL 11 a b w):=by
 go_in;go_wp2_with fail;refine(xH w _).mono ?_;rintro r w1 ⟨rfl,rfl⟩;go_wp2_with fail
 go_ret2
 exact .some rfl rfl rfl
theorem acC (w:World) (a b:Int):Calls Tryz.prog 168 #[.int .u8 12,.int .i64 a,.int .i64 b] w (dL 12 a b w):=by
 go_in;go_wp2_with fail;refine(xH w _).mono ?_;rintro r w1 ⟨rfl,rfl⟩;go_wp2_with fail
 go_ret2
 exact .some rfl rfl rfl
theorem ady (w:World) (a b:Int):Calls Tryz.prog 168 #[.int .u8 13,.int .i64 a,.int .i64 b] w (dL 13 a b w):=by
 go_in;go_wp2_with fail;refine(xH w _).mono ?_;rintro r w1 ⟨rfl,rfl⟩;go_wp2_with fail
 go_ret2
 exact .some rfl rfl rfl
theorem acZ (w:World) (a b:Int):Calls Tryz.prog 168 #[.int .u8 14,.int .i64 a,.int .i64 b] w (dL 14 a b w):=by
 go_in;go_wp2_with fail;refine(xH w _).mono ?_;rintro r w1 ⟨rfl,rfl⟩;go_wp2_with fail
 go_ret2
 exact .some rfl rfl rfl
theorem ad2 (w:World) (c a b:Int) (h:¬(1<=c/\c<=14)):Calls Tryz.prog 168 #[.int .u8 c,.int .i64 a,.int .i64 b] w (dL c a b w):=by
 have k1:(c==1)=false:=by rw[cz];omega
 have k2:(c==2)=false:=by rw[cz];omega
 have k3:(c==3)=false:=by rw[cz];omega
 have k4:(c==4)=false:=by rw[cz];omega
 have k5:(c==5)=false:=by rw[cz];omega
 have k6:(c==6)=false:=by rw[cz];omega
 have k7:(c==7)=false:=by rw[cz];omega
 have k8:(c==8)=false:=by rw[cz];omega
 have k9:(c==9)=false:=by rw[cz];omega
 have k10:(c==10)=false:=by rw[cz];omega
 have k11:(c==11)=false:=by rw[cz];omega
 have k12:(c==12)=false:=by rw[cz];omega
 have k13:(c==13)=false:=by rw[cz];omega
 have k14:(c==14)=false:=by rw[cz];omega
 have hn:gX c a b=none:=by
  unfold gX;rw[if_neg (by omega),if_neg (by omega),if_neg (by omega),if_neg (by omega),if_neg (by omega),if_neg (by omega),if_neg (by omega),if_neg (by omega),if_neg (by omega),if_neg (by omega),if_neg (by omega),if_neg (by omega),if_neg (by omega),if_neg (by omega)]
 clear h;go_in;go_wp2_with fail
 go_ret2
 exact .none hn (by rw[if_neg (by rw[cz] at k4 k5;omega)];rfl) rfl
theorem aa7 (w:World) (c a b:Int):Calls Tryz.prog 168 #[.int .u8 c,.int .i64 a,.int .i64 b] w (dL c a b w):=by
 by_cases h:1<=c/\c<=14
 ·rcases(by omega:c=1\/c=2\/c=3\/c=4\/c=5\/c=6\/c=7\/c=8\/c=9\/c=10\/c=11\/c=12\/c=13\/c=14) with rfl|rfl|rfl|rfl|rfl|rfl|rfl|rfl|rfl|rfl|rfl|rfl|rfl|rfl
  ·exact do_1 w a b
  ·exact afh w a b
  ·exact afW w a b
  ·by_cases hb:b=0
   ·exact aeg w a b hb
   ·exact afi w a b hb
  ·by_cases hb:b=0
   ·exact aeh w a b hb
   ·exact af0 w a b hb
  ·exact afI w a b
  ·exact af_ w a b
  ·exact ae_ w a b
  ·exact afA w a b
  ·exact adU w a b
  ·exact ade w a b
  ·exact acC w a b
  ·exact ady w a b
  ·exact acZ w a b
 ·exact ad2 w c a b h
end Go.Proofs.YtopdcjimpdalpaaGreat

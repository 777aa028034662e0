import Derived.Test.YtopdcjimpdalpaaGreatR29
namespace Go.Proofs.YtopdcjimpdalpaaGreat
open Go.RowKit
set_option linter.all false
set_option maxHeartbeats 2000000
set_option maxRecDepth 100000
variable {w w':World} {base b:Nat} {own own':Nat->Nat} {mm:MM} {xs:List TX} {mv ev:Value} {tb cap n:Nat} {x:TX}
theorem R5 (h:fJ w base b own mm xs mv (.slice (some ⟨tb,0,none⟩) xs.length cap) ev) (hx:xs[n]? =some x) (hmem:mm.mem.length<=262144) (hf:x.th.fin=0) {o:bR} (hat:0<=x.th.at_/\x.th.at_<=262144) (hop:x.th.code[x.th.at_.toNat]? =some o) (hok:xU o) (hol:x.th.out.length<1000000000) (hmo:¬∃a,x.th.word o=some a/\mm.has a=false) (hwt:x.th.waits o=false) (hst:∃k,x.th.stops o=some k) (hev:mm.evs.length<1000000000) (h4:xs.length<=4):
  Calls Tryz.prog 63 #[.pointer (some ⟨b,0,none⟩),.int .i64 (n:Int)] w fun r w'=>r= .returned (.bool (mm.go n x.th).1)/\ow w base b own (mm.go n x.th).2 w':=by
 have hb2:Below w.heap.size w ((w.alloc (.cells #[.pointer (some ⟨b,0,none⟩)] 144)).alloc (.cells #[.bool false] 4)):=(((au w.heap.size w).alloc (aB _) _).alloc (by simp) _);have hb3:Below w.heap.size w (((w.alloc (.cells #[.pointer (some ⟨b,0,none⟩)] 144)).alloc (.cells #[.bool false] 4)).alloc (.cells #[.pointer (some ⟨tb,n*13,none⟩)] 186)):=hb2.alloc (by simp;omega) _;have h2:=h.below hb2;have h3:=h.below hb3;have hw0:own w.heap.size=0:=h.fresh _ (aB _);have hw1:own (w.heap.size+1)=0:=h.fresh _ (by omega);have hw2:own (w.heap.size+1+1)=0:=h.fresh _ (by omega);have kB:=aj ((w.alloc (.cells #[.pointer (some ⟨b,0,none⟩)] 144)).alloc (.cells #[.bool false] 4)) (.cells #[.pointer (some ⟨tb,n*13,none⟩)] 186);have kA:=heap_alloc_new (w.alloc (.cells #[.pointer (some ⟨b,0,none⟩)] 144)) (.cells #[.bool false] 4);simp only[World.size_alloc] at kA kB;have kA':=(heap_alloc_old ((w.alloc (.cells #[.pointer (some ⟨b,0,none⟩)] 144)).alloc (.cells #[.bool false] 4)) (.cells #[.pointer (some ⟨tb,n*13,none⟩)] 186) (show w.heap.size+1<_ by simp)).trans kA;have kC:=(heap_alloc_old ((w.alloc (.cells #[.pointer (some ⟨b,0,none⟩)] 144)).alloc (.cells #[.bool false] 4)) (.cells #[.pointer (some ⟨tb,n*13,none⟩)] 186) (show w.heap.size<_ by simp;omega)).trans ((heap_alloc_old (w.alloc (.cells #[.pointer (some ⟨b,0,none⟩)] 144)) (.cells #[.bool false] 4) (show w.heap.size<_ by simp)).trans (heap_alloc_new w (.cells #[.pointer (some ⟨b,0,none⟩)] 144)));have ct:(((w.alloc (.cells #[.pointer (some ⟨b,0,none⟩)] 144)).alloc (.cells #[.bool false] 4)).alloc (.cells #[.pointer (some ⟨tb,n*13,none⟩)] 186)).cell? ⟨w.heap.size+1+1,0,none⟩=some (.pointer (some ⟨tb,n*13,none⟩)):=af kB rfl;have cd:(((w.alloc (.cells #[.pointer (some ⟨b,0,none⟩)] 144)).alloc (.cells #[.bool false] 4)).alloc (.cells #[.pointer (some ⟨tb,n*13,none⟩)] 186)).cell? ⟨w.heap.size+1,0,none⟩=some (.bool false):=af kA' rfl;have fd:(((w.alloc (.cells #[.pointer (some ⟨b,0,none⟩)] 144)).alloc (.cells #[.bool false] 4)).alloc (.cells #[.pointer (some ⟨tb,n*13,none⟩)] 186)).frozen? ⟨w.heap.size+1,0,none⟩=false:=ah kA';have cm:(((w.alloc (.cells #[.pointer (some ⟨b,0,none⟩)] 144)).alloc (.cells #[.bool false] 4)).alloc (.cells #[.pointer (some ⟨tb,n*13,none⟩)] 186)).cell? ⟨w.heap.size,0,none⟩=some (.pointer (some ⟨b,0,none⟩)):=af kC rfl;have e0:=h3.cell hx 0 _ rfl;rw[Nat.add_zero] at e0;have e9:=h3.cell hx 9 _ rfl;have e12:=h3.cell hx 12 _ rfl;have zo:=h3.cell hx 12 _ rfl;have HX:=ag hx;have H:=ag h;have H2:=ag h2;have H3:=ag h3;have HB:=ag hb3;have HW:=ag (And.intro hw0 (And.intro hw1 hw2));have HE:=ag hev;have H4:=ag h4;clear hev h4;have Lp:=ag hmo;have Je:=ag hwt;have HST:=ag hst;clear hmo hwt hst;have HO:=ag hol;clear hol;have HM:=ag hmem;clear hmem;obtain⟨pl,hpl⟩:=Int.eq_ofNat_of_zero_le hat.1;rw[hpl] at e9 hop;simp only[Int.toNat_natCast] at hop;have hpn:=(bu.1 hop).1;have hcode:=(h3.th n x hx).code;obtain⟨ao,fo,hcv⟩:=hcode.shape;rw[hcv] at e0 hcode;obtain⟨cb,co,rfl,hcb,hcc⟩:=dH.at dX hcode hop;obtain⟨ki,bD,ra,rb,rc,num⟩:=o;have i0:=hcc 0 _ rfl;have i1:=hcc 1 _ rfl;have i2:=hcc 2 _ rfl;have i3:=hcc 3 _ rfl;have i4:=hcc 4 _ rfl;have i5:=hcc 5 _ rfl;rw[Nat.add_zero] at i0;rw[hf] at e12;have hd0:decide ((pl:Int)<0)=false:=decide_eq_false (by omega);have hd1:decide ((x.th.code.length:Int)<=(pl:Int))=false:=decide_eq_false (by omega);have Fe:=ag hpl;have tF:=ag hok;have HAT:=ag hat;have Ct:=ag hop;have Lv:=ag hcv;clear hcc hcv hcode hcb hpl hok hat hop;have YO:∀(fn:Fn) (first cap:Array Value) (w:World),(Instr.makeFunc fn first cap).run Tryz.prog w= .ok (.func fn first cap) w:=fun _ _ _ _=>rfl
 clear hx h h2 h3 hb2 hb3 kA kB kA' kC hw0 hw1 hw2
 go_enter_defers Tryz.func63,Tryz.ntmps63
 go_wp2_with fail;refine(wm H2.out HX.out).mono ?_;rintro e w1 ⟨rfl,rfl⟩;go_wp2_with fail;generalize(((w.alloc (.cells #[.pointer (some ⟨b,0,none⟩)] 144)).alloc (.cells #[.bool false] 4)).alloc (.cells #[.pointer (some ⟨tb,n*13,none⟩)] 186))=w3 at H3 HB ct cd fd cm e0 e9 e12 zo i0 i1 i2 i3 i4 i5⊢;go_quiet (fail)
 go_wp2_with fail;have DY:(w3.drewN nq).cell? ⟨w.heap.size+1+1,0,none⟩=some (.pointer (some ⟨tb,n*13,none⟩)):=ct;have Af:(w3.drewN nq).cell? ⟨w.heap.size+1,0,none⟩=some (.bool false):=cd;have GM:(w3.drewN nq).cell? ⟨w.heap.size,0,none⟩=some (.pointer (some ⟨b,0,none⟩)):=cm;have MB:(w3.drewN nq).cell? ⟨tb,n*13,none⟩=some (.slice (some ⟨cb,co,none⟩) x.th.code.length fo):=e0;have GH:(w3.drewN nq).cell? ⟨tb,n*13+9,none⟩=some (.int .i64 (pl:Int)):=e9;have Hw:(w3.drewN nq).cell? ⟨cb,co+pl*6,none⟩=some (.int .u8 ki):=i0;have LF:(w3.drewN nq).cell? ⟨cb,co+pl*6+1,none⟩=some (.int .u8 bD):=i1;have MF:(w3.drewN nq).cell? ⟨cb,co+pl*6+2,none⟩=some (.int .u8 ra):=i2;have LW:(w3.drewN nq).cell? ⟨cb,co+pl*6+3,none⟩=some (.int .u8 rb):=i3;have NY:(w3.drewN nq).cell? ⟨cb,co+pl*6+4,none⟩=some (.int .u8 rc):=i4;have Ml:(w3.drewN nq).cell? ⟨cb,co+pl*6+5,none⟩=some (.int .i64 num):=i5;have Ny:(w3.drewN nq).frozen? ⟨w.heap.size+1,0,none⟩=false:=fd;have H5:=ag (H3.out.drewN nq);have pO:=ag (below_drewN HB.out nq);clear hd0 hd1 fd H3 HB e12 zo ct cd cm e0 e9 i0 i1 i2 i3 i4 i5;generalize w3.drewN nq=w5 at H5 pO Ny DY Af GM MB GH Hw LF MF LW NY Ml⊢;have ct:=fun o=>bg DY o
 have cd:=fun o=>bg Af o
 have cm:=fun o=>bg GM o
 have e0:=fun o=>bg MB o
 have e9:=fun o=>bg GH o
 have i0:=fun o=>bg Hw o
 have i1:=fun o=>bg LF o
 have i2:=fun o=>bg MF o
 have i3:=fun o=>bg LW o
 have i4:=fun o=>bg NY o
 have i5:=fun o=>bg Ml o
 go_region;go_wp2_with fail;have f7:∀{a u},w5.cell? a=some u->((w5.alloc (.cells #[.int .u8 ki,.int .u8 bD,.int .u8 ra,.int .u8 rb,.int .u8 rc,.int .i64 num] 107)).drew).cell? a=some u:=fun h=>bg h _
 have kO:=heap_alloc_new w5 (.cells #[.int .u8 ki,.int .u8 bD,.int .u8 ra,.int .u8 rb,.int .u8 rc,.int .i64 num] 107);have N7:=f7 DY;have GN:=f7 Af;have M9:=f7 GM;have Nk:=f7 GH;have Og:((w5.alloc (.cells #[.int .u8 ki,.int .u8 bD,.int .u8 ra,.int .u8 rb,.int .u8 rc,.int .i64 num] 107)).drew).frozen? ⟨w.heap.size+1,0,none⟩=false:=qG Ny (dW _ _ Af);have CU:Below w.heap.size w ((w5.alloc (.cells #[.int .u8 ki,.int .u8 bD,.int .u8 ra,.int .u8 rb,.int .u8 rc,.int .i64 num] 107)).drew):=below_drewN (pO.out.alloc pO.out.size _) 1;have H7:=ag (H5.out.below ((au _ _).alloc (aB _) (.cells #[.int .u8 ki,.int .u8 bD,.int .u8 ra,.int .u8 rb,.int .u8 rc,.int .i64 num] 107))).drew;have pQ:=ag CU;have hpo:w.heap.size+1+1<w5.heap.size:=dW _ _ DY;clear f7 CU H5 pO Ny DY Af GM MB GH Hw LF MF LW NY Ml ct cd cm e0 e9 i0 i1 i2 i3 i4 i5;obtain⟨po,yA⟩:∃po,po=w5.heap.size:=⟨_,rfl⟩;have G8:((w5.alloc (.cells #[.int .u8 ki,.int .u8 bD,.int .u8 ra,.int .u8 rb,.int .u8 rc,.int .i64 num] 107)).drew).heap[po]? =some (.cells #[.int .u8 ki,.int .u8 bD,.int .u8 ra,.int .u8 rb,.int .u8 rc,.int .i64 num] 107):=by rw[yA];exact kO
 clear kO;rw[<-yA] at hpo⊢;generalize(w5.alloc (.cells #[.int .u8 ki,.int .u8 bD,.int .u8 ra,.int .u8 rb,.int .u8 rc,.int .i64 num] 107)).drew=w7 at N7 GN M9 Nk Og H7 pQ G8⊢;clear yA;refine(xK H7.out HX.out HM.out _ tF.out).mono ?_;rintro r w8 ⟨vQ,hr⟩;have f8:∀{a u},w7.cell? a=some u->w8.cell? a=some u:=fun h=>(World.cell?_of_block (vQ.block _ (dW _ _ h))).trans h
 have W9:=f8 N7;have Rw:=f8 GN;have WN:=f8 M9;have YZ:=f8 Nk;have WW:w8.frozen? ⟨w.heap.size+1,0,none⟩=false:=gI vQ (dW _ _ GN) Og;have vR:=(vQ.block po (lt_of_block G8)).trans G8;have o0:=af (o:=0) vR rfl;have o1:=af (o:=1) vR rfl;have o2:=af (o:=2) vR rfl;have o3:=af (o:=3) vR rfl;have o4:=af (o:=4) vR rfl;have o5:=af (o:=5) vR rfl;have H8:=ag (H7.out.below vQ);have I_:=ag (pQ.out.trans (vQ.mono pQ.out.size));clear f8 vQ N7 GN M9 Nk Og G8 H7 pQ;have hr':(∃a,r= .returned (.int .i64 a)/\(x.th.word ⟨ki,bD,ra,rb,rc,num⟩=none/\a=0\/x.th.word ⟨ki,bD,ra,rb,rc,num⟩=some a/\mm.has a=true))\/(∃a,r= .panicked [ru 8]/\x.th.word ⟨ki,bD,ra,rb,rc,num⟩=some a/\mm.has a=false):=by
  rcases hr with⟨h1,h2⟩|⟨a,h1,⟨h2,h3⟩|⟨h2,h3⟩⟩
  ·exact .inl ⟨0,h2,.inl ⟨h1,rfl⟩⟩
  ·exact .inl ⟨a,h3,.inr ⟨h1,h2⟩⟩
  ·exact .inr ⟨a,h3,h1,h2⟩
 clear hr;rcases hr' with⟨a,rfl,hwd⟩|⟨a,rfl,hwd⟩
 ·have Bc:=ag (WG (n:=n) (t:=x.th) (o:=⟨ki,bD,ra,rb,rc,num⟩) (mm:=mm) HAT.out.1 (by rw[Fe.out];exact Ct.out) hwd);have Ym:=ag (De hwd);clear hwd;go_wp2_with fail;refine(Aj H8.out HX.out _ tF.out).mono ?_;rintro r w9 ⟨rfl,tH⟩;clear o0 o1 o2 o3 o4 o5;have f9:∀{a u},w8.cell? a=some u->w9.cell? a=some u:=fun h=>(World.cell?_of_block (tH.block _ (dW _ _ h))).trans h
  have Ic:=f9 W9;have YD:=f9 Rw;have Jo:=f9 WN;have e99:=f9 YZ;have Lj:w9.frozen? ⟨w.heap.size+1,0,none⟩=false:=gI tH (dW _ _ Rw) WW;have BK:=(tH.block po (lt_of_block vR)).trans vR;have o0:=af (o:=0) BK rfl;have o1:=af (o:=1) BK rfl;have o2:=af (o:=2) BK rfl;have o3:=af (o:=3) BK rfl;have o4:=af (o:=4) BK rfl;have o5:=af (o:=5) BK rfl;have H9:=ag (H8.out.below tH);have yh:=ag (I_.out.trans (tH.mono I_.out.size));clear f9 tH W9 Rw WN YZ WW vR H8 I_;have hwt:=Je.out;rw[hwt];rw[hwt] at Bc;go_wp2_with fail;obtain⟨F,hF,hcf,hdo⟩:=OQ _ tF.out;have Y_:=ag hdo;have g0:=fun t=>ak o0 t
  have hix:=BI tF.out.kind hF;clear hdo;refine bG (by kernel_rfl) (by kernel_rfl) ?_;repeat (go_big_quiet_step ((first|(go_at_call 105;exact kQ (FI _)))))
  refine wpQuiet_nil ?_;intro ER AZ;clear o0 o1 o2 o3 o4 o5 g0 hix;have f10:∀{a u},w9.cell? a=some u->ER.cell? a=some u:=fun h=>(World.cell?_of_block (AZ.block _ (dW _ _ h))).trans h
  have YP:=f10 Ic;have Kc:=f10 YD;have XR:=f10 Jo;have e9q:=f10 e99;have RU:ER.frozen? ⟨w.heap.size+1,0,none⟩=false:=gI AZ (dW _ _ YD) Lj;have yE:=(AZ.block po (lt_of_block BK)).trans BK;have o0:=af (o:=0) yE rfl;have o1:=af (o:=1) yE rfl;have o2:=af (o:=2) yE rfl;have o3:=af (o:=3) yE rfl;have o4:=af (o:=4) yE rfl;have o5:=af (o:=5) yE rfl;have JQ:=ag (H9.out.below AZ);have PM:=ag (yh.out.trans (AZ.mono yh.out.size));clear f10 AZ Ic YD Jo e99 Lj BK H9 yh;go_wp2_with fail;have aax:=ag Kc;have Za:=ag JQ.out.drew;have adf:=ag RU;have hop:own po=0:=H.out.fresh po (by omega);have htd:¬w.heap.size+1=tb:=fun e=>by
   have h1:=HW.out.2.1;rw[e,H.out.fK tb rfl] at h1;cases h1
  have HTD:=ag htd;clear htd;obtain⟨k,hst⟩:=HST.out;have HP:∀(tm:Array Value) (Jj:World),tm.getD 4 undef= .pointer (some ⟨w.heap.size+1,0,none⟩)->Below ER.drew.heap.size ER.drew Jj->mm.act n x.th ⟨ki,bD,ra,rb,rc,num⟩ a=mm.stop n x.th k->1<=k/\k<256->
    bodyPostD Tryz.prog Tryz.f63 (fun r w'=>r= .returned (.bool (mm.go n x.th).1)/\ow w base b own (mm.go n x.th).2 w') (.panic [ru k]) {tmps:=tm,defers:=[{target:=.fn (.func 101) #[.pointer (some ⟨w.heap.size+1+1,0,none⟩),.pointer (some ⟨w.heap.size+1,0,none⟩),.pointer (some ⟨w.heap.size,0,none⟩)],args:=#[]}]} Jj:=by
   intro tm Jj htm PX hact hk1;have H11:=JQ.out.drew.below PX;have adP:=(PM.out.drew).trans (PX.mono PM.out.size);have I9:∀{p u},ER.cell? ⟨p,0,none⟩=some u->Jj.cell? ⟨p,0,none⟩=some u:=fun h=>(World.cell?_of_block (w:=ER) (PX.block _ (dW ER _ h))).trans h
   have ac_:Jj.frozen? ⟨w.heap.size+1,0,none⟩=false:=gI PX (dW ER _ Kc) RU;have adI:mm.go n x.th=(true,mm.stop n x.th k):=Bc.out.trans (by rw[if_neg (by simp),hact]);refine leaves_cons (f:=101) (args:=#[.pointer (some ⟨w.heap.size+1+1,0,none⟩),.pointer (some ⟨w.heap.size+1,0,none⟩),.pointer (some ⟨w.heap.size,0,none⟩)]) (by simp) (by simp[go_sem]) ?_;refine(vg (w:=Jj) H11 HX.out HE.out H4.out k hk1 (I9 YP) (I9 Kc) ac_ (I9 XR) HW.out.2.2 HW.out.2.1 HW.out.1 (by omega) (by omega)).mono ?_;rintro e u' w4 ⟨rfl,rfl,hd,⟨jO,Jv,hm,ho⟩,hc⟩;have hs:=adP.size;refine⟨.bool true,?_,by rw[adI],⟨jO,_,mv,_,Jv,by rw[adI];exact hm,fun k hk=>ho k (by omega)⟩,bz.dY (bz.of_below adP) hc (fun k hk e=>by
    rcases e with e|e
    ·omega
    ·exact e)⟩
   have agx:tm[4]?.getD undef= .pointer (some ⟨w.heap.size+1,0,none⟩):=by simpa using htm
   simp[results,Tryz.results63,agx,hd,go_sem]
  have HP:=ag HP;clear Kc RU yE e9q Bc JQ PM hop;refine wp_region_held_drew (S:=fun w'=>w'=ER.drew) (by kernel_rfl) rfl (fun hHeld=>?_);refine wpAnyH_take (i:=0) (v:=?_) rfl (by kernel_rfl) (by kernel_rfl) (by kernel_rfl) (calm (by decide)) (Or.inl ⟨by rfl,?_⟩) hHeld ?_
  rotate_left
  ·intro w' hSw;subst hSw
   go_simp
   try with_reducible rfl
  try simp only[Act.put,List.setIfInBounds_toArray,List.set_cons_zero,List.set_cons_succ]
  refine wpAnyH_take (i:=1) (v:=?_) rfl (by kernel_rfl) (by kernel_rfl) (by kernel_rfl) (calm (by decide)) (Or.inl ⟨by rfl,?_⟩) hHeld ?_
  rotate_left
  ·intro w' hSw;subst hSw
   go_simp
   try with_reducible rfl
  try simp only[Act.put,List.setIfInBounds_toArray,List.set_cons_zero,List.set_cons_succ]
  refine wpAnyH_take (i:=2) (v:=?_) rfl (by kernel_rfl) (by kernel_rfl) (by kernel_rfl) (calm (by decide)) (Or.inl ⟨by rfl,?_⟩) hHeld ?_
  rotate_left
  ·intro w' hSw;subst hSw
   go_simp
   try with_reducible rfl
  try simp only[Act.put,List.setIfInBounds_toArray,List.set_cons_zero,List.set_cons_succ]
  refine wpAnyH_take (i:=3) (v:=?_) rfl (by kernel_rfl) (by kernel_rfl) (by kernel_rfl) (calm (by decide)) (Or.inl ⟨by rfl,?_⟩) hHeld ?_
  rotate_left
  ·intro w' hSw;subst hSw
   go_simp
   try with_reducible rfl
  try simp only[Act.put,List.setIfInBounds_toArray,List.set_cons_zero,List.set_cons_succ]
  refine wpAnyH_take (i:=4) (v:=?_) rfl (by kernel_rfl) (by kernel_rfl) (by kernel_rfl) (calm (by decide)) (Or.inl ⟨by rfl,?_⟩) hHeld ?_
  rotate_left
  ·intro w' hSw;subst hSw
   go_simp
   try with_reducible rfl
  try simp only[Act.put,List.setIfInBounds_toArray,List.set_cons_zero,List.set_cons_succ]
  refine wpAnyH_take (i:=5) (v:=?_) rfl (by kernel_rfl) (by kernel_rfl) (by kernel_rfl) (calm (by decide)) (Or.inl ⟨by rfl,?_⟩) hHeld ?_
  rotate_left
  ·intro w' hSw;subst hSw
   go_simp
   try with_reducible rfl
  try simp only[Act.put,List.setIfInBounds_toArray,List.set_cons_zero,List.set_cons_succ]
  refine wpAnyH_ready (rs:=[6]) (by kernel_rfl) (by simp) ?_;refine AllReadyH.cons rfl (fun K hK=>?_) AllReadyH.nil
  go_simp
  refine(Y_.out ER.drew base b own mm xs mv ev tb cap n x a ⟨Za.out,HX.out,HAT.out,Ym.out,fun hk=>Gm hk hwt,HO.out,HE.out,H4.out⟩).mono ?_;rintro r Jj hp;rcases hp with⟨h0, -⟩|⟨k',hk,rfl,PX,hact,hk1⟩
  ·cases hst.symm.trans h0
  ·cases hst.symm.trans hk;exact HP.out _ _ rfl PX hact hk1
 ·exact absurd ⟨a,hwd⟩ Lp.out
end Go.Proofs.YtopdcjimpdalpaaGreat

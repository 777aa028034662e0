import Derived.Test.YtopdcjimpdalpaaGreatQ29
namespace Go.Proofs.YtopdcjimpdalpaaGreat
open Go.RowKit
set_option linter.all false
set_option maxHeartbeats 2000000
set_option maxRecDepth 100000
variable {w w':World} {base b:Nat} {own own':Nat->Nat} {mm:MM} {xs:List TX} {mv ev:Value} {tb cap n:Nat} {x:TX}
theorem P9 (h:eZ w base b own mm xs mv (.slice (some ⟨tb,0,none⟩) xs.length cap) ev) (hx:xs[n]? =some x) (hmem:mm.mem.length<=262144) (hf:x.th.fin=0) {o:bM} (hat:0<=x.th.at_/\x.th.at_<=262144) (hop:x.th.code[x.th.at_.toNat]? =some o) (hok:wZ o) (hol:x.th.out.length<1000000000) (hmo:¬∃a,x.th.word o=some a/\mm.has a=false) (hwt:x.th.waits o=false) (hst:∃k,x.th.stops o=some k) (hev:mm.evs.length<1000000000) (h4:xs.length<=4):
  Calls Tryz.prog 63 #[.pointer (some ⟨b,0,none⟩),.int .i64 (n:Int)] w fun r w'=>r= .returned (.bool (mm.go n x.th).1)/\nA w base b own (mm.go n x.th).2 w':=by
 have hb2:Below w.heap.size w ((w.alloc (.cells #[.pointer (some ⟨b,0,none⟩)] 144)).alloc (.cells #[.bool false] 4)):=(((aQ w.heap.size w).alloc (aR _) _).alloc (by simp) _);have hb3:Below w.heap.size w (((w.alloc (.cells #[.pointer (some ⟨b,0,none⟩)] 144)).alloc (.cells #[.bool false] 4)).alloc (.cells #[.pointer (some ⟨tb,n*13,none⟩)] 186)):=hb2.alloc (by simp;omega) _;have h2:=h.below hb2;have h3:=h.below hb3;have hw0:own w.heap.size=0:=h.fresh _ (aR _);have hw1:own (w.heap.size+1)=0:=h.fresh _ (by omega);have hw2:own (w.heap.size+1+1)=0:=h.fresh _ (by omega);have kB:=aX ((w.alloc (.cells #[.pointer (some ⟨b,0,none⟩)] 144)).alloc (.cells #[.bool false] 4)) (.cells #[.pointer (some ⟨tb,n*13,none⟩)] 186);have kA:=heap_alloc_new (w.alloc (.cells #[.pointer (some ⟨b,0,none⟩)] 144)) (.cells #[.bool false] 4);simp only[World.size_alloc] at kA kB;have kA':=(heap_alloc_old ((w.alloc (.cells #[.pointer (some ⟨b,0,none⟩)] 144)).alloc (.cells #[.bool false] 4)) (.cells #[.pointer (some ⟨tb,n*13,none⟩)] 186) (show w.heap.size+1<_ by simp)).trans kA;have kC:=(heap_alloc_old ((w.alloc (.cells #[.pointer (some ⟨b,0,none⟩)] 144)).alloc (.cells #[.bool false] 4)) (.cells #[.pointer (some ⟨tb,n*13,none⟩)] 186) (show w.heap.size<_ by simp;omega)).trans ((heap_alloc_old (w.alloc (.cells #[.pointer (some ⟨b,0,none⟩)] 144)) (.cells #[.bool false] 4) (show w.heap.size<_ by simp)).trans (heap_alloc_new w (.cells #[.pointer (some ⟨b,0,none⟩)] 144)));have ct:(((w.alloc (.cells #[.pointer (some ⟨b,0,none⟩)] 144)).alloc (.cells #[.bool false] 4)).alloc (.cells #[.pointer (some ⟨tb,n*13,none⟩)] 186)).cell? ⟨w.heap.size+1+1,0,none⟩=some (.pointer (some ⟨tb,n*13,none⟩)):=af kB rfl;have cd:(((w.alloc (.cells #[.pointer (some ⟨b,0,none⟩)] 144)).alloc (.cells #[.bool false] 4)).alloc (.cells #[.pointer (some ⟨tb,n*13,none⟩)] 186)).cell? ⟨w.heap.size+1,0,none⟩=some (.bool false):=af kA' rfl;have fd:(((w.alloc (.cells #[.pointer (some ⟨b,0,none⟩)] 144)).alloc (.cells #[.bool false] 4)).alloc (.cells #[.pointer (some ⟨tb,n*13,none⟩)] 186)).frozen? ⟨w.heap.size+1,0,none⟩=false:=aJ kA';have cm:(((w.alloc (.cells #[.pointer (some ⟨b,0,none⟩)] 144)).alloc (.cells #[.bool false] 4)).alloc (.cells #[.pointer (some ⟨tb,n*13,none⟩)] 186)).cell? ⟨w.heap.size,0,none⟩=some (.pointer (some ⟨b,0,none⟩)):=af kC rfl;have e0:=h3.cell hx 0 _ rfl;rw[Nat.add_zero] at e0;have e9:=h3.cell hx 9 _ rfl;have e12:=h3.cell hx 12 _ rfl;have yx:=h3.cell hx 12 _ rfl;have HX:=ag hx;have H:=ag h;have H2:=ag h2;have H3:=ag h3;have HB:=ag hb3;have HW:=ag (And.intro hw0 (And.intro hw1 hw2));have HE:=ag hev;have H4:=ag h4;clear hev h4;have J4:=ag hmo;have Ij:=ag hwt;have HST:=ag hst;clear hmo hwt hst;have HO:=ag hol;clear hol;have HM:=ag hmem;clear hmem;obtain⟨pl,hpl⟩:=Int.eq_ofNat_of_zero_le hat.1;rw[hpl] at e9 hop;simp only[Int.toNat_natCast] at hop;have hpn:=(bE.1 hop).1;have hcode:=(h3.th n x hx).code;obtain⟨ao,iF,hcv⟩:=hcode.shape;rw[hcv] at e0 hcode;obtain⟨cb,co,rfl,hcb,hcc⟩:=fI.at dL hcode hop;obtain⟨ki,bn,ra,rb,rc,num⟩:=o;have i0:=hcc 0 _ rfl;have i1:=hcc 1 _ rfl;have i2:=hcc 2 _ rfl;have i3:=hcc 3 _ rfl;have i4:=hcc 4 _ rfl;have i5:=hcc 5 _ rfl;rw[Nat.add_zero] at i0;rw[hf] at e12;have hd0:decide ((pl:Int)<0)=false:=decide_eq_false (by omega);have hd1:decide ((x.th.code.length:Int)<=(pl:Int))=false:=decide_eq_false (by omega);have Mm:=ag hpl;have zC:=ag hok;have HAT:=ag hat;have Za:=ag hop;have J5:=ag hcv;clear hcc hcv hcode hcb hpl hok hat hop;have U0:∀(fn:Fn) (first cap:Array Value) (w:World),(Instr.makeFunc fn first cap).run Tryz.prog w= .ok (.func fn first cap) w:=fun _ _ _ _=>rfl
 clear hx h h2 h3 hb2 hb3 kA kB kA' kC hw0 hw1 hw2
 go_enter_defers Tryz.func63,Tryz.ntmps63
 go_wp2_with fail;refine(vK H2.out HX.out).mono ?_;rintro e w1 ⟨rfl,rfl⟩;go_wp2_with fail;generalize(((w.alloc (.cells #[.pointer (some ⟨b,0,none⟩)] 144)).alloc (.cells #[.bool false] 4)).alloc (.cells #[.pointer (some ⟨tb,n*13,none⟩)] 186))=w3 at H3 HB ct cd fd cm e0 e9 e12 yx i0 i1 i2 i3 i4 i5⊢;go_quiet (fail)
 go_wp2_with fail;have Cx:(w3.drewN nq).cell? ⟨w.heap.size+1+1,0,none⟩=some (.pointer (some ⟨tb,n*13,none⟩)):=ct;have zA:(w3.drewN nq).cell? ⟨w.heap.size+1,0,none⟩=some (.bool false):=cd;have Gb:(w3.drewN nq).cell? ⟨w.heap.size,0,none⟩=some (.pointer (some ⟨b,0,none⟩)):=cm;have Kh:(w3.drewN nq).cell? ⟨tb,n*13,none⟩=some (.slice (some ⟨cb,co,none⟩) x.th.code.length iF):=e0;have FN:(w3.drewN nq).cell? ⟨tb,n*13+9,none⟩=some (.int .i64 (pl:Int)):=e9;have GQ:(w3.drewN nq).cell? ⟨cb,co+pl*6,none⟩=some (.int .u8 ki):=i0;have Ka:(w3.drewN nq).cell? ⟨cb,co+pl*6+1,none⟩=some (.int .u8 bn):=i1;have Mo:(w3.drewN nq).cell? ⟨cb,co+pl*6+2,none⟩=some (.int .u8 ra):=i2;have Ms:(w3.drewN nq).cell? ⟨cb,co+pl*6+3,none⟩=some (.int .u8 rb):=i3;have K3:(w3.drewN nq).cell? ⟨cb,co+pl*6+4,none⟩=some (.int .u8 rc):=i4;have Mx:(w3.drewN nq).cell? ⟨cb,co+pl*6+5,none⟩=some (.int .i64 num):=i5;have Lp:(w3.drewN nq).frozen? ⟨w.heap.size+1,0,none⟩=false:=fd;have H5:=ag (H3.out.drewN nq);have qj:=ag (below_drewN HB.out nq);clear hd0 hd1 fd H3 HB e12 yx ct cd cm e0 e9 i0 i1 i2 i3 i4 i5;generalize w3.drewN nq=w5 at H5 qj Lp Cx zA Gb Kh FN GQ Ka Mo Ms K3 Mx⊢;have ct:=fun o=>aU Cx o
 have cd:=fun o=>aU zA o
 have cm:=fun o=>aU Gb o
 have e0:=fun o=>aU Kh o
 have e9:=fun o=>aU FN o
 have i0:=fun o=>aU GQ o
 have i1:=fun o=>aU Ka o
 have i2:=fun o=>aU Mo o
 have i3:=fun o=>aU Ms o
 have i4:=fun o=>aU K3 o
 have i5:=fun o=>aU Mx o
 go_region;go_wp2_with fail;have f7:∀{a u},w5.cell? a=some u->((w5.alloc (.cells #[.int .u8 ki,.int .u8 bn,.int .u8 ra,.int .u8 rb,.int .u8 rc,.int .i64 num] 107)).drew).cell? a=some u:=fun h=>aU h _
 have kO:=heap_alloc_new w5 (.cells #[.int .u8 ki,.int .u8 bn,.int .u8 ra,.int .u8 rb,.int .u8 rc,.int .i64 num] 107);have L8:=f7 Cx;have FL:=f7 zA;have KW:=f7 Gb;have Kc:=f7 FN;have KC:((w5.alloc (.cells #[.int .u8 ki,.int .u8 bn,.int .u8 ra,.int .u8 rb,.int .u8 rc,.int .i64 num] 107)).drew).frozen? ⟨w.heap.size+1,0,none⟩=false:=qa Lp (dH _ _ zA);have AB:Below w.heap.size w ((w5.alloc (.cells #[.int .u8 ki,.int .u8 bn,.int .u8 ra,.int .u8 rb,.int .u8 rc,.int .i64 num] 107)).drew):=below_drewN (qj.out.alloc qj.out.size _) 1;have H7:=ag (H5.out.below ((aQ _ _).alloc (aR _) (.cells #[.int .u8 ki,.int .u8 bn,.int .u8 ra,.int .u8 rb,.int .u8 rc,.int .i64 num] 107))).drew;have nP:=ag AB;have hpo:w.heap.size+1+1<w5.heap.size:=dH _ _ Cx;clear f7 AB H5 qj Lp Cx zA Gb Kh FN GQ Ka Mo Ms K3 Mx ct cd cm e0 e9 i0 i1 i2 i3 i4 i5;obtain⟨po,xZ⟩:∃po,po=w5.heap.size:=⟨_,rfl⟩;have Gl:((w5.alloc (.cells #[.int .u8 ki,.int .u8 bn,.int .u8 ra,.int .u8 rb,.int .u8 rc,.int .i64 num] 107)).drew).heap[po]? =some (.cells #[.int .u8 ki,.int .u8 bn,.int .u8 ra,.int .u8 rb,.int .u8 rc,.int .i64 num] 107):=by rw[xZ];exact kO
 clear kO;rw[<-xZ] at hpo⊢;generalize(w5.alloc (.cells #[.int .u8 ki,.int .u8 bn,.int .u8 ra,.int .u8 rb,.int .u8 rc,.int .i64 num] 107)).drew=w7 at L8 FL KW Kc KC H7 nP Gl⊢;clear xZ;refine(wO H7.out HX.out HM.out _ zC.out).mono ?_;rintro r w8 ⟨uD,hr⟩;have f8:∀{a u},w7.cell? a=some u->w8.cell? a=some u:=fun h=>(World.cell?_of_block (uD.block _ (dH _ _ h))).trans h
 have Uz:=f8 L8;have NQ:=f8 FL;have UA:=f8 KW;have Wd:=f8 Kc;have UF:w8.frozen? ⟨w.heap.size+1,0,none⟩=false:=gq uD (dH _ _ FL) KC;have u7:=(uD.block po (lt_of_block Gl)).trans Gl;have o0:=af (o:=0) u7 rfl;have o1:=af (o:=1) u7 rfl;have o2:=af (o:=2) u7 rfl;have o3:=af (o:=3) u7 rfl;have o4:=af (o:=4) u7 rfl;have o5:=af (o:=5) u7 rfl;have H8:=ag (H7.out.below uD);have EK:=ag (nP.out.trans (uD.mono nP.out.size));clear f8 uD L8 FL KW Kc KC Gl H7 nP;have hr':(∃a,r= .returned (.int .i64 a)/\(x.th.word ⟨ki,bn,ra,rb,rc,num⟩=none/\a=0\/x.th.word ⟨ki,bn,ra,rb,rc,num⟩=some a/\mm.has a=true))\/(∃a,r= .panicked [qP 8]/\x.th.word ⟨ki,bn,ra,rb,rc,num⟩=some a/\mm.has a=false):=by
  rcases hr with⟨h1,h2⟩|⟨a,h1,⟨h2,h3⟩|⟨h2,h3⟩⟩
  ·exact .inl ⟨0,h2,.inl ⟨h1,rfl⟩⟩
  ·exact .inl ⟨a,h3,.inr ⟨h1,h2⟩⟩
  ·exact .inr ⟨a,h3,h1,h2⟩
 clear hr;rcases hr' with⟨a,rfl,hwd⟩|⟨a,rfl,hwd⟩
 ·have vG:=ag (Uw (n:=n) (t:=x.th) (o:=⟨ki,bn,ra,rb,rc,num⟩) (mm:=mm) HAT.out.1 (by rw[Mm.out];exact Za.out) hwd);have U8:=ag (C9 hwd);clear hwd;go_wp2_with fail;refine(zR H8.out HX.out _ zC.out).mono ?_;rintro r w9 ⟨rfl,vF⟩;clear o0 o1 o2 o3 o4 o5;have f9:∀{a u},w8.cell? a=some u->w9.cell? a=some u:=fun h=>(World.cell?_of_block (vF.block _ (dH _ _ h))).trans h
  have Zl:=f9 Uz;have Vj:=f9 NQ;have Zd:=f9 UA;have e99:=f9 Wd;have Zi:w9.frozen? ⟨w.heap.size+1,0,none⟩=false:=gq vF (dH _ _ NQ) UF;have Aw:=(vF.block po (lt_of_block u7)).trans u7;have o0:=af (o:=0) Aw rfl;have o1:=af (o:=1) Aw rfl;have o2:=af (o:=2) Aw rfl;have o3:=af (o:=3) Aw rfl;have o4:=af (o:=4) Aw rfl;have o5:=af (o:=5) Aw rfl;have H9:=ag (H8.out.below vF);have Fa:=ag (EK.out.trans (vF.mono EK.out.size));clear f9 vF Uz NQ UA Wd UF u7 H8 EK;have hwt:=Ij.out;rw[hwt];rw[hwt] at vG;go_wp2_with fail;obtain⟨F,hF,hcf,hdo⟩:=Nb _ zC.out;have HDO:=ag hdo;have g0:=fun t=>fH o0 t
  have hix:=Ak zC.out.kind hF;clear hdo;refine jb (by kernel_rfl) (by kernel_rfl) ?_;repeat (go_big_quiet_step ((first|(go_at_call 105;exact uF (ET _)))))
  refine wpQuiet_nil ?_;intro DI zN;clear o0 o1 o2 o3 o4 o5 g0 hix;have f10:∀{a u},w9.cell? a=some u->DI.cell? a=some u:=fun h=>(World.cell?_of_block (zN.block _ (dH _ _ h))).trans h
  have Wu:=f10 Zl;have IQ:=f10 Vj;have VU:=f10 Zd;have e9q:=f10 e99;have OM:DI.frozen? ⟨w.heap.size+1,0,none⟩=false:=gq zN (dH _ _ Vj) Zi;have xO:=(zN.block po (lt_of_block Aw)).trans Aw;have o0:=af (o:=0) xO rfl;have o1:=af (o:=1) xO rfl;have o2:=af (o:=2) xO rfl;have o3:=af (o:=3) xO rfl;have o4:=af (o:=4) xO rfl;have o5:=af (o:=5) xO rfl;have Zu:=ag (H9.out.below zN);have O7:=ag (Fa.out.trans (zN.mono Fa.out.size));clear f10 zN Zl Vj Zd e99 Zi Aw H9 Fa;go_wp2_with fail;have YS:=ag IQ;have WW:=ag Zu.out.drew;have ZO:=ag OM;have hop:own po=0:=H.out.fresh po (by omega);have htd:¬w.heap.size+1=tb:=fun e=>by
   have h1:=HW.out.2.1;rw[e,H.out.fo tb rfl] at h1;cases h1
  have HTD:=ag htd;clear htd;obtain⟨k,hst⟩:=HST.out;have HP:∀(tm:Array Value) (Jg:World),tm.getD 4 undef= .pointer (some ⟨w.heap.size+1,0,none⟩)->Below DI.drew.heap.size DI.drew Jg->mm.act n x.th ⟨ki,bn,ra,rb,rc,num⟩ a=mm.stop n x.th k->1<=k/\k<256->
    bodyPostD Tryz.prog Tryz.f63 (fun r w'=>r= .returned (.bool (mm.go n x.th).1)/\nA w base b own (mm.go n x.th).2 w') (.panic [qP k]) {tmps:=tm,defers:=[{target:=.fn (.func 101) #[.pointer (some ⟨w.heap.size+1+1,0,none⟩),.pointer (some ⟨w.heap.size+1,0,none⟩),.pointer (some ⟨w.heap.size,0,none⟩)],args:=#[]}]} Jg:=by
   intro tm Jg htm OV hact hk1;have H11:=Zu.out.drew.below OV;have ZG:=(O7.out.drew).trans (OV.mono O7.out.size);have GU:∀{p u},DI.cell? ⟨p,0,none⟩=some u->Jg.cell? ⟨p,0,none⟩=some u:=fun h=>(World.cell?_of_block (w:=DI) (OV.block _ (dH DI _ h))).trans h
   have ZL:Jg.frozen? ⟨w.heap.size+1,0,none⟩=false:=gq OV (dH DI _ IQ) OM;have aaI:mm.go n x.th=(true,mm.stop n x.th k):=vG.out.trans (by rw[if_neg (by simp),hact]);refine leaves_cons (f:=101) (args:=#[.pointer (some ⟨w.heap.size+1+1,0,none⟩),.pointer (some ⟨w.heap.size+1,0,none⟩),.pointer (some ⟨w.heap.size,0,none⟩)]) (by simp) (by simp[go_sem]) ?_;refine(uO (w:=Jg) H11 HX.out HE.out H4.out k hk1 (GU Wu) (GU IQ) ZL (GU VU) HW.out.2.2 HW.out.2.1 HW.out.1 (by omega) (by omega)).mono ?_;rintro e u' w4 ⟨rfl,rfl,hd,⟨jA,Je,hm,ho⟩,hc⟩;have hs:=ZG.size;refine⟨.bool true,?_,by rw[aaI],⟨jA,_,mv,_,Je,by rw[aaI];exact hm,fun k hk=>ho k (by omega)⟩,bH.gY (bH.of_below ZG) hc (fun k hk e=>by
    rcases e with e|e
    ·omega
    ·exact e)⟩
   have aco:tm[4]?.getD undef= .pointer (some ⟨w.heap.size+1,0,none⟩):=by simpa using htm
   simp[results,Tryz.results63,aco,hd,go_sem]
  have HP:=ag HP;clear IQ OM xO e9q vG Zu O7 hop;refine wp_region_held_drew (S:=fun w'=>w'=DI.drew) (by kernel_rfl) rfl (fun hHeld=>?_);refine wpAnyH_take (i:=0) (v:=?_) rfl (by kernel_rfl) (by kernel_rfl) (by kernel_rfl) (calm (by decide)) (Or.inl ⟨by rfl,?_⟩) hHeld ?_
  rotate_left
  ·intro w' hSw;subst hSw
   go_simp
   try with_reducible rfl
  try simp only[Act.put,List.setIfInBounds_toArray,List.set_cons_zero,List.set_cons_succ]
  refine wpAnyH_take (i:=1) (v:=?_) rfl (by kernel_rfl) (by kernel_rfl) (by kernel_rfl) (calm (by decide)) (Or.inl ⟨by rfl,?_⟩) hHeld ?_
  rotate_left
  ·intro w' hSw;subst hSw
   go_simp
   try with_reducible rfl
  try simp only[Act.put,List.setIfInBounds_toArray,List.set_cons_zero,List.set_cons_succ]
  refine wpAnyH_take (i:=2) (v:=?_) rfl (by kernel_rfl) (by kernel_rfl) (by kernel_rfl) (calm (by decide)) (Or.inl ⟨by rfl,?_⟩) hHeld ?_
  rotate_left
  ·intro w' hSw;subst hSw
   go_simp
   try with_reducible rfl
  try simp only[Act.put,List.setIfInBounds_toArray,List.set_cons_zero,List.set_cons_succ]
  refine wpAnyH_take (i:=3) (v:=?_) rfl (by kernel_rfl) (by kernel_rfl) (by kernel_rfl) (calm (by decide)) (Or.inl ⟨by rfl,?_⟩) hHeld ?_
  rotate_left
  ·intro w' hSw;subst hSw
   go_simp
   try with_reducible rfl
  try simp only[Act.put,List.setIfInBounds_toArray,List.set_cons_zero,List.set_cons_succ]
  refine wpAnyH_take (i:=4) (v:=?_) rfl (by kernel_rfl) (by kernel_rfl) (by kernel_rfl) (calm (by decide)) (Or.inl ⟨by rfl,?_⟩) hHeld ?_
  rotate_left
  ·intro w' hSw;subst hSw
   go_simp
   try with_reducible rfl
  try simp only[Act.put,List.setIfInBounds_toArray,List.set_cons_zero,List.set_cons_succ]
  refine wpAnyH_take (i:=5) (v:=?_) rfl (by kernel_rfl) (by kernel_rfl) (by kernel_rfl) (calm (by decide)) (Or.inl ⟨by rfl,?_⟩) hHeld ?_
  rotate_left
  ·intro w' hSw;subst hSw
   go_simp
   try with_reducible rfl
  try simp only[Act.put,List.setIfInBounds_toArray,List.set_cons_zero,List.set_cons_succ]
  refine wpAnyH_ready (rs:=[6]) (by kernel_rfl) (by simp) ?_;refine AllReadyH.cons rfl (fun K hK=>?_) AllReadyH.nil
  go_simp
  refine(HDO.out DI.drew base b own mm xs mv ev tb cap n x a ⟨WW.out,HX.out,HAT.out,U8.out,fun hk=>ED hk hwt,HO.out,HE.out,H4.out⟩).mono ?_;rintro r Jg hp;rcases hp with⟨h0, -⟩|⟨k',hk,rfl,OV,hact,hk1⟩
  ·cases hst.symm.trans h0
  ·cases hst.symm.trans hk;exact HP.out _ _ rfl OV hact hk1
 ·exact absurd ⟨a,hwd⟩ J4.out
end Go.Proofs.YtopdcjimpdalpaaGreat

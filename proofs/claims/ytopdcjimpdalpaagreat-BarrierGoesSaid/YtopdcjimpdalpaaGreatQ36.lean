import Derived.Test.YtopdcjimpdalpaaGreatQ35
import Derived.Deep.RegionHeld3
import Derived.ArgAppend
namespace Go.Proofs.YtopdcjimpdalpaaGreat
open Go.RowKit
set_option linter.all false
set_option maxHeartbeats 8000000
set_option maxRecDepth 100000
section
variable {w w':World} {base b:Nat}
theorem VX {ca ug sa:Option Addr} {iF jZ PL:Nat} {l:List (Value×List bM)} {cs:List (Int×Int)} {sc:List gT} (h:pI w (.slice ca l.length iF) l) (hc:fI iI w 2 (.slice ug cs.length jZ) cs) (mem:Int) (hl:l.length<=6000000000000) (hcl:cs.length<=9000000000000) (hk:dB mem l cs=0)
  (hs:fI iE w 3 (.slice sa sc.length PL) sc) (hm:sc.length<=9000000000000) (hn:∀p∈sc, -9223372036854775808<=p.n/\0<=p.kind) (he:(eG sc).2=0):
  Calls Tryz.prog 29 #[.agg #[.slice ca l.length iF,.int .i64 mem,.slice ug cs.length jZ],.slice sa sc.length PL] w (Ie (bg (iC mem (l.map (·.2)) cs,0) (jM sc)) w):=by
 have H:=ag h;have HC:=ag hc;have HS:=ag hs;have HN:=ag hn;have HL:=ag hl;have NA:=ag hcl;have HM:=ag hm;have HK:=ag hk;clear h hc hs hn hl hcl hm hk;have o1:=fun w a=>run_store Tryz.prog w a .nilFunc .plain rfl
 have o2:=fun w a f c d=>run_store Tryz.prog w a (.func f c d) .plain rfl
 have U0:∀(fn:Fn) (first cap:Array Value) (w:World),(Instr.makeFunc fn first cap).run Tryz.prog w= .ok (.func fn first cap) w:=fun _ _ _ _=>rfl
 go_in;have hb0:Below w.heap.size w ((w.alloc (.cells #[.slice ca l.length iF,.int .i64 mem,.slice ug cs.length jZ] 30)).alloc (.cells #[.slice none 0 0,.slice none 0 0,.int .i64 0] 66)):=((aQ w.heap.size w).alloc (aR _) _).alloc (by simp) _;have htr:=j3 w (.cells #[.slice ca l.length iF,.int .i64 mem,.slice ug cs.length jZ] 30) (.cells #[.slice none 0 0,.slice none 0 0,.int .i64 0] 66);have H0:=ag (H.out.below hb0);have GL:=ag (Rd.below HC.out hb0);have HB0:=ag hb0;have HTR:=ag htr;clear hb0 htr;go_wp2_with fail;refine(U2 H0.out GL.out mem HL.out NA.out HK.out).mono ?_;rintro e w1 ⟨b,own,xs,mv,tv,rfl,YZ,hb⟩;have Z0:=ag YZ;have HB:=ag (Vt (aQ w.heap.size w) hb);have HT1:=ag (blk hb HTR.out);clear YZ hb HTR;go_wp2_with fail;have hbx:Below w1.heap.size w1 (w1.alloc (.cells #[.pointer (some ⟨b,0,none⟩)] 144)):=(aQ _ _).alloc (aR _) _;have Xm:=ag (show w.heap.size+2<=w1.heap.size from by have h9:=(lS.Gm (sI.of Z0.out (FB H0.out HK.out))).eX;simpa using h9);have J2:=ag (((lS.Gm (show sI w1 (w.heap.size+2) b _ 0 from by have h9:=sI.of Z0.out (FB H0.out HK.out);simpa using h9)).X7 (q:=w.heap.size+1) (by omega)).alloc (.cells #[.pointer (some ⟨b,0,none⟩)] 144));have tN:=ag (gH HB.out hbx);have HTX:=ag (blk hbx HT1.out);have WK:=ag (aX w1 (.cells #[.pointer (some ⟨b,0,none⟩)] 144));clear hbx HT1 Z0 HB;refine(Kq (Rd.below HS.out tN.out) HM.out HN.out).mono ?_;rintro e w2 ⟨rfl,hb⟩;rw[he];have HB2:=ag (gH tN.out hb);have HT2:=ag (blk hb HTX.out);have HX2:=ag (blk hb WK.out);have J4:=ag (J2.out.below hb);clear hb HTX WK J2 tN;have hrun:jH ((w2.alloc (.cells #[.int .i64 0] 3)).alloc (.cells #[.func (.func 62) #[] #[.pointer (some ⟨w1.heap.size,0,none⟩),.pointer (some ⟨w2.heap.size,0,none⟩)]] 147)) (w.heap.size+2) b w1.heap.size w2.heap.size (w2.heap.size+1) (iC mem (l.map (·.2)) cs) 0 0 [w2.heap.size+1,w2.heap.size,w1.heap.size,w.heap.size+1]:=by
  have h0:=J4.out;have h1:=(h0.alloc (.cells #[.int .i64 0] 3)).alloc (.cells #[.func (.func 62) #[] #[.pointer (some ⟨w1.heap.size,0,none⟩),.pointer (some ⟨w2.heap.size,0,none⟩)]] 147);rw[World.size_alloc] at h1;have hl:=lt_of_block HX2.out;have hl2:=HB2.out.size;have hl3:=h0.eX;exact⟨h1,bz (bz HX2.out),bz (aX _ _),j3 _ _ _,by simp,by simp,by simp,by omega,by omega,by omega⟩
 have VM:=ag hrun;have HT3:=ag (bz (o:=.cells #[.func (.func 62) #[] #[.pointer (some ⟨w1.heap.size,0,none⟩),.pointer (some ⟨w2.heap.size,0,none⟩)]] 147) (bz (o:=.cells #[.int .i64 0] 3) HT2.out));have HB3:=ag ((HB2.out.alloc HB2.out.size (.cells #[.int .i64 0] 3)).alloc (by have:=HB2.out.size;simp;omega) (.cells #[.func (.func 62) #[] #[.pointer (some ⟨w1.heap.size,0,none⟩),.pointer (some ⟨w2.heap.size,0,none⟩)]] 147));have Zj:=ag (Cm he);clear hrun he;go_wp2_with fail;go_loopw [36] (fun i w'=>∃k:Nat,k<=sc.length/\i= .int .i64 (k:Int)/\Hid (∃N':Nat,(N':Int)<=total (sc.take k)/\0<=(bg (iC mem (l.map (·.2)) cs,0) (jM (sc.take k))).2/\(bg (iC mem (l.map (·.2)) cs,0) (jM (sc.take k))).2<=N'/\
  jH w' (w.heap.size+2) b w1.heap.size w2.heap.size (w2.heap.size+1) (bg (iC mem (l.map (·.2)) cs,0) (jM (sc.take k))).1 (bg (iC mem (l.map (·.2)) cs,0) (jM (sc.take k))).2 N' [w2.heap.size+1,w2.heap.size,w1.heap.size,w.heap.size+1])/\
  Hid (w'.heap[w.heap.size+1]? =some (.cells #[.slice none 0 0,.slice none 0 0,.int .i64 0] 66 (0,0)))/\Hid (Below w.heap.size w w')) (fun i _=>((sc.length:Int) - intOf i).toNat)
 case atStart=>exact⟨0,by omega,rfl,⟨0,by simp[total],by simp[jM,bg],by simp[jM,bg],VM.out⟩,HT3,HB3⟩
 case round=>
  clear HT3 HB3 VM HT2 HB2 HX2 J4;obtain⟨k,hk,rfl,HR,HT,HB⟩:=hrel;by_cases hlt:k<sc.length
  ·obtain⟨x,hx⟩:=bW hlt;obtain⟨b1,o1',rfl,hs1,hc1⟩:=fI.at qi (Rd.below HS.out HB.out) hx;have x0:=hc1 0 _ rfl;have x1:=hc1 1 _ rfl;have x2:=hc1 2 _ rfl;simp only[Nat.add_zero] at x0;obtain⟨kk,th,nn⟩:=x;simp only at x0 x1 x2;have hbx:nC ⟨kk,th,nn⟩=false:=by
    have:=List.any_eq_false.1 Zj.out.2.1 _ (bA hx);simpa using this
   have hn0:0<=nn:=by unfold nC at hbx;simp at hbx;omega
   have hp0:=BA hbx;have htk:total (sc.take (k+1))<=1048576:=by
    have h1:=wC (sc.take (k+1)) (sc.drop (k+1));rw[List.take_append_drop] at h1;have:0<=total (sc.drop (k+1)):=oJ (by
     refine List.any_eq_false.2 fun y hy=>?_
     exact List.any_eq_false.1 Zj.out.2.1 y (List.mem_of_mem_drop hy))
    have:=Zj.out.2.2.1;omega
   have ht0:0<=total (sc.take k):=oJ (by
    refine List.any_eq_false.2 fun y hy=>?_
    exact List.any_eq_false.1 Zj.out.2.1 y (List.mem_of_mem_take hy))
   rw[dx hx,mO] at htk;have hpl:nn<=qA ⟨kk,th,nn⟩:=by
    unfold qA at htk⊢;simp only at htk⊢;split at htk<;>split<;>omega
   obtain⟨N0,hN0,hq0,hq1,hR⟩:=HR.out;obtain⟨S,hS⟩:∃S,S=bg (iC mem (l.map (·.2)) cs,0) (jM (sc.take k)):=⟨_,rfl⟩;rw[<-hS] at hq0 hq1 hR;have Yp:=ag hS.symm;have Qo:=ag hN0;have Mm:=ag hpl;have HNL:Hid (nn<=1048576/\total (sc.take k)<=1048576):=ag ⟨by omega,by omega⟩;have HX:=ag hx;have hnb:nn<=1048576:=HNL.out.1;have hkb:sc.length<=65536:=Zj.out.1;obtain⟨w3,rfl⟩:∃q,q=wr:=⟨_,rfl⟩;clear hc1 hx hbx hp0 htk ht0 hpl hN0 hS HR;by_cases hk1:kk=1
   ·subst hk1;go_wp2_with fail;have hpb:=aX w3 (.cells (iE ⟨1,th,nn⟩).toArray 42);have En:=ag hpb;clear hpb;have WR:=ag (hR.Km (.cells (iE ⟨1,th,nn⟩).toArray 42));have Xd:=ag (bz (o:=.cells (iE ⟨1,th,nn⟩).toArray 42) HT.out);have Xr:=ag (HB.out.alloc HB.out.size (.cells (iE ⟨1,th,nn⟩).toArray 42));have hne:w3.heap.size≠w2.heap.size:=by have:=lt_of_block hR.s;omega
    have hne2:w.heap.size+1≠w2.heap.size:=by have:=hR.lo;omega
    have Gg:=ag hne;have TK:=ag hne2;have UH:Hid (0<=S.2/\S.2<=N0):=ag ⟨hq0,hq1⟩;clear hR hq0 hq1 hne hne2 HT HB;go_loopw [51] (fun i w'=>∃j:Nat,(j:Int)<=nn/\i= .int .i64 (j:Int)/\Hid (∃N':Nat,(N':Int)<=N0+j/\0<=(bg S (bQ ⟨1,th,nn⟩ j)).2/\(bg S (bQ ⟨1,th,nn⟩ j)).2<=N'/\
     jH w' (w.heap.size+2) b w1.heap.size w2.heap.size (w2.heap.size+1) (bg S (bQ ⟨1,th,nn⟩ j)).1 (bg S (bQ ⟨1,th,nn⟩ j)).2 N' [w3.heap.size,w2.heap.size+1,w2.heap.size,w1.heap.size,w.heap.size+1])/\
     Hid (w'.heap[w3.heap.size]? =some (.cells (iE ⟨1,th,nn⟩).toArray 42 (0,0)))/\Hid (w'.heap[w.heap.size+1]? =some (.cells #[.slice none 0 0,.slice none 0 0,.int .i64 0] 66 (0,0)))/\Hid (Below w.heap.size w w')) (fun i _=>nn.toNat - (intOf i).toNat)
    case atStart=>exact⟨0,hn0,rfl,⟨N0,by simp,by simpa [bQ,bg] using UH.out.1,by simpa [bQ,bg] using UH.out.2,WR.out⟩,En,Xd,Xr⟩
    case round=>
     clear En Xd Xr WR;obtain⟨j,hj,rfl,HR,En,HT,HB⟩:=hrel;by_cases hlt2:(j:Int)<nn
     ·obtain⟨N1,hN1,h0,h1,hR⟩:=HR.out;have HRR:=ag hR;have H0:=ag h0;have H1:=ag h1;have U9:=ag hN1;clear HR hR h0 h1 hN1;go_wp2_with fail;refine(ac9 HRR.out En.out rfl).mono ?_;rintro e w4 ⟨rfl,hr4,hst,hb4⟩;have hsn:bg S (bQ ⟨1,th,nn⟩ (j+1))=bg (bg S (bQ ⟨1,th,nn⟩ j)) (jP ⟨1,th,nn⟩):=by rw[bQ,kY]
      rw[show((bg S (bQ ⟨1,th,nn⟩ j)).1,(bg S (bQ ⟨1,th,nn⟩ j)).2)=bg S (bQ ⟨1,th,nn⟩ j) from rfl,<-hsn] at hr4;have hstp:=xX (bg S (bQ ⟨1,th,nn⟩ j)) ⟨1,th,nn⟩;rw[<-hsn] at hstp;have HR4:=ag hr4;have HST:=ag hstp;have Td:=ag ((hst w3.heap.size (by simp) Gg.out).trans En.out);have HT4:=ag ((hst (w.heap.size+1) (by simp) TK.out).trans HT.out);have yo:=ag (HB.out.trans (hb4.mono (by omega)));clear hr4 hst hb4 hsn hstp;go_wp2_with fail;exact⟨⟨j+1,by omega,by go_num,⟨N1+1,by have:=U9.out;omega,by have:=H0.out;have:=HST.out;omega,by have:=H1.out;have:=HST.out;omega,HR4.out.more⟩,Td,HT4,yo⟩,by simp[intOf];omega⟩
     ·have hjn:nn.toNat=j:=by omega
      go_wp2_with fail;obtain⟨N1,hN1,h0,h1,hR⟩:=HR.out;have hfin:bg (iC mem (l.map (·.2)) cs,0) (jM (sc.take (k+1)))=bg S (bQ ⟨1,th,nn⟩ j):=by
       rw[dx HX.out,xP,kY,Yp.out];simp only[uT];rw[hjn]
      exact⟨⟨k+1,by omega,by go_num,⟨N1,by rw[dx HX.out,mO];have:=Qo.out;have:=Mm.out;omega,by rw[hfin];exact h0,by rw[hfin];exact h1,by rw[hfin];exact hR.less (fun q hq=>by simp at hq;simp[hq]) (by simp) (by simp) (by simp)⟩,HT,HB⟩,by simp[intOf];omega⟩
   ·have af_:(kk==1)=false:=by simpa using hk1
    by_cases hk2:kk=2
    ·subst hk2;go_wp2_with fail;have hpb:=aX w3 (.cells (iE ⟨2,th,nn⟩).toArray 42);have En:=ag hpb;clear hpb;have WR:=ag (hR.Km (.cells (iE ⟨2,th,nn⟩).toArray 42));have Xd:=ag (bz (o:=.cells (iE ⟨2,th,nn⟩).toArray 42) HT.out);have Xr:=ag (HB.out.alloc HB.out.size (.cells (iE ⟨2,th,nn⟩).toArray 42));have hne:w3.heap.size≠w2.heap.size:=by have:=lt_of_block hR.s;omega
     have hne2:w.heap.size+1≠w2.heap.size:=by have:=hR.lo;omega
     have Gg:=ag hne;have TK:=ag hne2;have UH:Hid (0<=S.2/\S.2<=N0):=ag ⟨hq0,hq1⟩;clear hR hq0 hq1 hne hne2 HT HB;go_loopw [51] (fun i w'=>∃j:Nat,(j:Int)<=nn/\i= .int .i64 (j:Int)/\Hid (∃N':Nat,(N':Int)<=N0+j/\0<=(bg S (bQ ⟨2,th,nn⟩ j)).2/\(bg S (bQ ⟨2,th,nn⟩ j)).2<=N'/\
      jH w' (w.heap.size+2) b w1.heap.size w2.heap.size (w2.heap.size+1) (bg S (bQ ⟨2,th,nn⟩ j)).1 (bg S (bQ ⟨2,th,nn⟩ j)).2 N' [w3.heap.size,w2.heap.size+1,w2.heap.size,w1.heap.size,w.heap.size+1])/\
      Hid (w'.heap[w3.heap.size]? =some (.cells (iE ⟨2,th,nn⟩).toArray 42 (0,0)))/\Hid (w'.heap[w.heap.size+1]? =some (.cells #[.slice none 0 0,.slice none 0 0,.int .i64 0] 66 (0,0)))/\Hid (Below w.heap.size w w')) (fun i _=>nn.toNat - (intOf i).toNat)
     case atStart=>exact⟨0,hn0,rfl,⟨N0,by simp,by simpa [bQ,bg] using UH.out.1,by simpa [bQ,bg] using UH.out.2,WR.out⟩,En,Xd,Xr⟩
     case round=>
      clear En Xd Xr WR;obtain⟨j,hj,rfl,HR,En,HT,HB⟩:=hrel;by_cases hlt2:(j:Int)<nn
      ·obtain⟨N1,hN1,h0,h1,hR⟩:=HR.out;have HRR:=ag hR;have H0:=ag h0;have H1:=ag h1;have U9:=ag hN1;clear HR hR h0 h1 hN1;go_wp2_with fail;refine(ac6 HRR.out En.out (by simp) Gg.out (by have:=U9.out;have:=Qo.out;have:=HNL.out;omega) ⟨H0.out,by have:=H1.out;have:=U9.out;have:=Qo.out;have:=HNL.out;omega⟩ rfl).mono ?_;rintro e w4 ⟨rfl,hr4,hst,hb4⟩;have hsn:bg S (bQ ⟨2,th,nn⟩ (j+1))=bg (bg S (bQ ⟨2,th,nn⟩ j)) (jP ⟨2,th,nn⟩):=by rw[bQ,kY]
       rw[show((bg S (bQ ⟨2,th,nn⟩ j)).1,(bg S (bQ ⟨2,th,nn⟩ j)).2)=bg S (bQ ⟨2,th,nn⟩ j) from rfl,<-hsn] at hr4;have hstp:=xX (bg S (bQ ⟨2,th,nn⟩ j)) ⟨2,th,nn⟩;rw[<-hsn] at hstp;have HR4:=ag hr4;have HST:=ag hstp;have Td:=ag ((hst w3.heap.size (by simp) Gg.out).trans En.out);have HT4:=ag ((hst (w.heap.size+1) (by simp) TK.out).trans HT.out);have yo:=ag (HB.out.trans (hb4.mono (by omega)));clear hr4 hst hb4 hsn hstp;go_wp2_with fail;exact⟨⟨j+1,by omega,by go_num,⟨N1+1,by have:=U9.out;omega,by have:=H0.out;have:=HST.out;omega,by have:=H1.out;have:=HST.out;omega,HR4.out⟩,Td,HT4,yo⟩,by simp[intOf];omega⟩
      ·have hjn:nn.toNat=j:=by omega
       go_wp2_with fail;obtain⟨N1,hN1,h0,h1,hR⟩:=HR.out;have hfin:bg (iC mem (l.map (·.2)) cs,0) (jM (sc.take (k+1)))=bg S (bQ ⟨2,th,nn⟩ j):=by
        rw[dx HX.out,xP,kY,Yp.out];simp only[uT];rw[hjn]
       exact⟨⟨k+1,by omega,by go_num,⟨N1,by rw[dx HX.out,mO];have:=Qo.out;have:=Mm.out;omega,by rw[hfin];exact h0,by rw[hfin];exact h1,by rw[hfin];exact hR.less (fun q hq=>by simp at hq;simp[hq]) (by simp) (by simp) (by simp)⟩,HT,HB⟩,by simp[intOf];omega⟩
    ·have hkb2:(kk==2)=false:=by simpa using hk2
     go_wp2_with fail;have hpb:=aX w3 (.cells (iE ⟨kk,th,nn⟩).toArray 42);have En:=ag hpb;clear hpb;have WR:=ag (hR.Km (.cells (iE ⟨kk,th,nn⟩).toArray 42));have Xd:=ag (bz (o:=.cells (iE ⟨kk,th,nn⟩).toArray 42) HT.out);have Xr:=ag (HB.out.alloc HB.out.size (.cells (iE ⟨kk,th,nn⟩).toArray 42));have hne:w3.heap.size≠w2.heap.size:=by have:=lt_of_block hR.s;omega
     have hne2:w.heap.size+1≠w2.heap.size:=by have:=hR.lo;omega
     have Gg:=ag hne;have TK:=ag hne2;have UH:Hid (0<=S.2/\S.2<=N0):=ag ⟨hq0,hq1⟩;clear hR hq0 hq1 hne hne2 HT HB;go_loopw [51] (fun i w'=>∃j:Nat,(j:Int)<=nn/\i= .int .i64 (j:Int)/\Hid (∃N':Nat,(N':Int)<=N0+j/\0<=(bg S (bQ ⟨kk,th,nn⟩ j)).2/\(bg S (bQ ⟨kk,th,nn⟩ j)).2<=N'/\
      jH w' (w.heap.size+2) b w1.heap.size w2.heap.size (w2.heap.size+1) (bg S (bQ ⟨kk,th,nn⟩ j)).1 (bg S (bQ ⟨kk,th,nn⟩ j)).2 N' [w3.heap.size,w2.heap.size+1,w2.heap.size,w1.heap.size,w.heap.size+1])/\
      Hid (w'.heap[w3.heap.size]? =some (.cells (iE ⟨kk,th,nn⟩).toArray 42 (0,0)))/\Hid (w'.heap[w.heap.size+1]? =some (.cells #[.slice none 0 0,.slice none 0 0,.int .i64 0] 66 (0,0)))/\Hid (Below w.heap.size w w')) (fun i _=>nn.toNat - (intOf i).toNat)
     case atStart=>exact⟨0,hn0,rfl,⟨N0,by simp,by simpa [bQ,bg] using UH.out.1,by simpa [bQ,bg] using UH.out.2,WR.out⟩,En,Xd,Xr⟩
     case round=>
      clear En Xd Xr WR;obtain⟨j,hj,rfl,HR,En,HT,HB⟩:=hrel;by_cases hlt2:(j:Int)<nn
      ·obtain⟨N1,hN1,h0,h1,hR⟩:=HR.out;have HRR:=ag hR;have H0:=ag h0;have H1:=ag h1;have U9:=ag hN1;clear HR hR h0 h1 hN1;go_wp2_with fail;refine(acU HRR.out En.out (by have:=U9.out;have:=Qo.out;have:=HNL.out;omega) ⟨H0.out,by have:=H1.out;have:=U9.out;have:=Qo.out;have:=HNL.out;omega⟩ ⟨hk1,hk2⟩).mono ?_;rintro e w4 ⟨rfl,hr4,hst,hb4⟩;have hsn:bg S (bQ ⟨kk,th,nn⟩ (j+1))=bg (bg S (bQ ⟨kk,th,nn⟩ j)) (jP ⟨kk,th,nn⟩):=by rw[bQ,kY]
       rw[show((bg S (bQ ⟨kk,th,nn⟩ j)).1,(bg S (bQ ⟨kk,th,nn⟩ j)).2)=bg S (bQ ⟨kk,th,nn⟩ j) from rfl,<-hsn] at hr4;have hstp:=xX (bg S (bQ ⟨kk,th,nn⟩ j)) ⟨kk,th,nn⟩;rw[<-hsn] at hstp;have HR4:=ag hr4;have HST:=ag hstp;have Td:=ag ((hst w3.heap.size (by simp) Gg.out).trans En.out);have HT4:=ag ((hst (w.heap.size+1) (by simp) TK.out).trans HT.out);have yo:=ag (HB.out.trans (hb4.mono (by omega)));clear hr4 hst hb4 hsn hstp;go_wp2_with fail;exact⟨⟨j+1,by omega,by go_num,⟨N1+1,by have:=U9.out;omega,by have:=H0.out;have:=HST.out;omega,by have:=H1.out;have:=HST.out;omega,HR4.out⟩,Td,HT4,yo⟩,by simp[intOf];omega⟩
      ·have hjn:nn.toNat=j:=by omega
       go_wp2_with fail;obtain⟨N1,hN1,h0,h1,hR⟩:=HR.out;have hfin:bg (iC mem (l.map (·.2)) cs,0) (jM (sc.take (k+1)))=bg S (bQ ⟨kk,th,nn⟩ j):=by
        rw[dx HX.out,xP,kY,Yp.out];simp only[uT];rw[hjn]
       exact⟨⟨k+1,by omega,by go_num,⟨N1,by rw[dx HX.out,mO];have:=Qo.out;have:=Mm.out;omega,by rw[hfin];exact h0,by rw[hfin];exact h1,by rw[hfin];exact hR.less (fun q hq=>by simp at hq;simp[hq]) (by simp) (by simp) (by simp)⟩,HT,HB⟩,by simp[intOf];omega⟩
  ·obtain rfl:k=sc.length:=by omega
   obtain⟨N1,hN1,h0,h1,hR⟩:=HR.out;rw[List.take_length] at hN1 h0 h1 hR;have hN2:N1<=1048576:=by have:=Zj.out.2.2.1;omega
   obtain⟨S,hS⟩:∃S,S=bg (iC mem (l.map (·.2)) cs,0) (jM sc):=⟨_,rfl⟩;rw[<-hS] at h0 h1 hR;have cx:wr.cell? ⟨w1.heap.size,0,none⟩=some (.pointer (some ⟨b,0,none⟩)):=af hR.x rfl;have cs0:wr.cell? ⟨w2.heap.size,0,none⟩=some (.int .i64 S.2):=af hR.s rfl;have acP:=lt_of_block hR.x;have acB:=lt_of_block hR.s;have hns:w2.heap.size≠w.heap.size+1:=by have:=hR.lo;omega
   have hnx:w1.heap.size≠w.heap.size+1:=by have:=Xm.out;omega
   have HRR:=ag hR;have HSS:=ag hS;have Qo:=ag hN2;have HH0:=ag h0;have HH1:=ag h1;obtain⟨w3,rfl⟩:∃q,q=wr:=⟨_,rfl⟩;clear hN1 h0 h1 hR hS hN2 HR;go_wp2_with fail;go_region_held3 (fun w'=>w'.cell? ⟨w1.heap.size,0,none⟩=some (.pointer (some ⟨b,0,none⟩))/\w'.cell? ⟨w2.heap.size,0,none⟩=some (.int .i64 S.2)) (refine⟨?_,?_⟩<;>first|assumption|(simp only[World.cell?_drew];assumption)|exact AY cx5 hnx _ _ _|exact AY cs5 hns _ _ _) (first|(go_at_call 68;refine(R7 (HRR.out.Fe.below (aQ w3.heap.size w3).drew).live (by have:=Qo.out;omega)).mono ?_;rintro e w4 ⟨ls,rfl,hsa,hse,hsp,hms,hb4⟩;have cx4:=(World.cell?_of_block (hb4.block _ acP)).trans cx;have cs4:=(World.cell?_of_block (hb4.block _ acB)).trans cs0;have HSA:=ag hsa;have Zc:=ag hse;have HSP:=ag hsp;have UD:=ag hms;have yo:=ag hb4;clear hsa hse hsp hms hb4;dsimp only)|(go_at_call 69;refine(Rs (HRR.out.Fe.below ((aQ w3.heap.size w3).drew.trans yo.out)) (by have:=Qo.out;omega)).mono ?_;rintro e w5 ⟨ve,rfl,hoe,hb5⟩;obtain⟨veo,vec,rfl⟩:=bF hoe;have cx5:=(World.cell?_of_block (hb5.block w1.heap.size (by have h9:w3.heap.size<=w4.heap.size:=yo.out.size;omega))).trans cx4;have cs5:=(World.cell?_of_block (hb5.block w2.heap.size (by have h9:w3.heap.size<=w4.heap.size:=yo.out.size;omega))).trans cs4;have hbr:=blk hb5 (blk yo.out (show w3.drew.heap[w.heap.size+1]? =_ from HT.out));have fr0:=aJ (o:=0) hbr;have fr1:=aJ (o:=1) hbr;have fr2:=aJ (o:=2) hbr;have rr0:=af (o:=0) hbr rfl;have rr1:=af (o:=1) hbr rfl;have rr2:=af (o:=2) hbr rfl;have tK:=ag hbr;have HOE:=ag hoe;have qj:=ag hb5;clear hbr hoe hb5;dsimp only))
   go_wp2_with fail;have ZK:Below w3.heap.size w3 w5:=(aQ w3.heap.size w3).drew.trans (yo.out.trans (qj.out.mono yo.out.size));have agr:=ZK.size;have h4s:w3.heap.size<=w4.heap.size:=yo.out.size;have hwl:w.heap.size+1<w3.heap.size:=lt_of_block HT.out;have hq:∀g,g≠w.heap.size+1->(((w5.setCell ⟨w.heap.size+1,0,none⟩ (.slice (some ⟨w3.heap.size,0,none⟩) ls.length ls.length)).setCell ⟨w.heap.size+1,1,none⟩ (.slice veo S.1.evs.length vec)).setCell ⟨w.heap.size+1,2,none⟩ (.int .i64 S.2)).heap[g]? =w5.heap[g]?:=fun g hg=>((dO _ _ _ _ hg).trans (dO _ _ _ _ hg)).trans (dO _ _ _ _ hg)
   have hr3:=aK (o:=2) (.int .i64 S.2) (aK (o:=1) (.slice veo S.1.evs.length vec) (aK (o:=0) (.slice (some ⟨w3.heap.size,0,none⟩) ls.length ls.length) tK.out));refine bodyPost_ret (v:=.tuple #[.agg #[.slice (some ⟨w3.heap.size,0,none⟩) ls.length ls.length,.slice veo S.1.evs.length vec,.int .i64 S.2],.int .i64 0]) ?_ rfl ?_
   ·have c0:=af (o:=0) hr3 rfl;have c1:=af (o:=1) hr3 rfl;have c2:=af (o:=2) hr3 rfl;simp[results,Tryz.results29,go_sem,c0,c1,c2]
   ·rw[<-HSS.out];have aei:w3.drew.heap.size=w3.heap.size:=rfl;refine⟨w3.heap.size,ls,veo,vec,rfl,?_,fun s hs=>⟨?_,fun g hg=>(Zc.out s hs).2 g hg⟩,HSP.out,UD.out,?_,fun g hg=>⟨?_,fun s hs hg2=>?_⟩,?_⟩
    ·exact dm (aP HSA.out fun g hg hl=>(hq g (by have:=(cK HSA.out hg).1;omega)).trans (qj.out.block g hl)) (by omega)
    ·exact dm (aP (Zc.out s hs).1 fun g hg hl=>(hq g (by have:=(Zc.out s hs).2 g hg;omega)).trans (qj.out.block g hl)) (by omega)
    ·exact dm (aP HOE.out fun g hg hl=>hq g (by have:=(cK HOE.out hg).1;omega)) (by omega)
    ·have h1:=(cK HOE.out hg).1;have h2:w3.heap.size<w4.heap.size:=(cK HSA.out rfl).2;omega
    ·have h1:=(cK HOE.out hg).1;have h2:=(cK (Zc.out s hs).1 hg2).2;omega
    ·exact(((HB.out.trans (ZK.mono HB.out.size)).setCell (by simp) _).setCell (by simp) _).setCell (by simp) _
end
section
variable {w w':World}
theorem X5 (n:Nat):∀{s:Int×Bool},s.1+4320*n<=262144->fin (dM n) s=(s.1+4320*n,s.2):=by
 induction n with
 |zero=>intro s _;show s=_;simp
 |succ n ih=>
  intro s h2;have e:FI 32 s=(s.1+4320,s.2):=by
   unfold FI;rw[pM (n:=32) (s:=s) (by omega),pM (n:=128) (by simp only;omega),pM (n:=64) (by simp only;omega),pM (n:=4096) (by simp only;omega)];simp only;congr 1
   omega
  show fin (dM n) (FI 32 s)=_;rw[e,ih (by simp only;omega)];simp only;congr 1
  omega
theorem Ao {words:Int} {n:Nat} (h:0<=words) (h2:words<=65536) (hn:n<=4):dz words n=words+18+4320*n:=by
 unfold dz mkS;rw[if_pos (wh h h2 hn)];have e:s0 words=(words+18,false):=by
  unfold s0;rw[pM (n:=words) (by simp only;omega),pM (n:=17) (by simp only;omega)];simp only;congr 1
  omega
 rw[e,X5 n (by simp only;omega)]
theorem Im {words:Int} {n i:Nat} (h:fK words (dM n)=0) (hi:i<n):eO (fE words n i):=by
 obtain⟨hp,hl⟩:=AA h;have hx:(yF words n)[i]? =some ((yF words n).getD i ⟨0,0,0,0,0⟩):=by
  rw[List.getD_eq_getElem?_getD,dZ (by omega)];rfl
 exact hp.ok hx
theorem vQ {α:Type} {enc:α->List Value} {sz g:Nat} {T:TypeId} {l:List α} (he:∀a,(enc a).length=sz) (hg:w.heap[g]? =some (.cells (l.flatMap enc).toArray T (0,0))):fI enc w sz (.slice (some ⟨g,0,none⟩) l.length l.length) l:=
 ⟨jQ he l,some ⟨g,0,none⟩,l.length,rfl,aR _,fun _=>⟨g,0,rfl,lt_of_block hg,fun j u hj=>by
  rw[Nat.zero_add];exact af hg (by rw[List.getElem?_toArray];exact hj)⟩⟩
theorem IY {base:Nat} {co:Option Addr} {cc:Nat} {cs:List (Nat×List bM)} (hown:w.ownsRow base 57 1 (.slice co cs.length cc) cs.length (cs.map uH)) (hin:p_ w base cs) (hok:∀p∈cs,bB p.2):
  ∃l:List (Value×List bM),l.length=cs.length/\pI w (.slice co l.length cc) l/\l.map (·.2)=cs.map Prod.snd:=by
 refine⟨cs.map fun p=>(uH p,p.2),by simp,⟨?_,?_,?_⟩,by simp[Function.comp_def]⟩
 ·have e:∀cs:List (Nat×List bM),(cs.map fun p=>(uH p,p.2)).flatMap Yq=cs.map uH:=by
   intro cs;induction cs with
   |nil=>rfl
   |cons a l ih=>rw[List.map_cons,List.flatMap_cons,ih];rfl
  have:=Rd.iV hown;rw[List.length_map];unfold fI;rw[e,List.length_map];exact this
 ·intro p hp;obtain⟨q,hq,rfl⟩:=List.mem_map.1 hp;exact vQ dL (hin.blk q hq).1
 ·intro p hp;obtain⟨q,hq,rfl⟩:=List.mem_map.1 hp;exact fun o ho=>(hok q hq o ho).2
theorem Ew {mem:Int} {l:List (Value×List bM)} {cs:List (Nat×List bM)} (he:l.map (·.2)=cs.map Prod.snd) (hs:iN cs<=262144) (hn:l.length<=4) (hm:1<=mem/\mem<=262144) (hok:∀p∈cs,bB p.2):dB mem l []=0:=by
 have hc:fC l<=iN cs:=by
  have e1:fC l=((l.map (·.2)).map fun c=>min c.length 262145).sum:=by unfold fC;rw[List.map_map];rfl
  have e2:iN cs=((cs.map Prod.snd).map List.length).sum:=by unfold iN;rw[List.map_map];rfl
  rw[e1,e2,he];generalize cs.map Prod.snd=m;induction m with
  |nil=>simp
  |cons a r ih=>simp only[List.map_cons,List.sum_cons];omega
 have ha:(l.all fun p=>p.2.all dJ)=true:=by
  rw[List.all_eq_true];intro p hp;have h1:p.2∈l.map (·.2):=List.mem_map_of_mem hp;rw[he] at h1;obtain⟨q,hq,e⟩:=List.mem_map.1 h1;rw[<-e,List.all_eq_true];exact fun o ho=>(hok q hq o ho).1
 unfold dB;rw[if_neg (by omega),if_neg (by omega),if_neg (by rw[ha];simp),if_neg (by simp[jo])]
def kJ (os:List Int):List gT:=os.map fun z=>⟨2,z,20000⟩
theorem wD (os:List Int):(kJ os).length=os.length:=by simp[kJ]
theorem Jr (os:List Int):total (kJ os)=40000*os.length:=by
 unfold total kJ;induction os with
 |nil=>simp
 |cons a l ih=>
  simp only[List.map_cons,List.sum_cons,List.length_cons];rw[ih];have:qA ⟨2,a,20000⟩=40000:=rfl;rw[this];omega
theorem Us {os:List Int} (h:os.length<=4):(eG (kJ os)).2=0:=by
 unfold eG;rw[if_neg (by rw[wD];omega),if_neg,if_neg (by rw[Jr];omega)];rw[List.any_eq_true];rintro⟨p,hp,hb⟩;obtain⟨z,hz,rfl⟩:=List.mem_map.1 hp;simp[nC] at hb
theorem VB {os:List Int}:∀p∈kJ os, -9223372036854775808<=p.n/\0<=p.kind:=by
 intro p hp;obtain⟨z,hz,rfl⟩:=List.mem_map.1 hp;exact⟨show(-9223372036854775808:Int)<=20000 by decide,show(0:Int)<=2 by decide⟩
theorem Sk:(Tryz.prog.info? 42).map (fun i=>(i.zero,i.size,i.bytes))=some (some (.agg #[.int .u8 0,.int .i64 0,.int .i64 0]),3,24):=by kernel_rfl
theorem QS (p:gT):∀u∈iE p,u.oneCell'=true:=by intro u hu;simp[iE] at hu;rcases hu with rfl|rfl|rfl<;>rfl
def NB (words:Int) (ts:vw) (os:List Int):MM×Int:=bg (iC (dz words ts.length) (ts.mapIdx fun i t=>bI (fE words ts.length i) (rowsOf t)) [],0) (jM (kJ os))
def Jc (out:List (List Int×Int)) (w:World) (e:Ending) (w':World):Prop:=
 ∃(ga:Nat) (ls:List SX),e= .returned (.slice (some ⟨ga,0,none⟩) ls.length ls.length)/\fI encS w' 2 (.slice (some ⟨ga,0,none⟩) ls.length ls.length) ls/\
  (∀s∈ls,fI encI w' 1 s.v s.out)/\ls.map (fun s=>(s.out,s.fin))=out/\Below w.heap.size w w'
theorem Um {ta:Option Addr} {tc:Nat} {ts:vw} (h:xu w (.slice ta ts.length tc) ts) {words:Int} (h0:0<=words) (h1:words<=65536) (hn:ts.length<=4) (hp:pR ts<=262144) (ho:∀t∈ts,gN words t.2=true)
  (hw:∀t∈ts,∀l∈rowsOf t,∀o∈l,yG o) {oa:Option Addr} {oc:Nat} {os:List Int} (hos:fI encI w 1 (.slice oa os.length oc) os) (hol:os.length<=4) {out:List (List Int×Int)} (hrun:(NB words ts os).1.aM.map (fun t=>(t.out,t.fin))=out):
  Calls Tryz.prog 31 #[.int .i64 words,.slice ta ts.length tc,.slice oa os.length oc] w (Jc out w):=by
 have H:=ag h;have HW:=ag hw;have HO:=ag ho;have HP:=ag hp;have HOS:=ag hos;have VM:=ag hrun;have HN:=ag hn;have LV:=ag hol;have H0:=ag h0;have H1:=ag h1;have HM:=ag (wh (n:=ts.length) h0 h1 hn);have Xc:=ag (Ao (n:=ts.length) h0 h1 hn);clear h hw ho hp hos hrun hn hol h0 h1;obtain⟨i0,hi,hz0,hz1,hz2⟩:=info_parts Sk;go_in;go_wp2_with fail;refine(EZ H.out (by have:=HN.out;omega) words).mono ?_;intro e w1 hpost;obtain⟨hb1,co,cc,cs,rfl,hown,hin,hcs,hsum⟩:=Ep hpost H0.out H1.out HN.out HP.out HO.out;have hcl:cs.length=ts.length:=by have:=congrArg List.length hcs;simpa using this
 have hok:∀p∈cs,bB p.2:=by
  intro p hp;obtain⟨k,hk,e⟩:=List.getElem_of_mem hp;have hkt:k<ts.length:=by omega
  have h3:(cs.map Prod.snd)[k]'(by simpa using hk)=(ts.mapIdx (fun i t=>bI (fE words ts.length i) (rowsOf t)))[k]'(by simpa using hkt):=by simp only[hcs]
  rw[List.getElem_map,List.getElem_mapIdx,e] at h3;rw[h3];exact FQ (Im HM.out hkt) (Nat.le_trans (Af (List.getElem_mem hkt)) HP.out) (HW.out _ (List.getElem_mem hkt))
 obtain⟨l,hll,hcode,hl2⟩:=IY hown hin hok;have VW:=Ew (mem:=dz words ts.length) hl2 hsum (by have:=HN.out;omega) (by have:=Xc.out;have:=H0.out;have:=H1.out;have:=HN.out;omega) hok;have HCO:=ag hcode;have HCH:=ag VW;have HL2:=ag (hl2.trans hcs);have HLL:=ag (show l.length<=4 from by have:=HN.out;omega);rw[<-hll];have HB1:=ag hb1;have aaT:=ag (Rd.below HOS.out hb1);clear hb1 hown hin hcs hsum hcl hok hll hcode hl2 VW hpost HOS H;obtain⟨mem,hmem⟩:∃z,z=dz words ts.length:=⟨_,rfl⟩;have OU:=ag hmem;rw[<-hmem] at HCH Xc⊢;clear hmem;go_wp2_with fail;have Yw:=ag (aX w1 (.cells #[.slice co l.length cc,.int .i64 mem,.slice none 0 0] 30));have hbi:=(aQ w1.heap.size w1).alloc (aR _) (.cells #[.slice co l.length cc,.int .i64 mem,.slice none 0 0] 30);have HBI:=ag (gH HB1.out hbi);have abE:=ag (HCO.out.below hbi);have aan:=ag (Rd.below aaT.out hbi);have Xi:=ag (show w1.heap.size+1=(w1.alloc (.cells #[.slice co l.length cc,.int .i64 mem,.slice none 0 0] 30)).heap.size from by rw[World.size_alloc]);generalize w1.alloc (.cells #[.slice co l.length cc,.int .i64 mem,.slice none 0 0] 30)=w2 at Yw HBI abE aan Xi hbi⊢;obtain⟨bm,hbm⟩:∃b,b=w1.heap.size:=⟨_,rfl⟩;rw[<-hbm] at Yw Xi⊢;have HSM:=ag (show w.heap.size<=bm from by have:=HB1.out.size;omega);clear hbi hbm aaT HCO HB1;go_loopw [9,10] (fun v i wr=>∃(j:Nat) (ao:Option Addr) (cp:Nat),j<=os.length/\i= .int .i64 (j:Int)/\v= .slice ao j cp/\Hid (wr.ownsRow (bm+1) 42 3 (.slice ao j cp) j ((kJ (os.take j)).flatMap iE))/\Hid (Below w2.heap.size w2 wr)/\Hid (wr.heap[bm]? =some (.cells #[.slice co l.length cc,.int .i64 mem,.slice none 0 0] 30 (0,0)))) (fun _ i _=>os.length - (intOf i).toNat)
 case atStart=>exact⟨0,none,0,Nat.zero_le _,rfl,rfl,ag (World.ownsRow_nil _ _ _ _),ag (aQ _ _),Yw⟩
 case round=>
  obtain⟨j,ao,cp,hj,rfl,rfl,HOR,HB,HM2⟩:=hrel;have hol:=LV.out;by_cases hlt:j<os.length
  ·obtain⟨z,hx⟩:=bW hlt;obtain⟨g,off,rfl,hg,hc⟩:=fI.at jL (Rd.below aan.out HB.out) hx;have d0:wr.cell? ⟨g,off+j,none⟩=some (.int .i64 z):=by have:=hc 0 _ rfl;simpa [encI] using this
   have Nn:=ag (dx hx);have HJ:=ag hlt;clear hx hc;go_wp2_with (at_builtin;refine Hid.out ?_);refine fe _ rfl _ _ 23 rfl (bm+1) 42 i0 _ 3 24 Tryz.underlying23 hi hz0 hz1 hz2 rfl (by decide) (.slice ao j cp) j _ (by simp[Act.eval]) (bD HOR.out ((bH.refl (fun _=>False) wr).alloc _) (fun _ _=>id)) ⟨wr.heap.size,0,none⟩ 1 1 (iE ⟨2,z,20000⟩) (by simp[Act.eval]) rfl ?c1 ?c2 ?c3 ?c4 ?c5 ?_
   case c1=>exact kK (aX _ _)
   case c2=>exact QS _
   case c3=>have:=LV.out;have:=HJ.out;unfold maxLen;omega
   case c4=>have:=LV.out;have:=HJ.out;omega
   case c5=>have:=Xi.out;have:=HB.out.size;simp;omega
   intro ao5 cp5 w5 hown mI iW;have J9:bH (fun k=>bm+1<=k) wr w5:=(((bH.refl (fun k=>bm+1<=k) wr)).alloc _).grown iW (fun k hk=>.inl (HOR.out.lt k hk).1);have qj:=ag (J9.below HB.out HB.out.size (fun k hk=>by have:=Xi.out;omega));have Xf:=ag (gV J9 HM2.out (by omega));have UJ:=ag (show w5.ownsRow (bm+1) 42 3 (.slice ao5 (j+1) cp5) (j+1) ((kJ (os.take (j+1))).flatMap iE) from by rw[Nn.out];unfold kJ;rw[List.map_append,List.flatMap_append];exact hown);clear hown mI iW J9 d0;go_wp2_with fail;exact⟨⟨j+1,ao5,cp5,by omega,by go_num,rfl,UJ,qj,Xf⟩,by simp[intOf];omega⟩
  ·obtain rfl:j=os.length:=by omega
   have hor:=HOR.out;rw[List.take_length] at hor;have HSC:=ag (show fI iE wr 3 (.slice ao (kJ os).length cp) (kJ os) from by unfold fI;rw[wD];exact Rd.iV hor);have hcr:=abE.out.below HB.out;have HCR:=ag hcr;have m0:wr.cell? ⟨bm,0,none⟩=some (.slice co l.length cc):=af HM2.out rfl;have m1:wr.cell? ⟨bm,1,none⟩=some (.int .i64 mem):=af HM2.out rfl;have m2:wr.cell? ⟨bm,2,none⟩=some (.slice none 0 0):=af HM2.out rfl;clear hor hcr;go_wp2_with fail;refine((show Calls Tryz.prog 29 #[.agg #[.slice co l.length cc,.int .i64 mem,.slice none 0 0],.slice ao os.length cp] wr (Ie (bg (iC mem (l.map (·.2)) [],0) (jM (kJ os))) wr) from by
    have h9:=VX (l:=l) (cs:=[]) (sc:=kJ os) (ca:=co) (iF:=cc) (ug:=none) (jZ:=0) (sa:=ao) (PL:=cp) HCR.out (Rd.nil _ 2) mem (by have:=HLL.out;omega) (by simp) HCH.out HSC.out (by rw[wD];have:=LV.out;omega) VB (Us LV.out);rw[wD] at h9;exact h9)).mono ?_
   rintro e w6 ⟨ga,ls,ve,vec,rfl,hrow,hse, -,hms,hev, -,hb6⟩;have HRW:=ag (Rd.iV hrow);have Zc:=ag (show ∀s∈ls,fI encI w6 1 s.v s.out from fun s hs=>Rd.iV (hse s hs).1);have UD:=ag (show ls.map (fun s=>(s.out,s.fin))=out from by
    rw[hms,<-VM.out];unfold NB;rw[<-HL2.out,<-OU.out])
   have Az:=ag (gH (gH HBI.out HB.out) hb6);obtain⟨st,hst⟩:∃z,z=(bg (iC mem (l.map (·.2)) [],0) (jM (kJ os))).2:=⟨_,rfl⟩;obtain⟨ne,hne⟩:∃z,z=(bg (iC mem (l.map (·.2)) [],0) (jM (kJ os))).1.evs.length:=⟨_,rfl⟩;rw[<-hst,<-hne];clear hst hne hrow hse hms hev hb6;go_wp2_with fail;go_ret;exact⟨ga,ls,rfl,Rd.alloc HRW.out _,fun s hs=>Rd.alloc (Zc.out s hs) _,UD.out,Az.out.alloc Az.out.size _⟩
end
section
def Bu:List Tx:=[⟨0,2,1,0⟩,⟨0,3,1,1⟩]
def f0:FT:=⟨List.replicate 8 0,0,[],[],0⟩
def Jp (words:Int) (rs:List (List (List Tx))) (os:List Int):MM×Int:=bg (iC (dz words rs.length) (rs.mapIdx fun i r=>bI (fE words rs.length i) r) [],0) (jM (kJ os))
theorem Sy (words:Int) (ts:vw) (os:List Int):NB words ts os=Jp words (ts.map rowsOf) os:=by
 unfold NB Jp;rw[List.length_map];have e:(ts.map rowsOf).mapIdx (fun i r=>bI (fE words ts.length i) r)=ts.mapIdx fun i t=>bI (fE words ts.length i) (rowsOf t):=by
  refine List.ext_getElem (by simp) fun i h1 h2=>?_
  simp
 rw[e]
variable {mm iZ:MM} {n m:Nat} {code:List bM} {sz:Int} {M M':List (Int×Int)} {f f':FT}
theorem RL:∀i,f0.reg.getD i 0=0:=by
 intro i;simp only[f0,List.getD_eq_getElem?_getD,List.getElem?_replicate];split<;>rfl
theorem Bq.start {codes:List (List bM)} (h:codes[n]? =some code) (hs:0<=sz):Bq (iC sz codes []) n code sz [] f0:=by
 refine⟨⟨MT.new code,by simp[iC,h],rfl,fun i _=>by rw[RL];rfl,rfl,rfl,rfl,rfl⟩,by simp[iC,iG];omega,fun a h1 h2=>?_,fun c hc=>by simp[f0] at hc,rfl⟩;simp only[MM.at,iC,iG,QE,List.getD_eq_getElem?_getD];first
 |rfl
 |(simp[List.getElem?_replicate];split<;>rfl)
theorem Bq.other (h:Bq iZ n code sz M f) (ho:WS n mm iZ) {c:List bM} (hm:mm.aM[m]? =some (MT.new c)) (hne:m≠n):Bq iZ m c sz M f0:=
 ⟨⟨MT.new c,by rw[ho m hne];exact hm,rfl,fun i _=>by rw[RL];rfl,rfl,rfl,rfl,rfl⟩,h.len,h.mem,fun c hc=>by simp[f0] at hc,rfl⟩
theorem Bq.whole (h:Bq mm n code sz M f) {K:Nat} (hs:uY code sz K M f=some (M',f')) (hf:f'.fin≠0) (hw:f'.wait=[]) (hK:K<=20000) (st:Int):
  Bq (bg (mm,st) (uT ⟨2,n,20000⟩)).1 n code sz M' f'/\WS n mm (bg (mm,st) (uT ⟨2,n,20000⟩)).1:=by
 have e:uT ⟨2,n,20000⟩=bQ ⟨2,n,0⟩ (K+(20000 - K)):=by
  rw[Nat.add_sub_cancel' hK];exact Sg n 20000 20000
 rw[e];refine Bq.run (K+(20000 - K)) st h ?_;rw[QL K (20000 - K) hs];exact SY hf hw _
def Ho (f:FT) (o:List Int):Bool:=decide (f.fin=1) && f.wait.isEmpty && decide (f.out=o)
theorem Ex {f:FT} {o:List Int} (h:Ho f o=true):f.fin=1/\f.wait=[]/\f.out=o:=by
 unfold Ho at h;simp only[Bool.and_eq_true,decide_eq_true_eq,List.isEmpty_iff] at h;exact⟨h.1.1,h.1.2,h.2⟩
def ok1 (c:List bM) (sz:Int) (K:Nat) (o:List Int):Bool:=match uY c sz K [] f0 with
 |none=>false
 |some (_,f)=>Ho f o
def ok2 (c c':List bM) (sz:Int) (K:Nat) (o o':List Int):Bool:=match uY c sz K [] f0 with
 |none=>false
 |some (M,f)=>Ho f o && (match uY c' sz K M f0 with
  |none=>false
  |some (_,f')=>Ho f' o')
theorem ack {c c':List bM} {K:Nat} {o o':List Int} {codes:List (List bM)} {a b:Nat} (hab:a<2/\b<2/\a≠b) (hc:codes.length=2) (ha:codes[a]? =some c) (hb:codes[b]? =some c') (hs:0<=sz) (hK:K<=20000) (h:ok2 c c' sz K o o'=true):
  ((bg (iC sz codes [],0) (jM (kJ [(a:Int),(b:Int)]))).1.aM.map (fun t=>(t.out,t.fin)))[a]? =some (o,1)/\
  ((bg (iC sz codes [],0) (jM (kJ [(a:Int),(b:Int)]))).1.aM.map (fun t=>(t.out,t.fin)))[b]? =some (o',1)/\
  (bg (iC sz codes [],0) (jM (kJ [(a:Int),(b:Int)]))).1.aM.length=2:=by
 unfold ok2 at h;cases hr:uY c sz K [] f0 with
 |none=>rw[hr] at h;cases h
 |some p=>
  obtain⟨M1,f1⟩:=p;rw[hr] at h;simp only[Bool.and_eq_true] at h;obtain⟨h,h'⟩:=h;cases hr':uY c' sz K M1 f0 with
  |none=>rw[hr'] at h';cases h'
  |some p=>
   obtain⟨M2,f2⟩:=p;rw[hr'] at h';obtain⟨e1,e2,e3⟩:=Ex h;obtain⟨d1,d2,d3⟩:=Ex h';have hst:Bq (iC sz codes []) a c sz [] f0:=Bq.start ha hs;obtain⟨h1,h2⟩:=hst.whole hr (by rw[e1];decide) e2 hK 0;have ea:jM (kJ [(a:Int),(b:Int)])=uT ⟨2,(a:Nat),20000⟩++uT ⟨2,(b:Nat),20000⟩:=by simp[jM,kJ]
   rw[ea,kY];obtain⟨⟨EW,st1⟩,hS⟩:∃S,S=bg (iC sz codes [],0) (uT ⟨2,(a:Nat),20000⟩):=⟨_,rfl⟩;rw[<-hS] at h1 h2⊢;have hx:(iC sz codes []).aM[b]? =some (MT.new c'):=by simp[iC,hb]
   obtain⟨h3,h4⟩:=(h1.other h2 hx (fun e=>hab.2.2 e.symm)).whole hr' (by rw[d1];decide) d2 hK st1;generalize bg (EW,st1) (uT ⟨2,(b:Nat),20000⟩)=S at h3 h4⊢;obtain⟨t,ht, -, -, -, -,q5,q6⟩:=h1.th;obtain⟨u,hu, -, -, -, -,p5,p6⟩:=h3.th;refine⟨?_,?_,?_⟩
   ·rw[List.getElem?_map,h4 a hab.2.2,ht];simp[q5,q6,e1,e3]
   ·rw[List.getElem?_map,hu];simp[p5,p6,d1,d3]
   ·have g2:S.1.aM[2]? =none:=by rw[h4 2 (by omega),h2 2 (by omega)];simp[iC,hc]
    have ga:a<S.1.aM.length:=by
     have:S.1.aM[a]? =some t:=by rw[h4 a hab.2.2,ht]
     exact(bE.1 this).1
    have gb:=(bE.1 hu).1;have:=List.getElem?_eq_none_iff.1 g2;omega
theorem Yz {α:Type} {l:List α} {x y:α} (h0:l[0]? =some x) (h1:l[1]? =some y) (h:l.length=2):l=[x,y]:=by
 match l,h with
 |[a,b],_=>simp at h0 h1;rw[h0,h1]
theorem aaw:ok2 (bI (fE 1 2 1) [Bu]) (bI (fE 1 2 0) [Bu]) (dz 1 2) 800 [0] [1]=true:=by kernel_rfl
theorem UW (n:Nat) (h:n<=4):0<=dz 1 n:=by rw[Ao (by decide) (by decide) h];omega
theorem Ya:(([[Bu],[Bu]]:List (List (List Tx))).mapIdx fun i r=>bI (fE 1 2 i) r)=[bI (fE 1 2 0) [Bu],bI (fE 1 2 1) [Bu]]:=rfl
theorem Y9 (os:List Int):Jp 1 [[Bu],[Bu]] os=bg (iC (dz 1 2) [bI (fE 1 2 0) [Bu],bI (fE 1 2 1) [Bu]] [],0) (jM (kJ os)):=by
 unfold Jp;rw[show([[Bu],[Bu]]:List (List (List Tx))).length=2 from rfl,Ya]
attribute [local irreducible] bg jM kJ bI fE dz ok2 ok1 iC
theorem c0:((0:Nat):Int)=0:=rfl
theorem c1:((1:Nat):Int)=1:=rfl
theorem Y_:(Jp 1 [[Bu],[Bu]] [1,0]).1.aM.map (fun t=>(t.out,t.fin))=[([1],1),([0],1)]:=by
 have h:=ack (a:=1) (b:=0) (codes:=[bI (fE 1 2 0) [Bu],bI (fE 1 2 1) [Bu]]) (sz:=dz 1 2) (by omega) rfl rfl rfl (UW 2 (by decide)) (by omega) aaw;rw[Y9];rw[c0,c1] at h;exact Yz h.2.1 h.1 (by rw[List.length_map];exact h.2.2)
end
section
variable {w w':World}
theorem Kw (w:World):Calls Tryz.prog 30 #[] w fun e w'=>e= .returned (.slice (some ⟨w.heap.size,0,none⟩) 2 2)/\w'.heap[w.heap.size]? =some (.cells (Bu.flatMap rX).toArray 96 (0,0))/\Below w.heap.size w w':=by
 go_in;go_wp2_with fail;go_ret;exact⟨rfl,aX w _,(aQ _ _).alloc (aR _) _⟩
theorem mE {α:Type} {enc:α->List Value} {sz:Nat} {v:Value} {l:List α} (h:fI enc w sz v l):∃ao c,v= .slice ao l.length c:=by
 obtain⟨h1,ao,cap,e,_⟩:=h;exact⟨ao,cap,e⟩
theorem Z7 {e:Ending} {o o':List Int} {k k':Int} (h:Jc [(o,k),(o',k')] w e w'):
  ∃ga a0 c0 a1 c1,e= .returned (.slice (some ⟨ga,0,none⟩) 2 2)/\w'.cell? ⟨ga,0,none⟩=some (.slice a0 o.length c0)/\w'.cell? ⟨ga,1,none⟩=some (.int .u8 k)/\w'.cell? ⟨ga,2,none⟩=some (.slice a1 o'.length c1)/\w'.cell? ⟨ga,3,none⟩=some (.int .u8 k')/\
   fI encI w' 1 (.slice a0 o.length c0) o/\fI encI w' 1 (.slice a1 o'.length c1) o'/\ga<w'.heap.size/\Below w.heap.size w w':=by
 obtain⟨ga,ls,rfl,hr,hs,hm,hb⟩:=h;obtain⟨s,s',rfl⟩:∃s s',ls=[s,s']:=by
  match ls,hm with
  |[s,s'],_=>exact⟨s,s',rfl⟩
 obtain⟨v,so,sf⟩:=s;obtain⟨v',so',sf'⟩:=s';simp only[List.map_cons,List.map_nil,List.cons.injEq,Prod.mk.injEq,and_true] at hm;obtain⟨⟨rfl,rfl⟩,rfl,rfl⟩:=hm;have h0:=hs _ List.mem_cons_self;have h1:=hs ⟨v',so',sf'⟩ (by simp);simp only at h0 h1;obtain⟨a0,c0,rfl⟩:=mE h0;obtain⟨a1,c1,rfl⟩:=mE h1;obtain⟨gb,co,e1,hgb,hcc⟩:=fI.at yL hr (k:=0) rfl;obtain⟨gb',co',e1',hgb',YO⟩:=fI.at yL hr (k:=1) rfl;cases e1;cases e1';exact⟨ga,a0,c0,a1,c1,rfl,by have:=hcc 0 _ rfl;simpa using this,by have:=hcc 1 _ rfl;simpa using this,by have:=YO 0 _ rfl;simpa using this,by have:=YO 1 _ rfl;simpa using this,h0,h1,hgb,hb⟩
theorem XO:∀o∈Bu,yG o:=by intro o ho;simp[Bu] at ho;rcases ho with rfl|rfl<;>exact⟨⟨by decide,by decide⟩,by decide,by decide⟩
theorem YX:Bu.all (lY 1)=true:=by decide
def VF (g:Nat):Value×List Tx:=(.slice (some ⟨g,0,none⟩) 2 2,Bu)
theorem Ke {r:Nat} {l:List (Value×List Tx)} {T:TypeId} (hr:w.heap[r]? =some (.cells (l.flatMap encR).toArray T (0,0))) (he:∀p∈l,fI rX w 4 p.1 p.2):qo w (.slice (some ⟨r,0,none⟩) l.length l.length) l:=⟨vQ (fun _=>rfl) hr,he⟩
theorem P8 {t:Nat} {ts:vw} {T:TypeId} (ht:w.heap[t]? =some (.cells (ts.flatMap xA).toArray T (0,0))) (he:∀p∈ts,qo w p.1 p.2) (hn:∀p∈ts,di p.2<=262144):xu w (.slice (some ⟨t,0,none⟩) ts.length ts.length) ts:=⟨vQ (fun _=>rfl) ht,he,hn⟩
theorem Wp {ts:vw} (h:∀t∈ts,∀p∈t.2,p.2=Bu):(∀t∈ts,gN 1 t.2=true)/\(∀t∈ts,∀l∈rowsOf t,∀o∈l,yG o):=by
 refine⟨fun t ht=>?_,fun t ht l hl=>?_⟩
 ·unfold gN;rw[List.all_eq_true];intro p hp;rw[h t ht p hp];exact YX
 ·obtain⟨p,hp,rfl⟩:=List.mem_map.1 hl;rw[h t ht p hp];exact XO
theorem TR (ts:vw):pR ts=((ts.map rowsOf).map ig).sum:=by unfold pR;rw[List.map_map];rfl
theorem P5 (w:World) (a b c:Obj):(((w.alloc a).alloc b).alloc c).heap[w.heap.size]? =some a/\(((w.alloc a).alloc b).alloc c).heap[w.heap.size+1]? =some b/\(((w.alloc a).alloc b).alloc c).heap[w.heap.size+1+1]? =some c/\
  Below w.heap.size w (((w.alloc a).alloc b).alloc c):=by
 refine⟨bz (bz (aX w a)),bz (j3 w a b),?_,(((aQ w.heap.size w).alloc (aR _) _).alloc (by simp) _).alloc (by simp;omega) _⟩;have:=j3 (w.alloc a) b c;rw[World.size_alloc] at this;exact this
def yJ (r g:Nat):vw:=[(.slice (some ⟨r,0,none⟩) 1 1,[VF g]),(.slice (some ⟨r,0,none⟩) 1 1,[VF g])]
theorem yt (w:World):Calls Tryz.prog 13 #[] w fun e w'=>e= .returned (.bool true)/\Below w.heap.size w w':=by
 go_in;go_wp2_with fail;refine(Kw w).mono ?_;rintro e w1 ⟨rfl,hc1,hb1⟩;have J8:=ag hc1;have HB1:=ag hb1;clear hc1 hb1;obtain⟨g,hg⟩:∃g,g=w.heap.size:=⟨_,rfl⟩;rw[<-hg] at J8⊢;clear hg;go_wp2_with fail;obtain⟨hR,hT,hO,hB⟩:=P5 w1 (.cells #[.slice (some ⟨g,0,none⟩) 2 2] 79) (.cells #[.slice (some ⟨w1.heap.size,0,none⟩) 1 1,.slice (some ⟨w1.heap.size,0,none⟩) 1 1] 62) (.cells #[.int .i64 1,.int .i64 0] 3);obtain⟨w4,hw4⟩:∃x,x=(((w1.alloc (.cells #[.slice (some ⟨g,0,none⟩) 2 2] 79)).alloc (.cells #[.slice (some ⟨w1.heap.size,0,none⟩) 1 1,.slice (some ⟨w1.heap.size,0,none⟩) 1 1] 62)).alloc (.cells #[.int .i64 1,.int .i64 0] 3)):=⟨_,rfl⟩;rw[<-hw4] at hR hT hO hB⊢;have hG:=blk hB J8.out;have hrow:qo w4 (.slice (some ⟨w1.heap.size,0,none⟩) 1 1) [VF g]:=Ke (l:=[VF g]) hR (fun p hp=>by
  rw[List.mem_singleton.1 hp];exact vQ qB hG)
 have abu:xu w4 (.slice (some ⟨w1.heap.size+1,0,none⟩) 2 2) (yJ w1.heap.size g):=
  P8 (ts:=(yJ w1.heap.size g)) hT (fun p hp=>by
   rcases List.mem_cons.1 hp with rfl|hp
   ·exact hrow
   ·rw[List.mem_singleton.1 hp];exact hrow) (fun p hp=>by
   rcases List.mem_cons.1 hp with rfl|hp
   ·show 3<=262144;decide
   ·rw[List.mem_singleton.1 hp];show 3<=262144;decide)
 have YP:=Wp (ts:=(yJ w1.heap.size g)) (fun t ht p hp=>by
  rcases List.mem_cons.1 ht with rfl|ht
  ·rw[List.mem_singleton.1 hp];rfl
  ·rw[List.mem_singleton.1 ht] at hp;rw[List.mem_singleton.1 hp];rfl)
 have hrs:List.map rowsOf (yJ w1.heap.size g)=[[Bu],[Bu]]:=rfl;have JP:fI encI w4 1 (.slice (some ⟨w1.heap.size+1+1,0,none⟩) ([1,0]:List Int).length ([1,0]:List Int).length) [1,0]:=vQ (l:=[1,0]) jL hO;have yo:=ag (HB1.out.trans (hB.mono HB1.out.size));refine(Um (out:=[([1],1),([0],1)]) (ts:=yJ w1.heap.size g) abu (by decide) (by decide) (show 2<=4 by decide) (by rw[TR,hrs];decide) YP.1 YP.2 JP (by decide) (by rw[Sy,hrs];exact Y_)).mono ?_;intro e w2 hpost;obtain⟨ga,a0,c0,a1,c1,rfl,i0,i1,i2,i3,hd0,hd1,hga,hb2⟩:=Z7 hpost;have HB2:=ag (yo.out.trans (hb2.mono yo.out.size));have HD0:=ag hd0;have HD1:=ag hd1;have I2:=ag i2;clear hpost hR hT hO hB hw4 hG hrow abu YP hrs JP hb2 hd0 hd1;have i0a:=fun o=>nk i0 o
 have i1a:=fun o=>nk i1 o
 go_wp2_with fail;have hbt:Below w2.heap.size w2 (w2.alloc (.cells #[.int .i64 1] 2)):=(aQ _ _).alloc (aR _) _;have Tz:fI encI (w2.alloc (.cells #[.int .i64 1] 2)) 1 (.slice (some ⟨w2.heap.size,0,none⟩) [(1:Int)].length [(1:Int)].length) [1]:=vQ (l:=[1]) (T:=2) jL (aX w2 _);refine(vW (l:=[1]) (Rd.below HD0.out hbt) Tz (by simp)).mono ?_;rintro e w3 ⟨rfl,hb3⟩;have Wx:=gH hbt hb3;have HB3:=ag (HB2.out.trans (Wx.mono HB2.out.size));have HD3:=ag (Rd.below HD1.out Wx);have i2:w3.cell? ⟨ga,2,none⟩=some (.slice a1 1 c1):=(Wx.cell hga).trans I2.out;have i2a:=fun o=>nk i2 o
 clear Wx hb3 Tz hbt i0 i1 i3 i0a i1a;go_wp2_with fail;have hbt:Below w3.heap.size w3 (w3.alloc (.cells #[.int .i64 0] 2)):=(aQ _ _).alloc (aR _) _;have Tz:fI encI (w3.alloc (.cells #[.int .i64 0] 2)) 1 (.slice (some ⟨w3.heap.size,0,none⟩) [(0:Int)].length [(0:Int)].length) [0]:=vQ (l:=[0]) (T:=2) jL (aX w3 _);refine(vW (l:=[0]) (Rd.below HD3.out hbt) Tz (by simp)).mono ?_;rintro e w5 ⟨rfl,hb5⟩;have qj:=ag (HB3.out.trans ((gH hbt hb5).mono HB3.out.size));clear hbt hb5 Tz i2 i2a;go_wp2_with fail;go_ret;exact⟨rfl,qj.out⟩
end
section
variable {w w':World}
theorem Aj (w:World) (z:Int) (h: -9223372036854775808<=z/\z<=262144):Calls Tryz.prog 50 #[.int .i64 z] w fun e w'=>e= .returned (.int .i64 (if z<0 then 262145 else 262144 - z))/\Below w.heap.size w w':=by
 obtain⟨h1,h2⟩:=h;by_cases hz:z<0
 ·rw[if_pos hz];go_in;go_wp2_with fail;go_ret;exact⟨rfl,aQ _ _⟩
 ·rw[if_neg hz];go_in;go_wp2_with fail;go_ret;exact⟨rfl,aQ _ _⟩
theorem DY (rs:List (Value×List Tx)) (k:Nat):di (rs.take k)<=di rs:=by
 unfold di;have:rs=rs.take k++rs.drop k:=(List.take_append_drop _ _).symm
 conv=>rhs;rw[this,List.map_append,List.sum_append]
 omega
theorem KO {ra:Option Addr} {rc:Nat} {rs:List (Value×List Tx)} (h:qo w (.slice ra rs.length rc) rs) (hl:rs.length<=9223372036854775807) (he:∀p∈rs,p.2.length<=9223372036854775807):
  Calls Tryz.prog 26 #[.slice ra rs.length rc] w fun e w'=>∃z:Int,e= .returned (.int .i64 z)/\0<=z/\z<=262145/\(z<=262144->(di rs:Int)=z)/\Below w.heap.size w w':=by
 have H:=ag h;have HE:=ag he;have HL:=ag hl;clear h he;go_in;go_wp2_with fail;go_loopw [4,3] (fun i z wr=>∃(j:Nat) (y:Int),j<=rs.length/\i= .int .i64 (j:Int)/\z= .int .i64 y/\y=262144 - (di (rs.take j):Int)/\ -9223372036854775808<=y/\wr=w) (fun i _ _=>rs.length - (intOf i).toNat)
 case atStart=>exact⟨0,262144,Nat.zero_le _,rfl,rfl,by simp[di],by decide,rfl⟩
 case round=>
  obtain⟨j,y,hj,rfl,rfl,hy,hyl,rfl⟩:=hrel;have hll:=HL.out;have HY:=ag hy;have hyu:y<=262144:=by omega
  clear hy;by_cases hlt:j<rs.length
  ·by_cases hy0:y<0
   ·have q1:¬(y>=0):=by omega
    go_wp2_with fail;refine(Aj _ y ⟨hyl,hyu⟩).mono ?_;rintro e w1 ⟨rfl,hb⟩;rw[if_pos hy0];have HB:=ag hb;clear hb;go_wp2_with fail;go_ret;exact⟨262145,rfl,by decide,by decide,fun h=>absurd h (by decide),HB.out⟩
   ·have q1:y>=0:=by omega
    obtain⟨p,hx⟩:=bW hlt;obtain⟨g,off,rfl,hg,hc⟩:=fI.at (enc:=encR) (fun _=>rfl) H.out.rows hx;obtain⟨pa,pc,hpv⟩:=mE (H.out.each p (bA hx));have d0:wr.cell? ⟨g,off+j,none⟩=some (.slice pa p.2.length pc):=by have:=hc 0 _ rfl;rw[<-hpv];simpa [encR] using this
    have hpl:=HE.out p (bA hx);have HT:=ag (pW hx);clear hx hc hpv;go_wp2_with fail;exact⟨⟨j+1,y - 1 - (p.2.length:Int),by omega,by go_num,rfl,by rw[HT.out,HY.out];omega,by omega,trivial⟩,by simp[intOf];omega⟩
  ·obtain rfl:j=rs.length:=by omega
   rw[List.take_length] at HY;go_wp2_with fail;refine(Aj _ y ⟨hyl,hyu⟩).mono ?_;rintro e w1 ⟨rfl,hb⟩;have HB:=ag hb;clear hb;obtain⟨z,hz⟩:∃z,z=(if y<0 then 262145 else 262144 - y):=⟨_,rfl⟩;rw[<-hz];have HZ:=ag (show 0<=z/\z<=262145/\(z<=262144->(di rs:Int)=z) from by
    have hy:=HY.out;rw[hz];split<;>omega)
   clear hz;go_wp2_with fail;go_ret;exact⟨z,rfl,HZ.out.1,HZ.out.2.1,HZ.out.2.2,HB.out⟩
end
section
def eF (w:World) (base:Nat) (e:TypeId) (size:Nat) (v:Value) (n:Nat) (xs:List Value):Prop:=
 xs.length=n*size/\((v= .slice none 0 0/\n=0)\/
  ∃g off cap cur,v= .slice (some ⟨g,off,none⟩) n cap/\base<=g/\w.heap[g]? =some (.cells cur e (0,0))/\n<=cap/\cap<=maxLen/\off+cap*size<=cur.size/\∀(j:Nat) u,xs[j]? =some u->cur[off+j]? =some u)
variable {w w':World} {base:Nat} {e:TypeId} {size n:Nat} {v:Value} {xs:List Value}
theorem eF.nil (w:World) (base:Nat) (e:TypeId) (size:Nat):eF w base e size (.slice none 0 0) 0 []:=⟨by simp,.inl ⟨rfl,rfl⟩⟩
theorem eF.iV (h:w.ownsRow base e size v n xs):eF w base e size v n xs:=by
 refine⟨h.1,?_⟩;rcases h.2 with h1|⟨g,cap,cur,rfl,hb,hg,hc,hm,hs,ht⟩
 ·exact .inl h1
 ·refine .inr ⟨g,0,cap,cur,rfl,hb,hg,hc,hm,by omega,fun j u hj=>?_⟩;rw[Nat.zero_add];have hlt:=(bE.1 hj).1;rw[<-ht,List.getElem?_take] at hj;split at hj
  ·rwa [Array.getElem?_toList] at hj
  ·cases hj
theorem eF.shape (h:eF w base e size v n xs):∃ao c,v= .slice ao n c:=by
 rcases h.2 with⟨rfl,rfl⟩|⟨g,off,cap,cur,rfl,_⟩
 ·exact⟨none,0,rfl⟩
 ·exact⟨_,_,rfl⟩
theorem eF.lt (h:eF w base e size v n xs) {g:Nat} (hg:v.ownBlock=some g):base<=g/\g<w.heap.size:=by
 rcases h.2 with⟨rfl,_⟩|⟨g',off,cap,cur,rfl,hb,hgg,_⟩
 ·cases hg
 ·simp only[Value.ownBlock,bU] at hg;subst hg;exact⟨hb,lt_of_block hgg⟩
theorem eF.keep (h:eF w base e size v n xs) (hk:∀g,v.ownBlock=some g->g<w.heap.size->w'.heap[g]? =w.heap[g]?):eF w' base e size v n xs:=by
 refine⟨h.1,?_⟩;rcases h.2 with hn|⟨g',off,cap,cur,rfl,hb,hgg,rest⟩
 ·exact .inl hn
 ·refine .inr ⟨g',off,cap,cur,rfl,hb,?_,rest⟩;rw[hk g' rfl (lt_of_block hgg)];exact hgg
theorem eF.below (h:eF w base e size v n xs) (hb:Below w.heap.size w w'):eF w' base e size v n xs:=h.keep fun g _ hl=>hb.block g hl
theorem eF.wS {base':Nat} (h:eF w base e size v n xs) (hb:base'<=base):eF w base' e size v n xs:=by
 refine⟨h.1,?_⟩;rcases h.2 with hn|⟨g',off,cap,cur,hv,hb',rest⟩
 ·exact .inl hn
 ·exact .inr ⟨g',off,cap,cur,hv,Nat.le_trans hb hb',rest⟩
theorem eF.rd (h:eF w base e size v n xs):Rd w size v n xs:=by
 rcases h.2 with⟨rfl,rfl⟩|⟨g,off,cap,cur,rfl,hb,hg,hc,hm,hs,ht⟩
 ·have h1:=h.1;simp only[Nat.zero_mul] at h1;rw[List.length_eq_zero_iff.1 h1];exact Rd.nil w size
 ·exact⟨h.1,some ⟨g,off,none⟩,cap,rfl,hc,fun _=>⟨g,off,rfl,lt_of_block hg,fun j u hj=>af hg (ht j u hj)⟩⟩
theorem eF.tail {ao:Option Addr} {cap:Nat} (h:eF w base e size (.slice ao (n+1) cap) (n+1) xs) (hs:0<size):eF w base e size (.slice (if cap=1 then ao else ao.map (·.add size)) n (cap - 1)) n (xs.drop size):=by
 have h1:=h.1;refine⟨by rw[List.length_drop,h1,Nat.add_mul];omega,?_⟩;rcases h.2 with⟨_,h0⟩|⟨g,off,cap',cur,hv,hb,hg,hc,hm,hsz,ht⟩
 ·omega
 ·simp only[Value.slice.injEq,true_and] at hv;obtain⟨rfl,rfl⟩:=hv;by_cases h1':cap=1
  ·rw[if_pos h1'];subst h1';obtain rfl:n=0:=by omega
   refine .inr ⟨g,off,0,cur,rfl,hb,hg,by omega,by omega,by omega,fun j u hj=>?_⟩;have:=(bE.1 hj).1;rw[List.length_drop,h1] at this;omega
  ·rw[if_neg h1'];refine .inr ⟨g,off+size,cap - 1,cur,by simp[Addr.add_lit],hb,hg,by omega,by omega,?_,fun j u hj=>?_⟩
   ·have:cap*size=(cap - 1)*size+size:=by
     obtain⟨c,rfl⟩:∃c,cap=c+1:=⟨cap - 1,by omega⟩;rw[Nat.add_mul];simp
    omega
   ·rw[List.getElem?_drop] at hj;rw[Nat.add_assoc];exact ht _ u hj
theorem eF.first {ao:Option Addr} {cap:Nat} (h:eF w base e size (.slice ao (n+1) cap) (n+1) xs):∃g off,ao=some ⟨g,off,none⟩/\∀(j:Nat) u,xs[j]? =some u->w.cell? ⟨g,off+j,none⟩=some u:=by
 obtain⟨_,QJ,cap',hv,_,hr⟩:=h.rd;cases hv;obtain⟨g,off,rfl,_,hc⟩:=hr (by omega);exact⟨g,off,rfl,hc⟩
theorem vT (g:Nat):∀(vs:List Value) (o:Nat) (w:World),w.grownBy (w.setCells g o vs) (some g)
 |[],_,w=>World.grownBy.refl w _
 |v::r,o,w=>by
  have h1:=vT g r (o+1) (w.setCell ⟨g,o,none⟩ v);rw[World.setCells];refine⟨h1.os.trans rfl,h1.tape.trans rfl,h1.output.trans rfl,Nat.le_trans (by simp[World.setCell]) h1.size,fun k hk hne=>?_⟩;rw[h1.block k (by simp[World.setCell];exact hk) hne];exact dO _ _ _ _ (fun q=>hne (by rw[q]))
theorem A7 {t:TypeId} {f:Nat×Nat} (g:Nat):∀(vs:List Value) (o:Nat) (w:World) (cur:Array Value),w.heap[g]? =some (.cells cur t f)->o+vs.length<=cur.size->
  ∃cur',(w.setCells g o vs).heap[g]? =some (.cells cur' t f)/\cur'.size=cur.size/\(∀j,j<o->cur'[j]? =cur[j]?)/\∀(j:Nat) u,vs[j]? =some u->cur'[o+j]? =some u
 |[],o,w,cur,h,_=>⟨cur,h,rfl,fun _ _=>rfl,fun j u hj=>by simp at hj⟩
 |v::r,o,w,cur,h,hl=>by
  rw[List.length_cons] at hl;obtain⟨cur',h1,h2,h3,h4⟩:=A7 g r (o+1) (w.setCell ⟨g,o,none⟩ v) _ (aK (o:=o) v h) (by simp;omega);rw[World.setCells];refine⟨cur',h1,by simpa using h2,fun j hj=>?_,fun j u hj=>?_⟩
  ·rw[h3 j (by omega),g_ (by omega)]
  ·cases j with
   |zero=>
    simp only[List.getElem?_cons_zero,bU] at hj;subst hj;rw[Nat.add_zero,h3 o (by omega),Array.getElem?_setIfInBounds_self,if_pos (by omega)]
   |succ j=>
    rw[List.getElem?_cons_succ] at hj;have:=h4 j u hj
    rwa [show o+1+j=o+(j+1) from by omega] at this
theorem Cj {P:Program} (w:World) (t ty:TypeId) (base:Nat) (e:TypeId) (i:TypeInfo) (z:Value) (size bytes:Nat) (ht:P.underlying t=some (.slice e)) (hi:P.info? e=some i) (hz:i.zero=some z)
  (hsize:i.size=size) (hby:i.bytes=bytes) (hzs:z.cells.size=size) (hsz:0<size)
  (v:Value) (n:Nat) (xs:List Value) (hown:eF w base e size v n xs)
  (ad:Addr) (m c:Nat) (hm:0<m) (news:List Value) (hl:news.length=m*size) (hnews:∀j u,news[j]? =some u->w.cell? (ad.add j)=some u) (h1:∀u∈news,u.oneCell'=true)
  (h63:n+m<=maxLen) (hbytes:(n+m)*bytes<=140737488355328) (hbase:base<=w.heap.size):
  ∃ao cp w',(Builtin.append_ #[t,t] ty #[v,.slice (some ad) m c]).run P w= .ok (.slice ao (n+m) cp) w'/\eF w' base e size (.slice ao (n+m) cp) (n+m) (xs++news)/\
   (∀g,(Value.slice ao (n+m) cp).ownBlock=some g->v.ownBlock=some g\/w.heap.size<=g)/\w.grownBy w' v.ownBlock:=by
 have hlen:=hown.1;rcases hown.2 with⟨rfl,rfl⟩|⟨g,off,cap,cur,rfl,hbg,hgg,hnc,hcm,agO,hat⟩
 ·obtain rfl:xs=[]:=List.eq_nil_of_length_eq_zero (by simpa using hlen);obtain⟨v',w',hrun,r1,r2,_⟩:=run_append_own (P:=P) w w.heap.size t ty e i z size bytes ht hi hz hsize hby hzs hsz (.slice none 0 0) 0 [] (World.ownsRow_nil w _ e size) ad m c news hl hnews h1 h63 hbytes (aR _);obtain⟨ao,cp,rfl⟩:=bF r1;rw[Nat.zero_add] at*;exact⟨_,_,w',hrun,(eF.iV r1).wS hbase,fun g hg=>.inr (cK r1 hg).1,⟨r2.os,r2.tape,r2.output,r2.size,fun k hk hne=>r2.block k hk (by simp[Value.ownBlock])⟩⟩
 ·have hms:n+m<=cap->n*size+m*size<=cap*size:=fun hr=>by rw[<-Nat.add_mul];exact Nat.mul_le_mul_right _ hr
  by_cases hroom:n+m<=cap
  ·subst hsize;have hms:=hms hroom;have hrun:=run_append_room_cells (P:=P) w t ty e i ht hi g off n cap ad m c news hl hnews h1 hroom
    (fun j hj=>by
     have hlt:off+n*i.size+j<cur.size:=by omega
     rw[af hgg (Array.getElem?_eq_getElem hlt)];rfl)
    (fun j _=>aJ hgg)
   obtain⟨cur',k1,k2,k3,k4⟩:=A7 g news (off+n*i.size) w cur hgg (by omega);refine⟨_,_,_,hrun,⟨by rw[List.length_append,hlen,hl,Nat.add_mul],.inr ⟨g,off,cap,cur',rfl,hbg,k1,hroom,hcm,by omega,fun j u hj=>?_⟩⟩,fun g' hg'=>.inl hg',vT g news _ w⟩;rw[List.getElem?_append] at hj;split at hj
   ·rw[k3 _ (by omega)];exact hat j u hj
   ·rename_i hge;have:=k4 _ u hj
    rwa [show off+n*i.size+(j - xs.length)=off+j from by omega] at this
  ·obtain⟨v',w',hrun,r1,r2⟩:=run_append_arg_grows (P:=P) w t ty e i z size bytes ht hi hz hsize hby hzs hsz ⟨g,off,none⟩ n cap xs hlen (fun j u hj=>by rw[Addr.add_lit];exact af hgg (hat j u hj)) ad m c news hl hnews (by omega) h63 hbytes;obtain⟨ao,cp,rfl⟩:=bF r1;exact⟨_,_,w',hrun,(eF.iV r1).wS hbase,fun g' hg'=>.inr (cK r1 hg').1,⟨r2.os,r2.tape,r2.output,r2.size,fun k hk _=>r2.block k hk (by simp)⟩⟩
theorem Bi {P:Program} {ops:Array Oper} {o:Oper} {a:Act} {w:World} {K:Act->World->Prop} {Q:Exit->Act->World->Prop} {E:Prop}
  (hg:o.guard=none) (s x:Operand) (t:TypeId) (hop:o.op=Op.call {callee:=Callee.builtin Builtin.append,args:=#[s,x],argTypes:=#[t,t]})
  (base:Nat) (e:TypeId) (i:TypeInfo) (z:Value) (size bytes:Nat) (ht:P.underlying t=some (.slice e)) (hi:P.info? e=some i) (hz:i.zero=some z)
  (hsize:i.size=size) (hby:i.bytes=bytes) (hzs:z.cells.size=size) (hsz:0<size)
  (v:Value) (n:Nat) (xs:List Value) (hs:a.eval s=v) (hown:eF w base e size v n xs)
  (ad:Addr) (m c:Nat) (hm:0<m) (news:List Value) (hx:a.eval x= .slice (some ad) m c) (hl:news.length=m*size) (hnews:∀j u,news[j]? =some u->w.cell? (ad.add j)=some u) (h1:∀u∈news,u.oneCell'=true)
  (h63:n+m<=maxLen) (hbytes:(n+m)*bytes<=140737488355328) (hbase:base<=w.heap.size)
  (hK:∀ao cp w',eF w' base e size (.slice ao (n+m) cp) (n+m) (xs++news)->(∀g,(Value.slice ao (n+m) cp).ownBlock=some g->v.ownBlock=some g\/w.heap.size<=g)->w.grownBy w' v.ownBlock->K (a.put o.dst (.slice ao (n+m) cp)) w'):
  if Region.wanted o (yielded ops a.tmps)=true then Oper.wp P o a w K Q else E:=by
 have hw:Region.wanted o (yielded ops a.tmps)=true:=by simp[Region.wanted,hg]
 rw[if_pos hw];obtain⟨ao,cp,w',hrun,r1,r2,r3⟩:=Cj (P:=P) w t o.type base e i z size bytes ht hi hz hsize hby hzs hsz v n xs hown ad m c hm news hl hnews h1 h63 hbytes hbase;unfold Oper.wp;simp[execOp,hop,resolve,invoke,builtin,hs,hx,hrun,Result.andThen];exact hK ao cp w' r1 r2 r3
end
end Go.Proofs.YtopdcjimpdalpaaGreat

import Derived.Test.YtopdcjimpdalpaaGreatQ44
import Derived.Deep.CutRange
import Derived.Deep.RegionHeld3
namespace Go.Proofs.YtopdcjimpdalpaaGreat
open Go.RowKit
set_option linter.all false
set_option maxHeartbeats 8000000
set_option maxRecDepth 100000
variable {w w':World}
theorem TY {ta:Option Addr} {tc:Nat} {ts:vw} (h:yT w (.slice ta ts.length tc) ts) (words:Int) {sa:Option Addr} {PL:Nat} {sc:List gT} (hs:fI iE w 3 (.slice sa sc.length PL) sc) (hsl:sc.length<=9223372036854775807) (hsn:∀p∈sc,0<=p.kind/\(-9223372036854775808<=p.n/\p.n<=9223372036854775807)) (th:Int) (hlen:ts.length<=9000000000000):
  Calls Tryz.prog 3 #[.int .i64 words,.slice ta ts.length tc,.slice sa sc.length PL,.int .i64 th] w fun e w'=>e= .returned (.bool true)/\Below w.heap.size w w':=by
 have H:=ag h;have HS:=ag hs;have HSL:=ag hsl;have UH:=ag hsn;clear h hs hsl hsn;go_in;go_wp2_with fail;refine(Q4 H.out).mono ?_;rintro e w1 ⟨z,rfl,hz0,hz1,hz2,hb1⟩;have HB1:=ag hb1;have HZ:=ag (And.intro hz0 hz1);have HZ2:=ag (show z<=262144->∀p∈ts,di p.2<=262144 from fun h=>by simpa using hz2 h);clear hz0 hz1 hz2 hb1;go_wp2_with fail;refine(Mi (y:=z) (z:=(sc.length:Int)) (aX w1 _) HZ.out ⟨by omega,by have:=HSL.out;omega⟩).mono ?_;rintro e w2 ⟨r,rfl,hr,hb2⟩;have HB2:=ag (gH HB1.out (gH ((aQ _ _).alloc (aR _) _) hb2));clear hb2;cases r with
 |true=>
  clear hr;go_wp2_with fail;go_ret;exact⟨rfl,HB2.out⟩
 |false=>
  have HR:=ag (hr rfl);clear hr;have HT:=ag (HZ2.out HR.out.1);go_wp2_with fail;refine(Wv ((H.out.below HB2.out).at HT.out) hlen words).mono ?_;rintro e w3 ⟨r,rfl,hf,hb3⟩;have HB3:=ag (gH HB2.out hb3);clear hb3;cases r with
  |false=>
   clear hf;go_wp2_with fail;go_ret;exact⟨rfl,HB3.out⟩
  |true=>
   have HF:=ag (hf rfl);clear hf;by_cases h0:th<0
   ·go_wp2_with fail;go_ret;exact⟨rfl,HB3.out⟩
   by_cases h1:th>=ts.length
   ·go_wp2_with fail;go_ret;exact⟨rfl,HB3.out⟩
   obtain⟨n,rfl⟩:∃n:Nat,th=n:=⟨th.toNat,by omega⟩;have hn:n<ts.length:=by omega
   go_wp2_with fail;refine(Mg (H.out.below HB3.out) HT.out HF.out).mono ?_;rintro e w4 ⟨hb4,hi⟩;have yo:=ag (gH HB3.out hb4);clear hb4;rcases hi with⟨en,hen,rfl,hbad⟩|⟨co,cc,l,rfl,Tp⟩
   ·have HBAD:=ag hbad;have ae7:(en !=0)=true:=by simpa using hen
    have afx:(en==0)=false:=by simpa using hen
    clear hbad hen;go_wp2_with fail;have XC:=ag (gH yo.out ((aQ w4.heap.size w4).alloc (aR _) (.cells #[.slice none 0 0,.int .i64 0,.slice none 0 0] 30)));refine(U1 ((H.out.below XC.out).at HT.out) hlen words).mono ?_;rintro e w5 ⟨r,rfl,hr,hb5⟩;obtain rfl:r=false:=by
     cases r with
     |false=>rfl
     |true=>exact absurd (hr.1 rfl) HBAD.out
    have qj:=ag (gH XC.out hb5);clear hr hb5;go_wp2_with fail;refine(yt _).mono ?_;rintro e w6 ⟨rfl,hb6⟩;have Az:=ag (gH qj.out hb6);clear hb6;go_wp2_with fail;go_ret;exact⟨rfl,Az.out⟩
   ·obtain⟨mem,hmem⟩:∃z,z=dz words ts.length:=⟨_,rfl⟩;have OU:=ag hmem;have WT:=ag Tp;rw[<-hmem];clear Tp hmem;have HX5:=ag ((aQ w4.heap.size w4).alloc (aR _) (.cells #[.slice co l.length cc,.int .i64 mem,.slice none 0 0] 30));have qj:=ag (gH yo.out HX5.out);have Xf:=ag (aX w4 (.cells #[.slice co l.length cc,.int .i64 mem,.slice none 0 0] 30));have U3:=ag (WT.out.code.below HX5.out);go_wp2_with fail;generalize w4.alloc (.cells #[.slice co l.length cc,.int .i64 mem,.slice none 0 0] 30)=w5 at qj Xf U3 HX5⊢;clear HX5;have d0:w5.cell? ⟨w4.heap.size,0,none⟩=some (.slice co l.length cc):=af Xf.out rfl;have xH:=ag (show oH (jq words (ts.map rowsOf))/\Small (jq words (ts.map rowsOf))/\jK (jq words (ts.map rowsOf)) (iC mem (l.map (·.2)) [],0)/\words+18<=mem from by rw[OU.out];exact Va WT.out HF.out);refine((show Calls Tryz.prog 14 #[.agg #[.slice co l.length cc,.int .i64 mem,.slice none 0 0]] w5 (I9 mem l [] w5) from
     Tn (l:=l) (cs:=[]) (ug:=none) (jZ:=0) U3.out (Rd.nil _ 2) mem (by have:=WT.out.len;omega) (by simp) (fun p hp=>Nat.le_trans (WT.out.each p hp) (by decide)) (by rw[OU.out];exact WT.out.chk))).mono ?_
    rintro e w6 ⟨b,own,xs,mv,tv,ev,rfl,hr,hb6⟩;have HG6:=ag (show Gs (jq words (ts.map rowsOf)) w6 w5.heap.size b 0 (iC mem (l.map (·.2)) []) from⟨iO.of hr (FB U3.out (by rw[OU.out];exact WT.out.chk)),xH.out.2.2.1⟩);have Az:=ag (gH qj.out hb6);obtain⟨B,hB⟩:∃B,B=w5.heap.size:=⟨_,rfl⟩;rw[<-hB] at HG6;have HWB:=ag (show w.heap.size<=B from by rw[hB];exact qj.out.size);have HBB:=ag (show B<=w6.heap.size from by rw[hB];exact hb6.size);clear hr hb6 hB Xf U3 d0;go_wp2_with fail;refine(Ir (Rd.below HS.out Az.out) (by have:=HR.out.2;omega)).mono ?_;rintro e w7 ⟨rfl,AB⟩;have HG7:=ag (HG6.out.below AB);have nP:=ag (gH Az.out AB);have agd:=ag (Nat.le_trans HBB.out AB.size);clear AB;by_cases hle:(eG sc).2=0
    ·have HLEN:=ag (Cm hle);rw[hle];generalize iC mem (l.map (·.2)) []=M0 at HG7;clear hle HG6 HBB Az qj yo HB3 HB2 HB1 HR HZ2;go_wp2_with fail;go_loopw [14] (fun i wr=>∃(k T:Nat) (mm:MM),k<=sc.length/\i= .int .i64 (k:Int)/\Hid ((T:Int)<=total (sc.take k))/\Hid (Gs (jq words (ts.map rowsOf)) wr B b T mm)/\Hid (Below B w7 wr)) (fun i _=>sc.length - (intOf i).toNat)
     case atStart=>exact⟨0,0,M0,Nat.zero_le _,rfl,ag (by simp[total]),HG7,ag (aQ _ _)⟩
     case round=>
      obtain⟨k,T,mm,hk,rfl,HT1,HG,GX⟩:=hrel;have hsl:=HLEN.out.1;have hw1:IntKind.i64.wrap ((k:Int)+1)=k+1:=IntWalk.i64_in _ (by omega);by_cases hlt:k<sc.length
      ·obtain⟨p,hp⟩:=bW hlt;obtain⟨g,o,rfl,hg,hc⟩:=fI.at qi HS.out hp;obtain⟨hk2,hn0,ht0,ht1,ht2⟩:=I5 HLEN.out.2.1 HLEN.out.2.2.1 hp;have hk0:=(UH.out p (bA hp)).1;have HC:=ag (show ∀wq,Below B w7 wq->wq.cell? ⟨g,o+k*3,none⟩=some (.int .u8 p.kind)/\wq.cell? ⟨g,o+k*3+1,none⟩=some (.int .i64 p.th)/\wq.cell? ⟨g,o+k*3+2,none⟩=some (.int .i64 p.n) from fun wq hq=>by
        have hb:Below w.heap.size w wq:=nP.out.trans (hq.mono HWB.out);exact⟨(hb.cell hg).trans (hc 0 _ rfl),(hb.cell hg).trans (hc 1 _ rfl),(hb.cell hg).trans (hc 2 _ rfl)⟩)
       have HT2:=ag (And.intro ht0 (And.intro ht1 ht2));have HKK:=ag (And.intro hk0 hk2);have HN0:=ag hn0;have Fp:=ag hlt;have hpn:p.n<=1048576:=by omega
       clear hp hg hc ht0 ht1 ht2 hk0 hk2 hn0;obtain⟨wE,rfl⟩:∃x,x=wr:=⟨_,rfl⟩;go_wp2_with fail;go_loopw [15] (fun j wr=>∃(m T:Nat) (mm:MM),(m:Int)<=p.n/\j= .int .i64 (m:Int)/\Hid ((T:Int)<=total (sc.take k)+m)/\Hid (Gs (jq words (ts.map rowsOf)) wr B b T mm)/\Hid (Below B w7 wr)) (fun j _=>(p.n - intOf j).toNat)
       case atStart=>exact⟨0,T,mm,HN0.out,rfl,ag (by have:=HT1.out;omega),HG,GX⟩
       case round=>
        obtain⟨m,T',iZ,hm,rfl,HT3,Xw,Ud⟩:=hrel;obtain⟨c0,c1,c2⟩:=HC.out wr Ud.out;have hw2:IntKind.i64.wrap ((m:Int)+1)=m+1:=IntWalk.i64_in _ (by omega);by_cases hlm:(m:Int)<p.n
        ·have YT:=ag (show T'<1000000000 from by have:=HT3.out;have:=HT2.out;omega);have kinds:p.kind=0\/p.kind=1\/p.kind=2:=by have:=HKK.out;omega
         rcases kinds with hkk|hkk|hkk
         ·rw[hkk] at c0;go_wp2_with fail;refine(Ni Xw.out xH.out.1 xH.out.2.1 YT.out p.th).mono ?_;rintro e wx ⟨rfl,hgx,hbx⟩;have Qx:=ag hgx;have tN:=ag (Ud.out.trans hbx);obtain⟨x0,x1,x2⟩:=HC.out wx tN.out;rw[hkk] at x0;clear hgx hbx c0 c1 c2;generalize(iZ.step p.th).1=bs at*;generalize(iZ.step p.th).2=Wz at Qx;go_wp2_with fail;exact⟨⟨m+1,T'+1,Wz,by omega,by go_num,ag (by have:=HT3.out;omega),Qx,tN⟩,by simp[intOf];omega⟩
         ·rw[hkk] at c0;go_wp2_with fail;refine(CV Xw.out xH.out.1 xH.out.2.1 YT.out p.th).mono ?_;rintro e wx ⟨rfl,hgx,hbx⟩;have Qx:=ag hgx;have tN:=ag (Ud.out.trans hbx);obtain⟨x0,x1,x2⟩:=HC.out wx tN.out;rw[hkk] at x0;clear hgx hbx c0 c1 c2;generalize(iZ.flush p.th).1=bs at*;generalize(iZ.flush p.th).2=Wz at Qx;go_wp2_with fail;exact⟨⟨m+1,T',Wz,by omega,by go_num,ag (by have:=HT3.out;omega),Qx,tN⟩,by simp[intOf];omega⟩
         ·rw[hkk] at c0;go_wp2_with fail;refine(Ni Xw.out xH.out.1 xH.out.2.1 YT.out p.th).mono ?_;rintro e wx ⟨rfl,hgx,hbx⟩;have Qx:=ag hgx;have tN:=ag (Ud.out.trans hbx);obtain⟨x0,x1,x2⟩:=HC.out wx tN.out;rw[hkk] at x0;clear hgx hbx c0 c1 c2;generalize(iZ.step p.th).1=bs at*;generalize(iZ.step p.th).2=Wz at Qx;go_wp2_with fail;refine(CV Qx.out xH.out.1 xH.out.2.1 (by have:=HT3.out;have:=HT2.out;omega) p.th).mono ?_;rintro e wy ⟨rfl,hgy,hby⟩;have HGY:=ag hgy;have HBY:=ag (tN.out.trans hby);clear hgy hby x0 x1 x2;generalize(Wz.flush p.th).1=bs2 at*;generalize(Wz.flush p.th).2=mm3 at HGY;go_wp2_with fail;exact⟨⟨m+1,T'+1,mm3,by omega,by go_num,ag (by have:=HT3.out;omega),HGY,HBY⟩,by simp[intOf];omega⟩
        ·have hmm:(m:Int)=p.n:=by omega
         have Zt:=ag hmm;clear hmm;go_wp2_with fail;exact⟨⟨k+1,T',iZ,Fp.out,by go_num,ag (by have:=HT3.out;have:=HT2.out;have:=Zt.out;omega),Xw,Ud⟩,by simp[intOf];have:=Fp.out;omega⟩
      ·obtain rfl:k=sc.length:=by omega
       rw[List.take_length] at HT1;have YT:=ag (show T<=1048576 from by have:=HT1.out;have:=HLEN.out.2.2.1;omega);have afV:=HF.out.2.2.2;obtain⟨wE,rfl⟩:∃x,x=wr:=⟨_,rfl⟩;clear hlt hw1 HT1;go_wp2_with fail;go_loopw [16] (fun i wr=>∃(j:Nat) (mm:MM),j<=ts.length/\i= .int .i64 (j:Int)/\Hid (Gs (jq words (ts.map rowsOf)) wr B b T mm)/\Hid (∀k,k<j->qI mm k)/\Hid (Below B w7 wr)) (fun i _=>ts.length - (intOf i).toNat)
       case atStart=>exact⟨0,mm,Nat.zero_le _,rfl,HG,ag (fun k hk=>absurd hk (by omega)),GX⟩
       case round=>
        obtain⟨j,mm,hj,rfl,HG,HNW,GX⟩:=hrel;have hw1:IntKind.i64.wrap ((j:Int)+1)=j+1:=IntWalk.i64_in _ (by omega);by_cases hlt:j<ts.length
        ·have Fp:=ag hlt;obtain⟨wE,rfl⟩:∃x,x=wr:=⟨_,rfl⟩;go_wp2_with fail;go_loopw [] (fun wr=>∃(mm:MM),Hid (Gs (jq words (ts.map rowsOf)) wr B b T mm)/\Hid (∀k,k<j->qI mm k)/\Hid (Below B w7 wr)) (fun wr=>zi wr b j)
         case atStart=>exact⟨mm,HG,HNW,GX⟩
         case round=>
          obtain⟨mm,HG,HNW,GX⟩:=hrel;obtain⟨t,ht⟩:∃t,mm.aM[j]? =some t:=⟨_,dZ (by rw[HG.out.len];show j<(ts.map rowsOf).length;rw[List.length_map];exact Fp.out)⟩;have Zf:=ag ht;have WM:=ag (HG.out.1.waits ht);clear ht;go_wp2_with fail;refine(CV HG.out xH.out.1 xH.out.2.1 (by have:=YT.out;omega) (j:Int)).mono ?_;rintro e wx ⟨rfl,hgx,hbx⟩;have Qx:=ag hgx;have tN:=ag (GX.out.trans hbx);have Xm:=ag (show ∀k,k<j->qI (mm.flush j).2 k from fun k hk=>Gw (HNW.out k hk));clear hgx hbx;cases hfl:(mm.flush (j:Int)).1 with
          |true=>
           obtain⟨u,hu,hul⟩:=JH Zf.out hfl;have hwx:=Qx.out.1.waits hu;have Re:=ag (show zi wx b j<zi wr b j from by rw[hwx,WM.out];omega);clear hu hul hwx hfl;go_wp2_with fail;exact⟨⟨_,Qx,Xm,tN⟩,Re.out⟩
          |false=>
           obtain⟨q1,q2⟩:=GA hfl;have HNJ:=ag (show ∀k,k<j+1->qI (mm.flush (j:Int)).2 k from fun k hk=>by
            by_cases e:k=j
            ·subst e;rw[q2];exact q1
            ·exact Xm.out k (by omega))
           clear q1 q2 hfl;go_wp2_with fail;exact⟨⟨j+1,_,Fp.out,by go_num,Qx,HNJ,tN⟩,by simp[intOf];have:=Fp.out;omega⟩
        ·obtain rfl:j=ts.length:=by omega
         have Zn:=ag (And.intro HF.out.2.1 HF.out.2.2.1);obtain⟨wE,rfl⟩:∃x,x=wr:=⟨_,rfl⟩;clear hlt hw1;go_wp2_with fail;refine(Oj Zn.out.1 Zn.out.2 wE).mono ?_;rintro e wp ⟨po,pn,pc,pz,rfl,hbp⟩;have HXP:=ag (aX wp (.cells #[.int .i64 words,.slice po pn pc,.int .i64 pz] 46));have hbq:Below wE.heap.size wE (wp.alloc (.cells #[.int .i64 words,.slice po pn pc,.int .i64 pz] 46)):=gH hbp ((aQ _ _).alloc (aR _) _);have UK:=ag hbq;go_wp2_with fail;generalize wp.alloc (.cells #[.int .i64 words,.slice po pn pc,.int .i64 pz] 46)=wq at HXP hbq UK⊢;have Zm:=ag (HG.out.below hbq);have aat:=ag (GX.out.trans (hbq.mono HG.out.1.eX));clear hbq hbp UK;have Xl:=ag (show words+18<=mm.mem.length from by
          have h1:=Zm.out.size;have h2:(jq words (ts.map rowsOf)).size=mem:=by rw[OU.out];show dz words (ts.map rowsOf).length=_;rw[List.length_map]
          rw[h1,h2];exact xH.out.2.2.2)
         have hwd:=Zn.out.1;have adk:=Zn.out.2;obtain⟨mb,mc,m0,m1⟩:=Zm.out.1.word (by have:=Xl.out;omega);have BB:=ag m0;have Yw:=ag m1;clear m0 m1;go_loopw [18] (fun i wr=>∃(s:Nat),s<=16/\i= .int .i64 (s:Int)/\Hid (∀k:Nat,k<s->mm.at (words+2+(k:Int))%2≠0->mm.at (words+2+(k:Int))/2=n)/\Hid (Below wq.heap.size wq wr)) (fun i _=>16 - (intOf i).toNat)
         case atStart=>exact⟨0,by omega,rfl,ag (fun k hk=>absurd hk (by omega)),ag (aQ _ _)⟩
         case round=>
          obtain⟨s,hs,rfl,Zk,tK⟩:=hrel;by_cases hlt:(s:Int)<16
          ·have lQ:s<16:=by omega
           have hw1:IntKind.i64.wrap ((s:Int)+1)=s+1:=IntWalk.i64_in _ (by omega);obtain⟨q,hq⟩:∃q:Nat,(q:Int)=words+2+s:=⟨(words+2+s).toNat,by omega⟩;have hql:q<mm.mem.length:=by have:=Xl.out;omega
           obtain⟨x,hx⟩:∃x,x=mm.mem.getD q 0:=⟨_,rfl⟩;have hat:mm.at (words+2+(s:Int))=x:=by unfold MM.at;rw[<-hq,Int.toNat_natCast,hx]
           have g0:wr.cell? ⟨b,0,none⟩=some (.slice (some ⟨mb,0,none⟩) mm.mem.length mc):=(tK.out.cell (dH _ _ BB.out)).trans BB.out;have g1:wr.cell? ⟨mb,q,none⟩=some (.int .i64 x):=by rw[hx];exact(tK.out.cell (dH _ _ (Yw.out q hql))).trans (Yw.out q hql)
           have gp:=blk tK.out HXP.out;have y0:=fun t'=>fH g0 t'
           have y1:=fun t'=>fH g1 t'
           have p0:=fun t'=>fH (af (o:=0) gp rfl) t'
           have p1:=fun t'=>fH (af (o:=1) gp rfl) t'
           have p2:=fun t'=>fH (af (o:=2) gp rfl) t'
           have HLO:=ag (fun wz=>Wm hwd adk lQ hq pz (.slice po pn pc) wz);have ZQ:=ag lQ;have HAT:=ag hat;clear gp g0 g1 hx hat hq lQ;by_cases hodd:x%2=0
           ·have HLD:=ag (fun wz=>OD hodd wz);go_upto_region 30 with fail
            refine jb (by kernel_rfl) (by kernel_rfl) ?_;repeat (go_big_quiet_step ((first|(go_at_call 20;exact uF (HLO.out _))|(go_at_call 19;exact zh (HLD.out _)))))
            refine wpQuiet_nil ?_;intro wx hbx;have tN:=ag (tK.out.trans (hbx.mono tK.out.size));clear hbx y0 y1 p0 p1 p2;have Xm:=ag (show ∀k:Nat,k<s+1->mm.at (words+2+(k:Int))%2≠0->mm.at (words+2+(k:Int))/2=n from fun k hk h2=>by
             by_cases e:k=s
             ·subst e;rw[HAT.out] at h2;exact absurd hodd h2
             ·exact Zk.out k (by omega) h2)
            clear hodd;go_wp2_with fail;exact⟨⟨s+1,ZQ.out,by go_num,Xm,tN⟩,by simp[intOf];omega⟩
           ·have HLD:=ag (fun wz=>LX hodd wz);go_upto_region 30 with fail
            refine jb (by kernel_rfl) (by kernel_rfl) ?_;repeat (go_big_quiet_step ((first|(go_at_call 20;exact uF (HLO.out _))|(go_at_call 19;exact zh (HLD.out _)))))
            refine wpQuiet_nil ?_;intro wx hbx;have tN:=ag (tK.out.trans (hbx.mono tK.out.size));clear hbx y0 y1 p0 p1 p2;by_cases hown:x/2=(n:Int)
            ·have Xm:=ag (show ∀k:Nat,k<s+1->mm.at (words+2+(k:Int))%2≠0->mm.at (words+2+(k:Int))/2=n from fun k hk h2=>by
              by_cases e:k=s
              ·subst e;rw[HAT.out];exact hown
              ·exact Zk.out k (by omega) h2)
             have hown2:(x/2 !=(n:Int))=false:=by simpa using hown
             clear hodd hown;go_wp2_with fail;exact⟨⟨s+1,ZQ.out,by go_num,Xm,tN⟩,by simp[intOf];omega⟩
            ·have hown2:(x/2 !=(n:Int))=true:=by simpa using hown
             have HBZ:=ag (nP.out.trans ((aat.out.trans (tN.out.mono Zm.out.1.eX)).mono HWB.out));clear hodd hown;go_wp2_with fail;refine(yt _).mono ?_;rintro e wz ⟨rfl,hbz⟩;have HBY:=ag (gH HBZ.out hbz);clear hbz;go_wp2_with fail;go_ret;exact⟨rfl,HBY.out⟩
          ·have aag:=ag (show ∀k:Nat,k<16->mm.at (words+2+(k:Int))%2≠0->mm.at (words+2+(k:Int))/2=n from fun k hk=>Zk.out k (by omega));have vG:=ag (show LQ (jq words (ts.map rowsOf)) n 0 mm T from LQ.start Zm.out.2 (by show n<(ts.map rowsOf).length;rw[List.length_map];exact hn) xH.out.2.1 (HNW.out n hn) aag.out);have VK:=ag (Zm.out.1.below tK.out);have YL:=ag (aat.out.trans (tK.out.mono Zm.out.1.eX));have Qo:=ag hn;have Zo:=ag (show n<(jq words (ts.map rowsOf)).N from by show n<(ts.map rowsOf).length;rw[List.length_map];exact hn);obtain⟨wE,rfl⟩:∃x,x=wr:=⟨_,rfl⟩;clear BB Yw HXP hn;go_wp2_with fail;clear hlt hs;go_loopw [22] (fun i wr=>∃(k:Nat) (mm:MM),k<=262144/\i= .int .i64 (k:Int)/\Hid (iO wr B b mm (T+k))/\Hid (LQ (jq words (ts.map rowsOf)) n k mm ((T+k:Nat):Int))/\Hid (Below B w7 wr)) (fun i _=>262144 - (intOf i).toNat)
           case atStart=>exact⟨0,mm,by omega,rfl,VK,vG,YL⟩
           case round=>
            obtain⟨k,mm,hk,rfl,VK,vG,GX⟩:=hrel;have hw1:IntKind.i64.wrap ((k:Int)+1)=k+1:=IntWalk.i64_in _ (by omega);have WJ:mm.aM.length=(jq words (ts.map rowsOf)).N:=vG.out.len;obtain⟨t,ht⟩:∃t,mm.aM[n]? =some t:=⟨_,dZ (by rw[WJ];exact Zo.out)⟩;have hnm:(n:Int)<mm.aM.length:=by have:=Zo.out;omega
            obtain⟨tb,tc',wa,wc,oa,oc,t0,w1',o1,f1⟩:=VK.out.xq ht;have Zf:=ag ht;clear ht w1' WJ;by_cases hlt:(k:Int)<262144
            ·by_cases hfin:t.fin=0
             ·have HR4:=ag (vG.out.round xH.out.1 xH.out.2.1 Zo.out (by have:=YT.out;omega) Zf.out hfin);rw[hfin] at f1;clear hfin;have Fp:=ag hlt;go_wp2_with fail;refine(MU VK.out (by have:=YT.out;omega) (n:Int)).mono ?_;rintro e wx ⟨rfl,hlx,hbx⟩;have HLX:=ag hlx;have tN:=ag (GX.out.trans hbx);clear hlx hbx t0 o1 f1;generalize(mm.step (n:Int)).1=bs at*;go_wp2_with fail;refine(Ic HLX.out (n:Int)).mono ?_;rintro e wy ⟨rfl,hly,hby⟩;have HLY:=ag hly;have HBY:=ag (tN.out.trans hby);clear hly hby
              generalize((mm.step (n:Int)).2.flush (n:Int)).1=bs2 at*;go_wp2_with fail;exact⟨⟨k+1,_,by have:=Fp.out;omega,by go_num,HLY,ag (by have h9:=HR4.out.2;exact h9),HBY⟩,by simp[intOf];have:=Fp.out;omega⟩
             ·have JO:=ag (show t.fin=1/\t.out.length=((jq words (ts.map rowsOf)).rs n).length from vG.out.done Zo.out Zf.out hfin);clear hfin;have hf1:t.fin=1:=JO.out.1;rw[hf1] at f1;have f0:=f1;have y0:=fun t'=>fH t0 t'
              have y1:=fun t'=>fH f1 t'
              have y2:=fun t'=>fH o1 t'
              have hbw:Below w.heap.size w wr:=nP.out.trans (GX.out.mono HWB.out);obtain⟨rt,hrt⟩:=bW Qo.out;obtain⟨g2,o2,e2,hg2,hc2⟩:=fI.at qc (Rd.below H.out.rows hbw) hrt;obtain⟨ra,rc,AJ⟩:=mE (H.out.each rt (bA hrt)).rows;have y3:=fun t'=>fH (show wr.cell? ⟨g2,o2+n,none⟩=some (.slice ra rt.2.length rc) from by have:=hc2 0 _ rfl;rw[<-AJ];simpa [xA] using this) t'
              have Ta:t.out.length=rt.2.length:=by
               rw[JO.out.2];show((ts.map rowsOf).getD n []).length=_;rw[List.getD_eq_getElem?_getD,List.getElem?_map,hrt];simp[rowsOf]
              rw[Ta] at y2;have E5:=ag hbw;subst e2;clear f0 o1 hc2 AJ hrt hg2 hbw;go_upto_region 38 with fail
              clear f1 t0;refine jb (by kernel_rfl) (by kernel_rfl) ?_;repeat (go_big_quiet_step ((first|(go_at_call 13;exact uF (yt _)))))
              refine wpQuiet_nil ?_;intro wx hbx;have tN:=ag (gH E5.out hbx);clear hbx y0 y1 y2 y3;go_wp2_with fail;go_ret;exact⟨rfl,tN.out⟩
            ·have hke:262144=k:=by omega
             have HGL:=ag (show LQ (jq words (ts.map rowsOf)) n 262144 mm ((T+k:Nat):Int) from by rw[hke];exact vG.out);clear hke;have JO:=ag (show t.fin=1/\t.out.length=((jq words (ts.map rowsOf)).rs n).length from vG.out.done Zo.out Zf.out (HGL.out.last Zo.out Zf.out));have hf1:t.fin=1:=JO.out.1;rw[hf1] at f1;have f0:=f1;have y0:=fun t'=>fH t0 t'
             have y1:=fun t'=>fH f1 t'
             have y2:=fun t'=>fH o1 t'
             have hbw:Below w.heap.size w wr:=nP.out.trans (GX.out.mono HWB.out);obtain⟨rt,hrt⟩:=bW Qo.out;obtain⟨g2,o2,e2,hg2,hc2⟩:=fI.at qc (Rd.below H.out.rows hbw) hrt;obtain⟨ra,rc,AJ⟩:=mE (H.out.each rt (bA hrt)).rows;have y3:=fun t'=>fH (show wr.cell? ⟨g2,o2+n,none⟩=some (.slice ra rt.2.length rc) from by have:=hc2 0 _ rfl;rw[<-AJ];simpa [xA] using this) t'
             have Ta:t.out.length=rt.2.length:=by
              rw[JO.out.2];show((ts.map rowsOf).getD n []).length=_;rw[List.getD_eq_getElem?_getD,List.getElem?_map,hrt];simp[rowsOf]
             rw[Ta] at y2;have E5:=ag hbw;subst e2;clear f0 o1 hc2 AJ hrt hg2 hbw;go_upto_region 38 with fail
             clear f1 t0;refine jb (by kernel_rfl) (by kernel_rfl) ?_;repeat (go_big_quiet_step ((first|(go_at_call 13;exact uF (yt _)))))
             refine wpQuiet_nil ?_;intro wx hbx;have tN:=ag (gH E5.out hbx);clear hbx y0 y1 y2 y3;go_wp2_with fail;go_ret;exact⟨rfl,tN.out⟩
    ·have hl2:((eG sc).2 !=0)=true:=by simpa using hle
     have hl3:((eG sc).2==0)=false:=by simpa using hle
     clear hle;go_wp2_with fail;refine(yt _).mono ?_;rintro e w8 ⟨rfl,uD⟩;have EK:=ag (gH nP.out uD);clear uD;go_wp2_with fail;go_ret;exact⟨rfl,EK.out⟩
end Go.Proofs.YtopdcjimpdalpaaGreat

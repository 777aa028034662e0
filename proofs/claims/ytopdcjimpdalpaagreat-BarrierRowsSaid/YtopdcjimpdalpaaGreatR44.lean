import Derived.Test.YtopdcjimpdalpaaGreatR43
import Derived.Deep.CutRange
import Derived.Deep.RegionHeld3
namespace Go.Proofs.YtopdcjimpdalpaaGreat
open Go.RowKit
set_option linter.all false
set_option maxHeartbeats 8000000
set_option maxRecDepth 100000
variable {w w':World}
theorem aaS:(Tryz.prog.info? 2).map (fun i=>(i.zero,i.size,i.bytes))=some (some (.int .i64 0),1,8):=by kernel_rfl
theorem aaQ:(Tryz.prog.info? 3).map (fun i=>(i.zero,i.size,i.bytes))=some (some (.int .i64 0),1,8):=by kernel_rfl
theorem abo:(Tryz.prog.info? 51).map (fun i=>(i.zero,i.size,i.bytes))=some (some (.slice none 0 0),1,24):=by kernel_rfl
theorem abq {evs:List Ev} {s:HS} (hr:jK evs 0 HS.init= .inl s):s.aU.length<=evs.length:=by
 have h7:=YQ _ yV.init hr;simp only[HS.init,List.length_nil,List.map_nil,List.sum_nil] at h7;omega
theorem acg {a:List (Value×List Tx)} (h:dP a<=262144):a.length<=262144/\∀p∈a,p.2.length<=262144:=by
 unfold dP at h;induction a with
 |nil=>exact⟨by simp,fun p hp=>by cases hp⟩
 |cons q r ih=>
  rw[List.map_cons,List.sum_cons] at h;have h1:=ih (by omega);have h2:r.length<=(r.map fun p=>p.2.length+1).sum:=by
   clear ih h h1;induction r with
   |nil=>simp
   |cons a l ih=>rw[List.map_cons,List.sum_cons,List.length_cons];omega
  refine⟨by rw[List.length_cons];omega,fun p hp=>?_⟩;rcases List.mem_cons.1 hp with rfl|hp
  ·omega
  ·exact h1.2 p hp
theorem abm {ta:Option Addr} {tc:Nat} {ts:xJ} (h:yu w (.slice ta ts.length tc) ts) (words:Int) {sa:Option Addr} {yG:Nat} {sc:List dB} (hs:dH fU w 3 (.slice sa sc.length yG) sc) (hsl:sc.length<=9223372036854775807) (hsn:∀p∈sc,0<=p.kind/\(-9223372036854775808<=p.n/\p.n<=9223372036854775807)):
  Calls Tryz.prog 5 #[.int .i64 words,.slice ta ts.length tc,.slice sa sc.length yG] w fun e w'=>e= .returned (.bool true)/\Below w.heap.size w w':=by
 obtain⟨i1,hi,hz0,hz1,hz2⟩:=info_parts aaQ;obtain⟨i2,hj,hy0,hy1,hy2⟩:=info_parts abo;obtain⟨i3,hk,hx0,hx1,hx2⟩:=info_parts aaS;have HI:=ag (And.intro hi (And.intro hz0 (And.intro hz1 hz2)));have HJ:=ag (And.intro hj (And.intro hy0 (And.intro hy1 hy2)));have HK:=ag (And.intro hk (And.intro hx0 (And.intro hx1 hx2)));have H:=ag h;have HS:=ag hs;have HSL:=ag hsl;have EU:=ag hsn;clear h hs hsl hsn hi hz0 hz1 hz2 hj hy0 hy1 hy2 hk hx0 hx1 hx2;go_in;go_wp2_with fail;refine(U7 H.out).mono ?_;rintro e w1 ⟨z,rfl,hz0,hz1,hz2,hb1⟩;have HB1:=ag hb1;have HZ:=ag (And.intro hz0 hz1);have HZ2:=ag (show z<=262144->∀p∈ts,dP p.2<=262144 from fun h=>by simpa using hz2 h);clear hz0 hz1 hz2 hb1;go_wp2_with fail;refine(Nc (y:=z) (z:=(sc.length:Int)) (aj w1 _) HZ.out ⟨by omega,by have:=HSL.out;omega⟩).mono ?_;rintro e w2 ⟨r,rfl,hr,hb2⟩;have HB2:=ag (fe HB1.out (fe ((au _ _).alloc (aB _) _) hb2));clear hb2;cases r with
 |true=>
  clear hr;go_wp2_with fail;go_ret;exact⟨rfl,HB2.out⟩
 |false=>
  have HR:=ag (hr rfl);clear hr;have HT:=ag (HZ2.out HR.out.1);go_wp2_with fail;refine(Hq (H.out.below HB2.out) HT.out words (Rd.below HS.out HB2.out) (by have:=HR.out.2;omega) EU.out).mono ?_;rintro e w3 ⟨hb3,h3⟩;have HB3:=ag (fe HB2.out hb3);clear hb3;rcases h3 with rfl|⟨hok,ea,en,ls,eo,ec,st,ao,ac,ps,s,rfl,hse,hms,hrun,hps,xX⟩
  ·go_wp2_with fail;refine(OV _).mono ?_;rintro e w4 ⟨rfl,hb4⟩;have sN:=ag (fe HB3.out (fe ((au _ _).alloc (aB _) _) hb4));clear hb4;go_wp2_with fail;go_ret;exact⟨rfl,sN.out⟩
  ·have SA:=ag (show s.aU.length<=1048576 from Nat.le_trans (abq hrun) hok.stands.2);obtain⟨ht1,ht2,ht3⟩:=hok.told hrun;have hll:ls.length=ts.length:=by
    have:=congrArg List.length hms;simp only[List.length_map] at this;rw[this];exact ht1
   have aeH:=ag (show ∀(n:Nat) x,ls[n]? =some x->aaJ s.aU n ((ts.map rowsOf).getD n []).length x.out x.fin from fun n x hx=>by
    have h9:=congrArg (fun l=>l[n]?) hms;simp only[List.getElem?_map,hx,Option.map_some] at h9;cases h8:(vF words ts sc).1.aT[n]? with
    |none=>rw[h8] at h9;simp at h9
    |some t=>
     rw[h8] at h9;simp only[Option.map_some,bH,Prod.mk.injEq] at h9;rw[h9.1,h9.2];exact ht3 n t h8)
   have aeC:=ag ht2;have HPS:=ag hps;rw[hll] at hse;have XT:=ag hse;have aeJ:=ag xX;have xL:=ag hll;have ED:=ag hok.len;obtain⟨ne,hne⟩:∃n,n=(vF words ts sc).1.evs.length:=⟨_,rfl⟩;rw[<-hne];clear hne hse hms hrun hps xX ht1 ht2 ht3 hok;rw[hll];have Kr:Below w3.heap.size w3 (w3.alloc (.cells #[.slice ea ts.length en,.slice eo ne ec,.int .i64 st] 66)):=(au w3.heap.size w3).alloc (aB _) _;have ZQ:=ag (aj w3 (.cells #[.slice ea ts.length en,.slice eo ne ec,.int .i64 st] 66));have sN:=ag (fe HB3.out Kr);have HA4:=ag (aeJ.out.below Kr);have d0:(w3.alloc (.cells #[.slice ea ts.length en,.slice eo ne ec,.int .i64 st] 66)).cell? ⟨w3.heap.size,0,none⟩=some (.slice ea ts.length en):=af ZQ.out rfl;go_upto_region 8 with fail
   clear d0;generalize w3.alloc (.cells #[.slice ea ts.length en,.slice eo ne ec,.int .i64 st] 66)=w4 at ZQ sN HA4 Kr⊢;have r_:=ag (show Bb w4 (.slice ea ts.length en) ls from⟨Rd.below XT.out.rows Kr,fun s hs=>Rd.below (XT.out.each s hs) Kr⟩);clear Kr XT aeJ;go_wp2_with (at_make;refine nA _ rfl _ _ 72 rfl 3 i1 _ 1 [.int .i64 0] Tryz.underlying72 HI.out.1 HI.out.2.1 HI.out.2.2.1 rfl rfl (by decide) _ _ _ _ ts.length ts.length rfl rfl rfl rfl (aB _) (by rw[HI.out.2.2.2];have:=ED.out;omega) (by have:=ED.out;unfold maxLen;omega) ?_);intro w5 hg5 hs5 hb5;have qZ:=ag hg5;have pO:=ag (fe sN.out hb5);have aeL:=ag hb5;have X9:=ag hs5;clear hg5 hs5 hb5;go_wp2_with (at_make;refine nA _ rfl _ _ 73 rfl 51 i2 _ 1 [.slice none 0 0] Tryz.underlying73 HJ.out.1 HJ.out.2.1 HJ.out.2.2.1 rfl rfl (by decide) _ _ _ _ ts.length ts.length rfl rfl rfl rfl (aB _) (by rw[HJ.out.2.2.2];have:=ED.out;omega) (by have:=ED.out;unfold maxLen;omega) ?_);intro w6 hg6 hs6 hb6;have agZ:=ag (fe aeL.out hb6);have x8:=ag (fe pO.out hb6);have HA6:=ag (show w6.heap[w4.heap.size]? =some (.cells (nU ts.length (s.aU.take 0)).toArray 3 (0,0)) from by rw[blk hb6 qZ.out,List.take_zero,abX]);have HU6:=ag (show wU w6 w5.heap.size w6.heap.size ts.length (s.aU.take 0) (List.replicate ts.length (.slice none 0 0)) from by
    rw[List.take_zero];refine⟨by simp,by rw[hg6];simp,fun n v hv=>?_,fun n m v u g _ hv _ hg=>?_⟩
    ·rw[List.getElem?_replicate] at hv;split at hv
     ·cases hv;exact World.ownsRow_nil _ _ _ _
     ·cases hv
    ·rw[List.getElem?_replicate] at hv;split at hv
     ·cases hv;simp[Value.ownBlock] at hg
     ·cases hv)
   have rH:=ag (show w4.heap.size<w5.heap.size/\w5.heap.size<w6.heap.size from by have:=X9.out;omega);have Aq:=ag sN.out.size;clear hg6 hs6 hb6 qZ X9 pO aeL;go_wp2_with fail;go_loopw [13] (fun i wr=>∃(k:Nat) (vs:List Value),k<=ps.length/\i= .int .i64 (k:Int)/\Hid (wr.heap[w4.heap.size]? =some (.cells (nU ts.length (s.aU.take k)).toArray 3 (0,0)))/\Hid (wU wr w5.heap.size w6.heap.size ts.length (s.aU.take k) vs)/\Hid (Below w4.heap.size w4 wr)/\Hid (w6.heap.size<=wr.heap.size)) (fun i _=>ps.length - (intOf i).toNat)
   case atStart=>exact⟨0,_,Nat.zero_le _,rfl,HA6,HU6,agZ,ag (aB _)⟩
   case round=>
    obtain⟨k,vs,hk,rfl,HA,HU,qM,MG⟩:=hrel;have hpl:ps.length=s.aU.length:=by rw[<-HPS.out,List.length_map]
    by_cases hlt:k<ps.length
    ·obtain⟨p,hp⟩:=bE hlt;have hx:s.aU[k]? =some p.1:=by rw[<-HPS.out,List.getElem?_map,hp];rfl
     obtain⟨n,row,z,hn,Um,hrow,aaz,hwh⟩:=aeC.out k p.1 hx;obtain⟨t,ht⟩:=bE hn;have htl:=acg (HT.out t (bC ht));have hrs:((ts.map rowsOf).getD n [])=t.2.map Prod.snd:=by rw[List.getD_eq_getElem?_getD,List.getElem?_map,ht];rfl
     simp only[hrs] at hrow;obtain⟨c,hc⟩:∃c,vI (s.aU.take k) n=c:=⟨_,rfl⟩;rw[hc] at hrow;rw[List.getElem?_map] at hrow;cases hq:t.2[c]? with
     |none=>rw[hq] at hrow;simp at hrow
     |some q=>
     rw[hq] at hrow;simp only[Option.map_some,bH] at hrow;subst hrow;have hct:=(bu.1 hq).1;have hBw:=fe sN.out qM.out;have abY:=HA4.out.below qM.out;obtain⟨g0,o0,rfl,hg0,hc0⟩:=dH.at iJ abY.row hp;obtain⟨g1,o1,rfl,hg1,hc1⟩:=dH.at Gp (Rd.below H.out.rows hBw) ht;have hrows:=(H.out.each t (bC ht)).below hBw;obtain⟨ra,rc,SC⟩:=z8 hrows.rows;rw[SC] at hrows;obtain⟨g2,o2,rfl,hg2,hc2⟩:=dH.at Ky hrows.rows hq;obtain⟨qa,qc,hqv⟩:=z8 (hrows.each q (bC hq));have hrq:=hrows.each q (bC hq);rw[hqv] at hrq;obtain⟨da,dc,hdv⟩:=z8 (abY.evs p (bC hp));have hrd:=abY.evs p (bC hp);rw[hdv] at hrd;have Wz:=htl.2 q (bC hq);obtain⟨x,dv⟩:=p;simp only at Um aaz hwh hx hdv hrd;subst hdv;have hnl:¬((n:Int)>=ts.length):=by omega
     have hcl:¬((c:Int)>=t.2.length):=by omega
     have hN4:=ED.out;have hal:ps.length<=1048576:=by rw[hpl];exact SA.out
     have Fe:=ag hpl;clear hpl;have e0:wr.cell? ⟨g0,o0+k*8,none⟩=some (.int .i64 (n:Int)):=by have:=hc0 0 _ rfl;rw[Um] at this;simpa using this
     have a1:wr.cell? ⟨w4.heap.size,n,none⟩=some (.int .i64 (c:Int)):=af HA.out (by rw[List.getElem?_toArray,aa0 hn,hc]);have t1:wr.cell? ⟨g1,o1+n,none⟩=some (.slice (some ⟨g2,o2,none⟩) t.2.length rc):=by have:=hc1 0 _ rfl;rw[<-SC];simpa [Fy] using this
     have HFO:=ag (fun(wq:World) (hq:Below wr.heap.size wr wq)=>aaD (w:=wq) (x:=x) (Rd.below hrq hq) (Rd.below hrd hq) aaz (by have:=aaz.len;omega) (by omega));have HE:=ag (show wr.cell? ⟨g0,o0+k*8,none⟩=some (.int .i64 x.th)/\wr.cell? ⟨g0,o0+k*8+1,none⟩=some (.int .u8 x.kind)/\wr.cell? ⟨g0,o0+k*8+2,none⟩=some (.int .i64 x.dN)/\wr.cell? ⟨g0,o0+k*8+3,none⟩=some (.int .i64 x.fin)/\wr.cell? ⟨g0,o0+k*8+4,none⟩=some (.int .i64 x.clock)/\wr.cell? ⟨g0,o0+k*8+5,none⟩=some (.int .i64 x.place)/\wr.cell? ⟨g0,o0+k*8+6,none⟩=some (.bool x.writer)/\wr.cell? ⟨g0,o0+k*8+7,none⟩=some (.slice da x.done.length dc)/\wr.cell? ⟨g2,o2+c,none⟩=some (.slice qa q.2.length qc) from⟨hc0 0 _ rfl,hc0 1 _ rfl,hc0 2 _ rfl,hc0 3 _ rfl,hc0 4 _ rfl,hc0 5 _ rfl,hc0 6 _ rfl,hc0 7 _ rfl,by have:=hc2 0 _ rfl;rw[<-hqv];simpa [encR] using this⟩);have HWH:=ag hwh;have HXN:=ag Um;have Gv:=ag hx;have HCC:=ag hc;have Sv:=ag hn;have RV:=ag hlt;have HQL:=ag (And.intro hct htl.1);have HFS:=ag aaz.sum;have hw1:IntKind.i64.wrap ((k:Int)+1)=k+1:=IntWalk.i64_in _ (by omega);clear hp hx Um aaz hwh ht htl hrs hc hq hct hBw abY hg0 hc0 hg1 hc1 hrows SC hg2 hc2 hqv hrq hrd Wz hn;go_upto_region 14 with fail
     clear e0;go_quiet (fail)
     have HA1:=ag a1;have HT1:=ag t1;clear a1 t1;go_upto_region 16 with fail
     generalize hwd:wr.drewN _=wd;have hbd:Below wr.heap.size wr wd:=by rw[<-hwd];exact below_drewN (au _ _) _
     have HBD:=ag hbd;have cw:∀{a v},wr.cell? a=some v->wd.cell? a=some v:=fun h=>(hbd.cell (dW _ _ h)).trans h
     obtain⟨e0,e1,e2,e3,e4,e5,e6,e7,e8⟩:=HE.out;have y0:=fun t'=>ak (cw e0) t'
     have y1:=fun t'=>ak (cw e1) t'
     have y2:=fun t'=>ak (cw e2) t'
     have y3:=fun t'=>ak (cw e3) t'
     have y4:=fun t'=>ak (cw e4) t'
     have y5:=fun t'=>ak (cw e5) t'
     have y6:=fun t'=>ak (cw e6) t'
     have y7:=fun t'=>ak (cw e7) t'
     have r0:=fun t'=>ak (cw e8) t'
     have t0:=fun t'=>ak (cw HT1.out) t'
     have a0:=fun t'=>ak (cw HA1.out) t'
     clear e0 e1 e2 e3 e4 e5 e6 e7 e8 cw hbd hwd;refine bG (by kernel_rfl) (by kernel_rfl) ?_;repeat (go_big_quiet_step ((first|(go_at_call 24;exact kQ (HFO.out _ (fe HBD.out (uG wd _)))))))
     refine wpQuiet_nil ?_;intro wx hbx;have vP:=ag (fe HBD.out hbx);have HAX:=ag (blk vP.out HA.out);have FL:=ag (HU.out.below vP.out);have acj:=ag (qM.out.trans (vP.out.mono qM.out.size));have HWX:=ag (Nat.le_trans MG.out vP.out.size);have HEX:=ag (show wx.cell? ⟨g0,o0+k*8,none⟩=some (.int .i64 x.th)/\wx.cell? ⟨g0,o0+k*8+1,none⟩=some (.int .u8 x.kind) from⟨(vP.out.cell (dW _ _ HE.out.1)).trans HE.out.1,(vP.out.cell (dW _ _ HE.out.2.1)).trans HE.out.2.1⟩);clear hbx vP HBD HE HT1 HA1 HA HU qM MG HFO y0 y1 y2 y3 y4 y5 y6 y7 r0 t0 a0;obtain⟨x0,x1⟩:=HEX.out;by_cases hk1:x.kind=1
     ·have hdl:decide (x.done.length=q.2.length)=true:=by simpa using HWH.out hk1
      rw[hdl];rw[hk1] at x1;obtain⟨v,hv⟩:∃v,vs[n]? =some v:=bE (by rw[FL.out.len];exact Sv.out);have yK:=FL.out.own n v hv;obtain⟨io,ic,rfl⟩:=aS yK;have s0:wx.cell? ⟨w5.heap.size,n,none⟩=some (.slice io (iY (s.aU.take k) n).length ic):=af FL.out.blk (by rw[List.getElem?_toArray];exact hv);have Y7:=ag yK;have HV:=ag hv;clear yK hv;go_wp2_with (at_builtin;refine Hid.out ?_);have hlen:(iY (s.aU.take k) n).length<=1048576:=by
       rw[aav];unfold vI;have:=List.length_filter_le (Gl n) (s.aU.take k);have:=List.length_take_le k s.aU;have:=SA.out;omega
      refine dD _ rfl _ _ 51 rfl w6.heap.size 2 i3 _ 1 8 Tryz.underlying51 HK.out.1 HK.out.2.1 HK.out.2.2.1 HK.out.2.2.2 rfl (by decide) (.slice io (iY (s.aU.take k) n).length ic) (iY (s.aU.take k) n).length _ (by simp[Act.eval]) (aX Y7.out ((bz.refl (fun _=>False) wx).alloc _) (fun _ _=>id)) ⟨wx.heap.size,0,none⟩ 1 1 [.int .i64 z] (by simp[Act.eval]) rfl ?c1 ?c2 ?c3 ?c4 ?c5 ?_
      case c1=>exact iP (aj _ _)
      case c2=>intro u hu;simp at hu;subst hu;rfl
      case c3=>unfold maxLen;omega
      case c4=>omega
      case c5=>have:=HWX.out;simp;omega
      intro ao cp wA hown jh eU;have hcA:bz (fun q=>(Value.slice io (iY (s.aU.take k) n).length ic).ownBlock=some q) wx wA:=((bz.refl (fun q=>(Value.slice io (iY (s.aU.take k) n).length ic).ownBlock=some q) wx).alloc _).grown eU (fun q hq=>.inl hq);have e1:=(wV Gv.out n).2;have hic:Gl n x=true:=by simp[Gl,HXN.out,hk1]
      rw[if_pos hic,show Xq x.done=z from HFS.out] at e1;have e2:∀m,m≠n->Gl m x=false:=fun m hm=>by
       have:x.th≠(m:Int):=by rw[HXN.out];omega
       simp[Gl,this]
      have hpush:=FL.out.push (l':=s.aU.take (k+1)) (z:=z) rH.out.2 HV.out hcA hown (fun g hg=>(jh g hg).imp_right fun h=>by simp at h;omega) e1 (fun m hm=>by rw[(wV Gv.out m).2,e2 m hm];simp);have hb5:wA.heap[w5.heap.size]? =some (.cells vs.toArray 51 (0,0)):=dG hcA FL.out.blk (fun e=>by have:=(bO Y7.out e).1;have:=rH.out;omega);have hb4:wA.heap[w4.heap.size]? =some (.cells (nU ts.length (s.aU.take k)).toArray 3 (0,0)):=dG hcA HAX.out (fun e=>by have:=(bO Y7.out e).1;have:=rH.out;omega);have s1:wA.cell? ⟨w5.heap.size,n,none⟩=some (.slice io (iY (s.aU.take k) n).length ic):=af hb5 (by rw[List.getElem?_toArray];exact HV.out);have s2:wA.frozen? ⟨w5.heap.size,n,none⟩=false:=ah hb5;have pX:=ag hpush;have aaV:=ag (show(wA.setCell ⟨w5.heap.size,n,none⟩ (.slice ao ((iY (s.aU.take k) n).length+1) cp)).heap[w4.heap.size]? =some (.cells (nU ts.length (s.aU.take k)).toArray 3 (0,0)) from by rw[dm _ _ _ _ (by have:=rH.out;simp only;omega)];exact hb4);have vD:=ag (show Below w4.heap.size w4 (wA.setCell ⟨w5.heap.size,n,none⟩ (.slice ao ((iY (s.aU.take k) n).length+1) cp)) from(bz.below acj.out acj.out.size hcA (fun q hq=>by have:=(bO Y7.out hq).1;have:=rH.out;omega)).setCell (by have:=rH.out;simp only;omega) _);have HWA:=ag (show w6.heap.size<=(wA.setCell ⟨w5.heap.size,n,none⟩ (.slice ao ((iY (s.aU.take k) n).length+1) cp)).heap.size from by have:=hcA.size;have:=HWX.out;simp[World.setCell];omega);have HE2:=ag e2;have HIC:=ag hic;clear hown jh eU hcA e1 e2 hic hpush hb5 hb4;go_upto_region 21 with fail
      clear s0 s1 s2;generalize wA.setCell ⟨w5.heap.size,n,none⟩ (.slice ao ((iY (s.aU.take k) n).length+1) cp)=w7 at pX aaV vD HWA⊢;have a7:w7.cell? ⟨w4.heap.size,n,none⟩=some (.int .i64 (c:Int)):=af aaV.out (by rw[List.getElem?_toArray,aa0 Sv.out,HCC.out]);have f7:w7.frozen? ⟨w4.heap.size,n,none⟩=false:=ah aaV.out;have Wz:=HQL.out;have hw2:IntKind.i64.wrap ((c:Int)+1)=c+1:=IntWalk.i64_in _ (by omega);have e1:vI (s.aU.take (k+1)) n=c+1:=by rw[(wV Gv.out n).1,if_pos HIC.out,HCC.out]
      have HAY:=ag (show(w7.setCell ⟨w4.heap.size,n,none⟩ (.int .i64 ((c:Int)+1))).heap[w4.heap.size]? =some (.cells (nU ts.length (s.aU.take (k+1))).toArray 3 (0,0)) from by
       rw[ai (o:=n) (.int .i64 ((c:Int)+1)) aaV.out];have:=abZ (N:=ts.length) (n:=n) (l:=s.aU.take k) (l':=s.aU.take (k+1)) (fun m hm=>by rw[(wV Gv.out m).1,HE2.out m hm];simp);rw[e1] at this;rw[<-this];congr 2
       simp)
      have HPY:=ag (show wU (w7.setCell ⟨w4.heap.size,n,none⟩ (.int .i64 ((c:Int)+1))) w5.heap.size w6.heap.size ts.length (s.aU.take (k+1)) (vs.set n (.slice ao ((iY (s.aU.take k) n).length+1) cp)) from pX.out.keep (dm _ _ _ _ (by have:=rH.out;simp only;omega)) (fun g hg _=>dm _ _ _ _ (by have:=rH.out;simp only;omega)));have HBY:=ag (vD.out.setCell (p:=⟨w4.heap.size,n,none⟩) (aB _) (.int .i64 ((c:Int)+1)));have HWY:=ag (show w6.heap.size<=(w7.setCell ⟨w4.heap.size,n,none⟩ (.int .i64 ((c:Int)+1))).heap.size from by have:=HWA.out;simp[World.setCell];omega);clear e1 pX aaV vD HWA;go_wp2_with fail;exact⟨⟨k+1,_,by omega,by go_num,HAY,HPY,HBY,HWY⟩,by simp[intOf];omega⟩
     ·generalize decide (x.done.length=q.2.length)=bw;have q1:(x.kind==1)=false:=by simpa using hk1
      have hic:∀m,Gl m x=false:=fun m=>by simp[Gl,hk1]
      go_wp2_with fail;exact⟨⟨k+1,vs,by omega,by go_num,ag (by rw[abH (l:=s.aU.take k) fun m=>by rw[(wV Gv.out m).1,hic m];simp];exact HAX.out),ag (FL.out.same fun m=>by rw[(wV Gv.out m).2,hic m];simp),acj,HWX⟩,by simp[intOf];omega⟩
    ·obtain rfl:k=ps.length:=by omega
     have htk:s.aU.take ps.length=s.aU:=by rw[hpl,List.take_length]
     rw[htk] at HU;have hal:s.aU.length<=1048576:=SA.out;obtain⟨wE,rfl⟩:∃x,x=wr:=⟨_,rfl⟩;have hBw:=ag (fe sN.out qM.out);clear htk hlt HA hpl;go_wp2_with fail;go_loopw [18] (fun i wr=>∃n:Nat,n<=ts.length/\i= .int .i64 (n:Int)/\Hid (Below wE.heap.size wE wr)) (fun i _=>ts.length - (intOf i).toNat)
     case atStart=>exact⟨0,Nat.zero_le _,rfl,ag (au _ _)⟩
     case round=>
      obtain⟨n,hn,rfl,oD⟩:=hrel;have hN4:=ED.out;have hw1:IntKind.i64.wrap ((n:Int)+1)=n+1:=IntWalk.i64_in _ (by omega);by_cases hlt:n<ts.length
      ·obtain⟨t,ht⟩:=bE hlt;obtain⟨x,hx⟩:=bE (l:=ls) (k:=n) (by rw[xL.out];exact hlt);obtain⟨v,hv⟩:∃v,vs[n]? =some v:=bE (by rw[HU.out.len];exact hlt);have yK:=HU.out.own n v hv;obtain⟨io,ic,rfl⟩:=aS yK;obtain⟨hto,Yd,htd⟩:=aeH.out n x hx;have hrs:((ts.map rowsOf).getD n []).length=t.2.length:=by rw[List.getD_eq_getElem?_getD,List.getElem?_map,ht];simp[rowsOf]
       rw[hrs] at htd;have hb4:Below w4.heap.size w4 wr:=qM.out.trans (oD.out.mono qM.out.size);have hbw:=fe hBw.out oD.out;have hsl:(iY s.aU n).length<=1048576:=by
        rw[aav];unfold vI;have:=List.length_filter_le (Gl n) s.aU;omega
       have hpre:x.out<+:iY s.aU n:=by
        rcases hto with h|⟨z,h⟩
        ·rw[h];exact List.prefix_refl _
        ·rw[h];exact List.prefix_append _ _
       have hle:x.out.length<=(iY s.aU n).length:=hpre.length_le;have hle2:(iY s.aU n).length<=x.out.length+1:=by
        rcases hto with h|⟨z,h⟩
        ·rw[h];omega
        ·rw[h];simp
       have hso:Rd wr 1 (.slice io (iY s.aU n).length ic) (iY s.aU n).length ((iY s.aU n).flatMap encI):=Rd.below (Rd.gu yK) oD.out;obtain⟨oa,oc,hov⟩:=z8 (r_.out.each x (bC hx));have hox:=Rd.below (r_.out.each x (bC hx)) hb4;rw[hov] at hox;obtain⟨g0,o0,rfl,hg0,hc0⟩:=dH.at zm (Rd.below r_.out.rows hb4) hx;obtain⟨g1,o1,rfl,hg1,hc1⟩:=dH.at Gp (Rd.below H.out.rows hbw) ht;have hrows:=(H.out.each t (bC ht)).below hbw;obtain⟨ra,rc,SC⟩:=z8 hrows.rows;have e0:wr.cell? ⟨g0,o0+n*2,none⟩=some (.slice oa x.out.length oc):=by have:=hc0 0 _ rfl;rw[hov] at this;simpa using this
       have e1:wr.cell? ⟨g0,o0+n*2+1,none⟩=some (.int .u8 x.fin):=hc0 1 _ rfl;have t0:wr.cell? ⟨g1,o1+n,none⟩=some (.slice ra t.2.length rc):=by have:=hc1 0 _ rfl;rw[<-SC];simpa [Fy] using this
       have d0:wr.cell? ⟨w3.heap.size,0,none⟩=some (.slice (some ⟨g0,o0,none⟩) ts.length en):=af (blk hb4 ZQ.out) rfl;have s0:wr.cell? ⟨w5.heap.size,n,none⟩=some (.slice io (iY s.aU n).length ic):=af (blk oD.out HU.out.blk) (by rw[List.getElem?_toArray];exact hv);have c1:¬((x.out.length:Int)>(iY s.aU n).length):=by omega
       have c2:¬((x.out.length:Int)+1<(iY s.aU n).length):=by omega
       have hic:(iY s.aU n).length<=ic:=by
        obtain⟨-,a',c',e,h2, -⟩:=hso;simp only[Value.slice.injEq,true_and] at e;rw[e.2];exact h2
       have c3:(x.out.length:Int)<=ic:=by omega
       have hw2:IntKind.i64.wrap ((x.out.length:Int)+1)=x.out.length+1:=IntWalk.i64_in _ (by omega);have HSO:=ag hso;have agP:=ag hpre;have TZ:=ag hox;have HTF:=ag (And.intro Yd htd);clear hso hpre hox Yd htd hto hx hv yK hov hrs hb4 hg0 hc0 hg1 hc1 hrows SC ht;go_upto_region 26 with fail
       go_wp2_with fail;refine(wB (l:=x.out) TZ.out (aaF ko HSO.out agP.out rfl) (by omega)).mono ?_;rintro e wz ⟨rfl,hbz⟩;have f1:wz.cell? ⟨g0,o0+n*2+1,none⟩=some (.int .u8 x.fin):=(hbz.cell (dW _ _ e1)).trans e1;have f2:wz.cell? ⟨g1,o1+n,none⟩=some (.slice ra t.2.length rc):=(hbz.cell (dW _ _ t0)).trans t0;have f3:wz.cell? ⟨w3.heap.size,0,none⟩=some (.slice (some ⟨g0,o0,none⟩) ts.length en):=(hbz.cell (dW _ _ d0)).trans d0;have f4:wz.cell? ⟨w5.heap.size,n,none⟩=some (.slice io (iY s.aU n).length ic):=(hbz.cell (dW _ _ s0)).trans s0;have QO:=ag (oD.out.trans (hbz.mono oD.out.size));clear e0 e1 t0 d0 s0 hbz hic c3;go_upto_region 29 with fail
       obtain⟨Yd,htd⟩:=HTF.out;rcases Yd with h0|h0|h0
       ·rw[h0];go_wp2_with fail;exact⟨⟨n+1,by omega,by go_num,QO⟩,by simp[intOf];omega⟩
       ·have q1:((x.out.length:Int)==(t.2.length:Int))=true:=by rw[htd h0];simp
        have q2:((x.out.length:Int) !=(t.2.length:Int))=false:=by rw[htd h0];simp
        rw[h0];clear htd;go_wp2_with fail;exact⟨⟨n+1,by omega,by go_num,QO⟩,by simp[intOf];omega⟩
       ·rw[h0];go_wp2_with fail;exact⟨⟨n+1,by omega,by go_num,QO⟩,by simp[intOf];omega⟩
      ·obtain rfl:n=ts.length:=by omega
       have HBF:=ag (fe hBw.out oD.out);clear hlt;go_wp2_with fail;refine(OV _).mono ?_;rintro e wz ⟨rfl,hbz⟩;have QO:=ag (fe HBF.out hbz);clear hbz;go_wp2_with fail;go_ret;exact⟨rfl,QO.out⟩
end Go.Proofs.YtopdcjimpdalpaaGreat

import Derived.Test.YtopdcjimpdalpaaGreatR36
import Derived.Deep.RegionHeld3
namespace Go.Proofs.YtopdcjimpdalpaaGreat
open Go.RowKit
set_option linter.all false
set_option maxHeartbeats 2000000
set_option maxRecDepth 100000
abbrev NZ (own:Nat->Nat):Nat->Prop:=fun k=>own k≠0
variable {w w':World} {base b:Nat} {own own':Nat->Nat} {mm:MM} {xs:List RX} {mv tv ev:Value} {tb cap n:Nat} {x:RX}
theorem dJ.yH {w1:World} {dM:Nat->Nat} {Gs j5:MM} {Ec:List RX} {mv1 ev1:Value} {y:RX} {nx:Int} (h:iI w1 base b dM Gs Ec mv1 (.slice (some ⟨tb,0,none⟩) Ec.length cap) ev1) (hy:Ec[n]? =some y)
  (ho:∀k,k<w.heap.size->dM k=own k) (hc:bz (NZ own) w w1) (he:Gs.put n {y.th with at_:=nx}=j5):dJ w base b own j5 (w1.setCell ⟨tb,n*13+9,none⟩ (.int .i64 nx)):=by
 rw[<-he];exact dJ.at_ h hy ho hc
theorem dJ.after {w1:World} {j5:MM} (hb:Below w.heap.size w w1) (h:dJ w1 base b own j5 w') (hf:∀k,w.heap.size<=k->own k=0):dJ w base b own j5 w':=by
 obtain⟨⟨own',xs,mv,tv,ev,hm,ho⟩,hc⟩:=h;exact⟨⟨own',xs,mv,tv,ev,hm,fun k hk=>ho k (Nat.lt_of_lt_of_le hk hb.size)⟩,bz.dY (bz.of_below hb) hc (fun k _ e=>e)⟩
theorem bz.cell {T:Nat->Prop} {a c:World} {p:Addr} {v:Value} (h:bz T a c) (hv:a.cell? p=some v) (hn:¬T p.block):c.cell? p=some v:=(World.cell?_of_block (h.block _ (dW _ _ hv) hn)).trans hv
theorem RF:(Tryz.prog.info? 99).map (fun i=>(i.zero,i.size,i.bytes))=some (some (.agg #[.int .i64 0,.int .i64 0]),2,16):=by kernel_rfl
theorem XD (p:Int×Int):∀u∈dQ p,u.oneCell'=true:=by
 intro u hu;simp[dQ] at hu;rcases hu with rfl|rfl<;>rfl
variable {bD num:Int} {ra rb rc mb mc:Nat}
abbrev Mo (w:World) (base b:Nat) (own:Nat->Nat) (mm:MM) (xs:List RX) (mv ev:Value) (tb cap:Nat):Prop:=iI w base b own mm xs mv (.slice (some ⟨tb,0,none⟩) xs.length cap) ev
def yx (w:World) (base b:Nat) (own:Nat->Nat) (tb n:Nat) (K bD:Int) (ra rb rc:Nat) (num a:Int) (mm:MM):Prop:=
 Calls Tryz.prog 39 #[.pointer (some ⟨b,0,none⟩),.int .i64 (n:Int),.pointer (some ⟨tb,n*13,none⟩),.agg #[.int .u8 K,.int .u8 bD,.int .u8 (ra:Int),.int .u8 (rb:Int),.int .u8 (rc:Int),.int .i64 num],.int .i64 a] w fun r w'=>r= .returned (.tuple #[])/\dJ w base b own mm w'
def Lu (w:World) (base b:Nat) (own:Nat->Nat) (mm:MM) (xs:List RX) (mv ev:Value) (tb cap n:Nat) (x:RX) (ra rb rc:Nat):Prop:=
 Mo w base b own mm xs mv ev tb cap/\xs[n]? =some x/\ra<8/\rb<8/\rc<8/\0<=x.th.at_/\x.th.at_<=262144
theorem rq (p:Lu w base b own mm xs mv ev tb cap n x ra rb rc) (K bD num:Int) {w0:World} (e:w.alloc (.cells #[.int .u8 K,.int .u8 bD,.int .u8 (ra:Int),.int .u8 (rb:Int),.int .u8 (rc:Int),.int .i64 num] 107)=w0):
  QT w w0 tb n x.th bD num ra rb rc/\w0.cell? ⟨w.heap.size,0,none⟩=some (.int .u8 K)/\w0.frozen? ⟨tb,n*13+9,none⟩=false/\(ra:Int)<8/\(rb:Int)<8/\(rc:Int)<8/\n<xs.length/\IntKind.i64.wrap (x.th.at_+1)=x.th.at_+1/\¬w.heap.size=tb/\Hid (Mo w0 base b own mm xs mv ev tb cap)/\Hid (Below w.heap.size w w0)/\
  Hid (xs[n]? =some x)/\Hid (Mo w base b own mm xs mv ev tb cap)/\Hid (own tb=3)/\ra<8/\rb<8/\rc<8:=by
 obtain⟨h,hx,hra,hrb,hrc,hat⟩:=p;subst e;have hb0:=(au w.heap.size w).alloc (aB _) (.cells #[.int .u8 K,.int .u8 bD,.int .u8 (ra:Int),.int .u8 (rb:Int),.int .u8 (rc:Int),.int .i64 num] 107);have h0:=iI.below h hb0;have gQ:=aj w (.cells #[.int .u8 K,.int .u8 bD,.int .u8 (ra:Int),.int .u8 (rb:Int),.int .u8 (rc:Int),.int .i64 num] 107);have hn:n<xs.length:=(bu.1 hx).1;have fT:=h0.free (tb:=tb) (by omega:0<xs.length);have hr:∀r,r<8->(w.alloc (.cells #[.int .u8 K,.int .u8 bD,.int .u8 (ra:Int),.int .u8 (rb:Int),.int .u8 (rc:Int),.int .i64 num] 107)).cell? ⟨tb,n*13+1+r,none⟩=some (.int .i64 (x.th.reg r)):=fun r h=>by
  rw[Nat.add_assoc];exact h0.cell hx _ _ (wL x r h)
 exact⟨⟨af gQ rfl,af gQ rfl,af gQ rfl,af gQ rfl,af gQ rfl,hr _ hra,hr _ hrb,hr _ hrc,h0.cell hx 9 _ rfl,by simp,fT _,fT _⟩,af gQ rfl,fT _,
  by omega,by omega,by omega,hn,IntWalk.i64_in _ (by omega),(by have:=(bO h.aT (g:=tb) rfl).2;omega),h0,hb0,hx,h,h.fK tb rfl,hra,hrb,hrc⟩
theorem F7 {w0:World} {tv:Value} (h0:Hid (iI w0 base b own mm xs (.slice (some ⟨mb,0,none⟩) mm.mem.length mc) tv ev)) {a:Nat} (ha:a<mm.mem.length):∃M0,w0.cell? ⟨b,0,none⟩=some (.slice (some ⟨mb,0,none⟩) mm.mem.length mc)/\
  w0.cell? ⟨mb,a,none⟩=some (.int .i64 M0)/\w0.frozen? ⟨mb,a,none⟩=false/\Hid (mm.at (a:Int)=M0):=⟨mm.mem.getD a 0,h0.out.iN 0 _ rfl,h0.out.Be ha,h0.out.C_ (by omega:0<mm.mem.length) a,ag (show mm.at (a:Int)=mm.mem.getD a 0 from rfl)⟩
theorem LH {w1:World} {Gs:MM} (HX:Hid (xs[n]? =some x)) (H3:Hid (own tb=3)) (h1:Mo w1 base b own Gs xs mv ev tb cap) (hc:bz (NZ own) w w1) {r:Nat} (hr:r<8) (v:Int):
  Hid (Mo (w1.setCell ⟨tb,n*13+1+r,none⟩ (.int .i64 v)) base b own (Gs.put n {x.th with reg:=upd x.th.reg r v}) (xs.set n {x with th:={x.th with reg:=upd x.th.reg r v}}) mv ev tb cap)/\
  Hid (bz (NZ own) w (w1.setCell ⟨tb,n*13+1+r,none⟩ (.int .i64 v)))/\(w1.setCell ⟨tb,n*13+1+r,none⟩ (.int .i64 v)).cell? ⟨tb,n*13+9,none⟩=some (.int .i64 x.th.at_)/\(w1.setCell ⟨tb,n*13+1+r,none⟩ (.int .i64 v)).frozen? ⟨tb,n*13+9,none⟩=false:=by
 have h2:=iI.aW h1 HX.out {x with th:={x.th with reg:=upd x.th.reg r v}} (1+r) (.int .i64 v) (by omega) (Ku x v r hr) rfl rfl rfl rfl rfl rfl;rw[<-Nat.add_assoc] at h2;exact⟨h2,bz.dY hc ((bz.refl (fun k=>k=tb) _).setCell (p:=⟨tb,_,none⟩) (.inl rfl) _) (fun k _ e=>by rw[e];show own tb≠0;rw[H3.out];decide),h2.cell (bN HX.out _) 9 _ rfl,h2.free (by rw[List.length_set];have:=(bu.1 HX.out).1;omega) _⟩
theorem FP {w1:World} {Gs:MM} (HX:Hid (xs[n]? =some x)) (H3:Hid (own tb=3)) (h1:Mo w1 base b own Gs xs mv ev tb cap) (hc:bz (NZ own) w w1) {r:Nat} (hr:r<8) (v:Int):
  Hid (Mo (w1.setCell ⟨tb,n*13+1+r,none⟩ (.int .i64 v)).drew base b own (Gs.put n {x.th with reg:=upd x.th.reg r v}) (xs.set n {x with th:={x.th with reg:=upd x.th.reg r v}}) mv ev tb cap)/\
  Hid (bz (NZ own) w (w1.setCell ⟨tb,n*13+1+r,none⟩ (.int .i64 v)).drew)/\(w1.setCell ⟨tb,n*13+1+r,none⟩ (.int .i64 v)).drew.cell? ⟨tb,n*13+9,none⟩=some (.int .i64 x.th.at_)/\(w1.setCell ⟨tb,n*13+1+r,none⟩ (.int .i64 v)).drew.frozen? ⟨tb,n*13+9,none⟩=false:=
 have q:=LH HX H3 h1 hc hr v
 ⟨q.1.out.drew,q.2.1.out.drew,q.2.2⟩
theorem Vw {w1:World} {u:Value} (H:Hid (Mo w base b own mm xs (.slice (some ⟨mb,0,none⟩) mm.mem.length mc) ev tb cap)) (h1:Mo w1 base b own mm xs (.slice (some ⟨mb,0,none⟩) mm.mem.length mc) ev tb cap) (hc:bz (NZ own) w w1) {a:Nat} (ha:a<mm.mem.length) (v:Int) (d:w1.cell? ⟨w.heap.size,3,none⟩=some u):
  ∃w2,(w1.setCell ⟨mb,a,none⟩ (.int .i64 v)).drew=w2/\Hid (Mo w2 base b own {mm with mem:=mm.mem.set a v} xs (.slice (some ⟨mb,0,none⟩) mm.mem.length mc) ev tb cap)/\Hid (bz (NZ own) w w2)/\w2.cell? ⟨w.heap.size,3,none⟩=some u:=
 ⟨_,rfl,(iI.word h1 ha v).drew,bz.dY hc (((bz.refl (fun k=>k=mb) _).setCell (p:=⟨mb,a,none⟩) (.inl rfl) _).drew) (fun k _ e=>by rw[e];show own mb≠0;rw[H.out.memT mb rfl];decide),Bw d (by show ¬w.heap.size=mb;have:=(bO H.out.mem (g:=mb) rfl).2;omega)⟩
theorem aaT {w1:World} {Gs:MM} {ev:Value} (HX:Hid (xs[n]? =some x)) (h1:Hid (Mo w1 base b own Gs xs mv ev tb cap)) {r:Nat} (hr:r<8):
  w1.cell? ⟨tb,n*13+1+r,none⟩=some (.int .i64 (x.th.reg r))/\w1.frozen? ⟨tb,n*13+1+r,none⟩=false:=by
 have q2:=h1.out.cell HX.out (1+r) _ (wL x r hr);rw[<-Nat.add_assoc] at q2;exact⟨q2,h1.out.free (by have:=(bu.1 HX.out).1;omega) _⟩
theorem SI {w0:World} (H0:Hid (Mo w0 base b own mm xs mv ev tb cap)) (HB:Hid (Below w.heap.size w w0)) (HP:Hid (QT w w0 tb n x.th bD num ra rb rc)) (nq:Nat):
  ∃w1,w0.drewN nq=w1/\Hid (Mo w1 base b own mm xs mv ev tb cap)/\Hid (Below w.heap.size w w1)/\QT w w1 tb n x.th bD num ra rb rc:=⟨_,rfl,H0.out.drewN nq,below_drewN HB.out nq,HP.out⟩
theorem aaq {w1 w2:World} {dM jO:Nat->Nat} {mm2:MM} {ys:List RX} {y:RX} {Jv:Value} (hy:ys[n]? =some y) (hn:0<ys.length) (hm:Mo w2 base b jO mm2 ys mv Jv tb cap) (hc:bz (NZ own) w w1) (h:bz (fun k=>dM k=1\/dM k=4) w1 w2) (ho:∀k,k<w.heap.size->dM k=own k) (ho2:∀k,k<w1.heap.size->jO k=dM k):
  w2.cell? ⟨tb,n*13+9,none⟩=some (.int .i64 y.th.at_)/\w2.frozen? ⟨tb,n*13+9,none⟩=false/\Hid (Mo w2 base b jO mm2 ys mv Jv tb cap)/\Hid (∀k,k<w.heap.size->jO k=own k)/\Hid (bz (NZ own) w w2):=
 ⟨hm.cell hy 9 _ rfl,hm.free hn _,hm,fun k hk=>(ho2 k (Nat.lt_of_lt_of_le hk hc.size)).trans (ho k hk),bz.dY (S:=NZ own) hc h (fun k hk e=>by
  have h1:=ho k hk;show own k≠0;rw[<-h1];rcases e with e|e<;>rw[e]<;>decide)⟩
theorem XE (p:Lu w base b own mm xs mv ev tb cap n x ra rb rc) (a:Int):yx w base b own tb n 1 bD ra rb rc num a (mm.act n x.th ⟨1,bD,ra,rb,rc,num⟩ a):=by
 obtain⟨hp,d0,f9,yT,yX,zU,hn,hw1,hsz,H0,HB,HX,H,H3,hra,hrb,hrc⟩:=rq p 1 bD num rfl;have HP:=ag hp;obtain⟨d1,d2,d3,d4,d5,rA,rB,rC,qm,hws,fA,fB⟩:=hp;clear p;unfold yx;go_in;go_wp2_with fail;try generalize w.alloc (rZ 1 bD ra rb rc num)=w0 at*
 try go_region
 all_goals (
  obtain⟨H2,nZ,e9,g9⟩:=FP HX H3 H0.out (bz.of_below HB.out) hra (num);clear rA rB rC qm fA fB f9 d0 d1 d2 d3 d4 d5;go_wp2_with fail;go_end0)
 exact⟨rfl,dJ.yH H2.out (bN HX.out _) (fun _ _=>rfl) nZ.out (by simp[MM.act,MM.zg,MT.goes])⟩
theorem VW (p:Lu w base b own mm xs mv ev tb cap n x ra rb rc) (a:Int):yx w base b own tb n 2 bD ra rb rc num a (mm.act n x.th ⟨2,bD,ra,rb,rc,num⟩ a):=by
 obtain⟨hp,d0,f9,yT,yX,zU,hn,hw1,hsz,H0,HB,HX,H,H3,hra,hrb,hrc⟩:=rq p 2 bD num rfl;have HP:=ag hp;obtain⟨d1,d2,d3,d4,d5,rA,rB,rC,qm,hws,fA,fB⟩:=hp;clear p;unfold yx;go_in;go_wp2_with fail;try generalize w.alloc (rZ 2 bD ra rb rc num)=w0 at*
 try go_region
 all_goals (
  obtain⟨H2,nZ,e9,g9⟩:=FP HX H3 H0.out (bz.of_below HB.out) hra (x.th.reg rb);clear rA rB rC qm fA fB f9 d0 d1 d2 d3 d4 d5;go_wp2_with fail;go_end0)
 exact⟨rfl,dJ.yH H2.out (bN HX.out _) (fun _ _=>rfl) nZ.out (by simp[MM.act,MM.zg,MT.goes,MT.r])⟩
theorem SH (p:Lu w base b own mm xs mv ev tb cap n x ra rb rc) (a:Int) (hj:0<=num/\num<=262144):yx w base b own tb n 6 bD ra rb rc num a (mm.act n x.th ⟨6,bD,ra,rb,rc,num⟩ a):=by
 obtain⟨hp,d0,f9,yT,yX,zU,hn,hw1,hsz,H0,HB,HX,H,H3,hra,hrb,hrc⟩:=rq p 6 bD num rfl;have HP:=ag hp;obtain⟨d1,d2,d3,d4,d5,rA,rB,rC,qm,hws,fA,fB⟩:=hp;clear p;unfold yx;go_in;go_wp2_with fail;try generalize w.alloc (rZ 6 bD ra rb rc num)=w0 at*
 go_end0;exact⟨rfl,dJ.yH H0.out HX.out (fun _ _=>rfl) (bz.of_below HB.out) (by simp[MM.act])⟩
theorem Rh (p:Lu w base b own mm xs mv ev tb cap n x ra rb rc) (a:Int):yx w base b own tb n 10 bD ra rb rc num a (mm.act n x.th ⟨10,bD,ra,rb,rc,num⟩ a):=by
 obtain⟨hp,d0,f9,yT,yX,zU,hn,hw1,hsz,H0,HB,HX,H,H3,hra,hrb,hrc⟩:=rq p 10 bD num rfl;have HP:=ag hp;obtain⟨d1,d2,d3,d4,d5,rA,rB,rC,qm,hws,fA,fB⟩:=hp;clear p;unfold yx;go_in;go_wp2_with fail;try generalize w.alloc (rZ 10 bD ra rb rc num)=w0 at*
 go_end0;exact⟨rfl,dJ.yH H0.out HX.out (fun _ _=>rfl) (bz.of_below HB.out) (by simp[MM.act,MT.next])⟩
theorem Wo (p:Lu w base b own mm xs mv ev tb cap n x ra rb rc) (a:Int) (hj:0<=num/\num<=262144):yx w base b own tb n 7 bD ra rb rc num a (mm.act n x.th ⟨7,bD,ra,rb,rc,num⟩ a):=by
 obtain⟨hp,d0,f9,yT,yX,zU,hn,hw1,hsz,H0,HB,HX,H,H3,hra,hrb,hrc⟩:=rq p 7 bD num rfl;have HP:=ag hp;obtain⟨d1,d2,d3,d4,d5,rA,rB,rC,qm,hws,fA,fB⟩:=hp;clear p;by_cases hz:x.th.reg ra=0
 ·rw[hz] at rA;have HZ:=ag hz;clear hz;unfold yx;go_in;go_wp2_with fail;try generalize w.alloc (rZ 7 bD ra rb rc num)=w0 at*
  go_quiet (fail)
  go_wp2_with fail;go_end0;exact⟨rfl,dJ.yH (iI.drewN H0.out _) HX.out (fun _ _=>rfl) (bz.of_below (below_drewN HB.out _)) (by simp[MM.act,MT.r,HZ.out])⟩
 ·have hz1:(x.th.reg ra==0)=false:=by rw[cz];exact hz
  have HZ:=ag hz;clear hz;unfold yx;go_in;go_wp2_with fail;try generalize w.alloc (rZ 7 bD ra rb rc num)=w0 at*
  go_quiet (fail)
  go_wp2_with fail;go_end0;exact⟨rfl,dJ.yH (iI.drewN H0.out _) HX.out (fun _ _=>rfl) (bz.of_below (below_drewN HB.out _)) (by simp[MM.act,MT.r,HZ.out])⟩
theorem TG (p:Lu w base b own mm xs mv ev tb cap n x ra rb rc) (a:Int) (EY:2<=num/\num<=8) (hev:mm.evs.length<2000000000) (h4:xs.length<=4):yx w base b own tb n 13 bD ra rb rc num a (mm.act n x.th ⟨13,bD,ra,rb,rc,num⟩ a):=by
 obtain⟨hp,d0,f9,yT,yX,zU,hn,hw1,hsz,H0,HB,HX,H,H3,hra,hrb,hrc⟩:=rq p 13 bD num rfl;have HP:=ag hp;obtain⟨d1,d2,d3,d4,d5,rA,rB,rC,qm,hws,fA,fB⟩:=hp;have eN:IntKind.u8.wrap num=num:=by rw[IntKind.wrap_u8];omega
 have HE:=ag hev;have H4:=ag h4;clear hev h4;clear p;unfold yx;go_in;go_wp2_with fail;try generalize w.alloc (rZ 13 bD ra rb rc num)=w0 at*
 refine(wM H0.out HX.out HE.out H4.out num (by omega)).mono ?_;rintro r w1 ⟨rfl,hg⟩;have HG:=ag hg;clear hg;go_wp2_with fail;try simp only[Exit.inBlock,Exit.then]
 refine bodyPost_ret (results_none rfl _ _ _) rfl ?_;exact⟨rfl,by have:=dJ.after HB.out HG.out (fun k hk=>H.out.fresh k hk);simpa [MM.act] using this⟩
theorem VH (p:Lu w base b own mm xs mv ev tb cap n x ra rb rc) (a:Int) (hev:mm.evs.length<2000000000) (h4:xs.length<=4):yx w base b own tb n 14 bD ra rb rc num a (mm.act n x.th ⟨14,bD,ra,rb,rc,num⟩ a):=by
 obtain⟨hp,d0,f9,yT,yX,zU,hn,hw1,hsz,H0,HB,HX,H,H3,hra,hrb,hrc⟩:=rq p 14 bD num rfl;have HP:=ag hp;obtain⟨d1,d2,d3,d4,d5,rA,rB,rC,qm,hws,fA,fB⟩:=hp;have HE:=ag hev;have H4:=ag h4;clear hev h4;clear p;unfold yx;go_in;go_wp2_with fail;try generalize w.alloc (rZ 14 bD ra rb rc num)=w0 at*
 refine(wM H0.out HX.out HE.out H4.out 1 (by omega)).mono ?_;rintro r w1 ⟨rfl,hg⟩;have HG:=ag hg;clear hg;go_wp2_with fail;try simp only[Exit.inBlock,Exit.then]
 refine bodyPost_ret (results_none rfl _ _ _) rfl ?_;exact⟨rfl,by have:=dJ.after HB.out HG.out (fun k hk=>H.out.fresh k hk);simpa [MM.act] using this⟩
theorem Uh (p:Lu w base b own mm xs mv ev tb cap n x ra rb rc) (a:Int) (EY:1<=num/\num<=8) (hev:mm.evs.length<2000000000):yx w base b own tb n 12 bD ra rb rc num a (mm.act n x.th ⟨12,bD,ra,rb,rc,num⟩ a):=by
 obtain⟨hp,d0,f9,yT,yX,zU,hn,hw1,hsz,H0,HB,HX,H,H3,hra,hrb,hrc⟩:=rq p 12 bD num rfl;have HP:=ag hp;obtain⟨d1,d2,d3,d4,d5,rA,rB,rC,qm,hws,fA,fB⟩:=hp;have eN:IntKind.u8.wrap num=num:=by rw[IntKind.wrap_u8];omega
 have HE:=ag hev;have Z6:=ag (H.out.fresh _ (aB _));clear hev;clear p;unfold yx;go_in;go_wp2_with fail;try generalize w.alloc (rZ 12 bD ra rb rc num)=w0 at*
 clear d0 d1 d4 rC qm fA fB f9;go_region_held3 (fun w'=>w'.cell? ⟨w.heap.size,5,none⟩=some (.int .i64 num)/\w'.cell? ⟨w.heap.size,2,none⟩=some (.int .u8 (ra:Int))/\w'.cell? ⟨w.heap.size,3,none⟩=some (.int .u8 (rb:Int))/\w'.cell? ⟨tb,n*13+1+ra,none⟩=some (.int .i64 (x.th.reg ra))/\w'.cell? ⟨tb,n*13+1+rb,none⟩=some (.int .i64 (x.th.reg rb))) (first|exact⟨d5,d2,d3,rA,rB⟩|exact⟨(VT.out.cell d5 (by show ¬(own w.heap.size=1\/own w.heap.size=4);rw[Z6.out];decide)),(VT.out.cell d2 (by show ¬(own w.heap.size=1\/own w.heap.size=4);rw[Z6.out];decide)),(VT.out.cell d3 (by show ¬(own w.heap.size=1\/own w.heap.size=4);rw[Z6.out];decide)),(VT.out.cell rA (by show ¬(own tb=1\/own tb=4);rw[H3.out];decide)),(VT.out.cell rB (by show ¬(own tb=1\/own tb=4);rw[H3.out];decide))⟩) (first|(go_at_call 71;refine(uj H0.out.drew HE.out n num (x.th.reg ra) (x.th.reg rb)).mono ?_;rintro e w1 ⟨rfl,hp⟩;have HP:=ag hp;have VT:=ag hp.2;clear hp;dsimp only))
 obtain⟨⟨own',ev',hm,ho⟩,hc⟩:=HP.out;obtain⟨e9,g9,H2,HO,nZ⟩:=aaq HX.out (by omega) hm (bz.of_below HB.out).drew hc (fun _ _=>rfl) ho;clear hm ho hc d5 d2 d3 rA rB;go_wp2_with fail;go_end0;exact⟨rfl,dJ.yH H2.out (HX.out) HO.out nZ.out (by simp[MM.act,MM.put,MM.tell,MT.next,MT.r])⟩
theorem U9 (p:Lu w base b own mm xs mv ev tb cap n x ra rb rc) {a:Nat} (ha:a<mm.mem.length) (hw:x.th.wait.length<=64) (hok:∀c∈x.th.wait,0<=c.1/\c.1<262144):yx w base b own tb n 4 bD ra rb rc num (a:Int) (mm.act n x.th ⟨4,bD,ra,rb,rc,num⟩ (a:Int)):=by
 obtain⟨mb,mc,rfl,hmb⟩:=p.1.qA (by omega);obtain⟨hp,d0,f9,yT,yX,zU,hn,hw1,hsz,H0,HB,HX,H,H3,hra,hrb,hrc⟩:=rq p 4 bD num rfl;have HP:=ag hp;obtain⟨d1,d2,d3,d4,d5,rA,rB,rC,qm,hws,fA,fB⟩:=hp;obtain⟨M0,c0,cM,fM,FO⟩:=F7 H0 ha;have HW:=ag hw;have tF:=ag hok;have TR:=ag ha;clear hw hok;clear p;unfold yx;go_in;go_wp2_with fail;try generalize w.alloc (rZ 4 bD ra rb rc num)=w0 at*
 clear d1 d3 d4 d5 rB rC qm c0 cM fM f9 fB;go_region_held3 (fun w'=>w'.cell? ⟨w.heap.size,2,none⟩=some (.int .u8 (ra:Int))) (first|exact d2|exact(World.cell?_of_block (dm _ _ _ _ hsz)).trans d2) (first|(go_at_call 73;refine(F_ H0.out.drew HX.out HW.out TR.out tF.out).mono ?_;rintro r w1 ⟨rfl,d,rfl⟩;have H1:=ag (H0.out.drewN (1+d));have HB1:=ag (below_drewN HB.out (1+d));dsimp only))
 obtain⟨H2,nZ,e9,g9⟩:=LH HX H3 H1.out (bz.of_below HB1.out) hra (mm.found x.th (a:Int));go_wp2_with fail;go_end0;exact⟨rfl,dJ.yH H2.out (bN HX.out _) (fun _ _=>rfl) nZ.out (by simp[MM.act,MM.zg,MT.goes])⟩
theorem Uv (p:Lu w base b own mm xs mv ev tb cap n x ra rb rc) {a:Nat} (ha:a<mm.mem.length):yx w base b own tb n 9 bD ra rb rc num (a:Int) (mm.act n x.th ⟨9,bD,ra,rb,rc,num⟩ (a:Int)):=by
 obtain⟨mb,mc,rfl,hmb⟩:=p.1.qA (by omega);obtain⟨hp,d0,f9,yT,yX,zU,hn,hw1,hsz,H0,HB,HX,H,H3,hra,hrb,hrc⟩:=rq p 9 bD num rfl;have HP:=ag hp;obtain⟨d1,d2,d3,d4,d5,rA,rB,rC,qm,hws,fA,fB⟩:=hp;obtain⟨M0,c0,cM,fM,FO⟩:=F7 H0 ha;obtain⟨V,hV⟩:∃V,V=fV (M0+x.th.reg rb):=⟨_,rfl⟩;have eV:IntKind.i64.wrap (M0+x.th.reg rb)=V:=by rw[hV];exact zh _
 have HV:=ag hV;clear hV;clear p;unfold yx;go_in;go_wp2_with fail;try generalize w.alloc (rZ 9 bD ra rb rc num)=w0 at*
 go_region;obtain⟨w2,ew,H2,nZ,g3⟩:=Vw H H0.out (bz.of_below HB.out) ha (V) d3;rw[ew];clear rA rB rC qm fA fB f9 c0 cM fM d0 d1 d2 d3 d4 d5 ew;obtain⟨q2,q3⟩:=aaT HX H2 hrb;go_wp2_with fail;try go_region
 all_goals (
  obtain⟨H5,Xv,e9,g9⟩:=FP HX H3 H2.out nZ.out hrb (M0);clear q2 q3;go_wp2_with fail;go_end0)
 refine⟨rfl,dJ.yH H5.out (bN HX.out _) (fun _ _=>rfl) Xv.out ?_⟩;rw[HV.out];simp[MM.act,MM.put,MT.goes,MT.r,FO.out]
theorem Xn (p:Lu w base b own mm xs mv ev tb cap n x ra rb rc) {a:Nat} (ha:a<mm.mem.length):yx w base b own tb n 8 bD ra rb rc num (a:Int) (mm.act n x.th ⟨8,bD,ra,rb,rc,num⟩ (a:Int)):=by
 obtain⟨mb,mc,rfl,hmb⟩:=p.1.qA (by omega);obtain⟨hp,d0,f9,yT,yX,zU,hn,hw1,hsz,H0,HB,HX,H,H3,hra,hrb,hrc⟩:=rq p 8 bD num rfl;have HP:=ag hp;obtain⟨d1,d2,d3,d4,d5,rA,rB,rC,qm,hws,fA,fB⟩:=hp;obtain⟨M0,c0,cM,fM,FO⟩:=F7 H0 ha;clear p;unfold yx;go_in;go_wp2_with fail;try generalize w.alloc (rZ 8 bD ra rb rc num)=w0 at*
 by_cases he:M0=x.th.reg rb
 ·have hb1:(M0==x.th.reg rb)=true:=by simpa using he
  have HE:=ag he;clear he;go_quiet (fail)
  go_wp2_with fail;clear d0 d1 d2 d3 d4 d5 rA rB rC qm hws fA fB f9 c0 cM fM;obtain⟨w1,ew,H1,HB1, -,d2,d3,d4, -,rA,rB,rC, -, -,fA,fB⟩:=SI H0 HB HP nq;obtain⟨N0,c0,cM,fM,hN0⟩:=F7 H1 ha;obtain rfl:N0=M0:=hN0.out.symm.trans FO.out;rw[ew];clear ew HP H0 HB hN0;clear fA fB;go_region;obtain⟨w2,ew,H2,nZ,g3⟩:=Vw H H1.out (bz.of_below HB1.out) ha (x.th.reg rc) d3;rw[ew];clear rA rB rC c0 cM fM d2 d3 d4 ew;obtain⟨q2,q3⟩:=aaT HX H2 hrb;go_wp2_with fail;try go_region
  all_goals (
   obtain⟨H5,Xv,e9,g9⟩:=FP HX H3 H2.out nZ.out hrb (N0);clear q2 q3;go_wp2_with fail;go_end0)
  exact⟨rfl,dJ.yH H5.out (bN HX.out _) (fun _ _=>rfl) Xv.out (by simp[MM.act,MM.put,MT.goes,MT.r,FO.out,HE.out])⟩
 ·have hb1:(M0==x.th.reg rb)=false:=by simpa using he
  have HE:=ag he;clear he;go_quiet (fail)
  go_wp2_with fail;clear d0 d1 d2 d3 d4 d5 rA rB rC qm hws fA fB f9 c0 cM fM;obtain⟨w1,ew,H1,HB1, -,d2,d3,d4, -,rA,rB,rC, -, -,fA,fB⟩:=SI H0 HB HP nq;obtain⟨N0,c0,cM,fM,hN0⟩:=F7 H1 ha;obtain rfl:N0=M0:=hN0.out.symm.trans FO.out;rw[ew];clear ew HP H0 HB hN0;try go_region
  all_goals (
   obtain⟨H2,nZ,e9,g9⟩:=FP HX H3 H1.out (bz.of_below HB1.out) hrb (N0);clear rA rB rC fA fB d2 d3 d4;go_wp2_with fail;go_end0)
  exact⟨rfl,dJ.yH H2.out (bN HX.out _) (fun _ _=>rfl) nZ.out (by simp[MM.act,MM.put,MT.goes,MT.r,FO.out,HE.out])⟩
theorem VG (p:Lu w base b own mm xs mv ev tb cap n x ra rb rc) {a:Nat} (ha:a<mm.mem.length) (hw:x.th.wait.length<=64) (hok:∀c∈x.th.wait,0<=c.1/\c.1<262144) (hev:mm.evs.length<2000000000):yx w base b own tb n 15 bD ra rb rc num (a:Int) (mm.act n x.th ⟨15,bD,ra,rb,rc,num⟩ (a:Int)):=by
 obtain⟨mb,mc,rfl,hmb⟩:=p.1.qA (by omega);obtain⟨hp,d0,f9,yT,yX,zU,hn,hw1,hsz,H0,HB,HX,H,H3,hra,hrb,hrc⟩:=rq p 15 bD num rfl;have HP:=ag hp;obtain⟨d1,d2,d3,d4,d5,rA,rB,rC,qm,hws,fA,fB⟩:=hp;obtain⟨M0,c0,cM,fM,FO⟩:=F7 H0 ha;have HW:=ag hw;have tF:=ag hok;have TR:=ag ha;clear hw hok;have HE:=ag hev;have Z6:=ag (H.out.fresh _ (aB _));clear hev;clear p;unfold yx;go_in;go_wp2_with fail;try generalize w.alloc (rZ 15 bD ra rb rc num)=w0 at*
 clear d1 d3 d4 d5 rB rC qm c0 cM fM f9 fB;go_region_held3 (fun w'=>w'.cell? ⟨w.heap.size,2,none⟩=some (.int .u8 (ra:Int))) (first|exact d2|exact(World.cell?_of_block (dm _ _ _ _ hsz)).trans d2) (first|(go_at_call 73;refine(F_ H0.out.drew HX.out HW.out TR.out tF.out).mono ?_;rintro r w1 ⟨rfl,d,rfl⟩;have H1:=ag (H0.out.drewN (1+d));have HB1:=ag (below_drewN HB.out (1+d));dsimp only))
 obtain⟨H2,nZ,e9,g9⟩:=LH HX H3 H1.out (bz.of_below HB1.out) hra (mm.found x.th (a:Int));obtain⟨gA, -⟩:=aaT (ag (bN HX.out _)) H2 hra;have g2:=(World.cell?_of_block (dm (w0.drewN (1+d)) ⟨tb,n*13+1+ra,none⟩ (.int .i64 (mm.found x.th (a:Int))) _ hsz)).trans (show(w0.drewN (1+d)).cell? ⟨w.heap.size,2,none⟩=some (.int .u8 (ra:Int)) from d2);simp only[upd,if_true] at gA;clear d2 rA fA d0 e9 g9;generalize((w0.drewN (1+d)).setCell ⟨tb,n*13+1+ra,none⟩ (.int .i64 (mm.found x.th (a:Int))))=w2 at H2 nZ gA g2⊢;go_wp2_with fail;go_region_held3 (fun w'=>w'.cell? ⟨w.heap.size,2,none⟩=some (.int .u8 (ra:Int))/\w'.cell? ⟨tb,n*13+1+ra,none⟩=some (.int .i64 (mm.found x.th (a:Int)))) (first|exact⟨g2,gA⟩|exact⟨VT.out.cell g2 (by show ¬(own w.heap.size=1\/own w.heap.size=4);rw[Z6.out];decide),VT.out.cell gA (by show ¬(own tb=1\/own tb=4);rw[H3.out];decide)⟩) (first|(go_at_call 71;refine(uj H2.out.drew HE.out n 1 (mm.found x.th (a:Int)) 0).mono ?_;rintro e w1 ⟨rfl,hp⟩;have HP:=ag hp;have VT:=ag hp.2;clear hp;dsimp only))
 obtain⟨⟨own',ev',hm,ho⟩,hc⟩:=HP.out;obtain⟨e9,g9,H5,HO,Xv⟩:=aaq (bN HX.out _) (by rw[List.length_set];omega) hm nZ.out.drew hc (fun _ _=>rfl) ho;clear hm ho hc gA g2;go_wp2_with fail;go_end0;exact⟨rfl,dJ.yH H5.out (bN HX.out _) HO.out Xv.out (by simp[MM.act,MM.put,MM.tell,MT.goes])⟩
theorem T9 (p:Lu w base b own mm xs mv ev tb cap n x ra rb rc) (a:Int) (hev:mm.evs.length<2000000000) (h4:xs.length<=4):yx w base b own tb n 3 bD ra rb rc num a (mm.act n x.th ⟨3,bD,ra,rb,rc,num⟩ a):=by
 obtain⟨hp,d0,f9,yT,yX,zU,hn,hw1,hsz,H0,HB,HX,H,H3,hra,hrb,hrc⟩:=rq p 3 bD num rfl;have HP:=ag hp;obtain⟨d1,d2,d3,d4,d5,rA,rB,rC,qm,hws,fA,fB⟩:=hp;have HE:=ag hev;have H4:=ag h4;clear hev h4;clear p;unfold yx;go_in;go_wp2_with fail;try generalize w.alloc (rZ 3 bD ra rb rc num)=w0 at*
 go_region_held3 (fun w'=>w'.cell? ⟨w.heap.size,1,none⟩=some (.int .u8 bD)/\w'.cell? ⟨w.heap.size,2,none⟩=some (.int .u8 (ra:Int))/\w'.cell? ⟨w.heap.size,3,none⟩=some (.int .u8 (rb:Int))/\w'.cell? ⟨tb,n*13+1+ra,none⟩=some (.int .i64 (x.th.reg ra))/\w'.cell? ⟨tb,n*13+1+rb,none⟩=some (.int .i64 (x.th.reg rb))) (exact⟨d1,d2,d3,rA,rB⟩) (first|(go_at_call 72;refine(W_ _ bD (x.th.reg ra) (x.th.reg rb)).mono ?_;rintro r w1 ⟨rfl,rfl⟩;dsimp only))
 clear d0 d1 d2 d3 d4 d5 rA rB rC qm fA fB f9 hws;obtain⟨w1,ew,H1,HB1, -,d2, -, -, -,rA, -, -, -, -,fA, -⟩:=SI H0 HB HP 1;rw[show w0.drew=w1 from ew];clear ew HP H0 HB;cases hf:gX bD (x.th.reg ra) (x.th.reg rb) with
 |some v=>
  rw[DN hf,Ey hf];have HF:=ag hf;clear hf;go_wp2_with fail;try go_region
  all_goals (
   obtain⟨H2,nZ,e9,g9⟩:=FP HX H3 H1.out (bz.of_below HB1.out) hra (v);clear d2 rA fA;go_wp2_with fail;go_end0)
  exact⟨rfl,dJ.yH H2.out (bN HX.out _) (fun _ _=>rfl) nZ.out (by simp[MM.act,MM.put,MT.goes,MT.r,HF.out])⟩
 |none=>
  rw[Ef hf,Eo hf];have HF:=ag hf;generalize hg:(if bD=4\/bD=5 then(4:Int) else 1)=E;have hE:(E==0)=false:=by rw[<-hg];split<;>rfl
  clear hf hg;go_wp2_with fail;refine(wM H1.out HX.out HE.out H4.out 2 (by omega)).mono ?_;rintro r w2 ⟨rfl,hg⟩;have HG:=ag hg;clear hg;go_wp2_with fail;try simp only[Exit.inBlock,Exit.then]
  refine bodyPost_ret (results_none rfl _ _ _) rfl ?_;exact⟨rfl,by have:=dJ.after HB1.out HG.out (fun k hk=>H.out.fresh k hk);simpa [MM.act,MT.r,HF.out] using this⟩
theorem YV (p:Lu w base b own mm xs mv ev tb cap n x ra rb rc) (a:Int) (hol:x.th.out.length<1000000000) (hev:mm.evs.length<2000000000):yx w base b own tb n 11 bD ra rb rc num a (mm.act n x.th ⟨11,bD,ra,rb,rc,num⟩ a):=by
 obtain⟨hp,d0,f9,yT,yX,zU,hn,hw1,hsz,H0,HB,HX,H,H3,hra,hrb,hrc⟩:=rq p 11 bD num rfl;have HP:=ag hp;obtain⟨d1,d2,d3,d4,d5,rA,rB,rC,qm,hws,fA,fB⟩:=hp;obtain⟨i0,hi,hz0,hz1,hz2⟩:=info_parts Pd;have Rl:=ag (H0.out.th n x HX.out).out;have EW:=ag hol;have HE:=ag hev;have Z6:=ag (H.out.fresh _ (aB _));have c11:(w.alloc (rZ 11 bD ra rb rc num)).cell? ⟨tb,n*13+11,none⟩=some x.ov:=H0.out.cell HX.out 11 _ rfl;have f11:(w.alloc (rZ 11 bD ra rb rc num)).frozen? ⟨tb,n*13+11,none⟩=false:=H0.out.free (tb:=tb) (by omega:0<xs.length) _;have htb:tb<(w.alloc (rZ 11 bD ra rb rc num)).heap.size:=(bO H0.out.aT (g:=tb) rfl).2;have TZ:=ag (show ∀g,x.ov.ownBlock=some g->g<w.heap.size from fun g hg=>(bO (H.out.th n x HX.out).out hg).2);clear hol hev;clear p;unfold yx;go_in;go_wp2_with fail;try generalize w.alloc (rZ 11 bD ra rb rc num)=w0 at*
 clear rB rC d0 d1 d3 d4 d5 qm fA fB f9
 go_region_law (first|(refine ji (by rfl) (.tmp 226) (.tmp 234) 51 (by rfl) base 2 i0 _ 1 8 Tryz.underlying51 hi hz0 hz1 hz2 rfl (by decide) x.ov x.th.out.length (x.th.out.flatMap encI) (by simp[Act.eval]) (by exact aX Rl.out (((bz.refl (fun _=>False) w0).alloc _).drew) (fun _ _=>id)) ⟨w0.heap.size,0,none⟩ 1 1 (by decide) (encI (x.th.reg ra)) (by simp[Act.eval]) rfl (by exact iP (aj w0 _)) (Zj _) (by have:=EW.out;unfold maxLen;omega) (by have:=EW.out;omega) (by have:=H0.out.fQ;show base<=(w0.alloc _).heap.size;rw[World.size_alloc];omega) ?_;intro ao cp w2 h1 h2 h3;have hg0:bz (fun k=>x.ov.ownBlock=some k) w0 w2:=bz.grown (S:=fun k=>x.ov.ownBlock=some k) (((bz.refl _ w0).alloc _).drew) h3 (fun k hk=>.inl hk);have hbt:w2.heap[tb]? =w0.heap[tb]?:=hg0.block tb htb (fun e=>by have h7:=(H0.out.th n x HX.out).outT tb e;rw[H0.out.fK tb rfl] at h7;omega);have s1:w2.cell? ⟨tb,n*13+11,none⟩=some x.ov:=(World.cell?_of_block hbt).trans c11;have s2:w2.frozen? ⟨tb,n*13+11,none⟩=false:=(by have f12:=f11;unfold World.frozen? at f12⊢;rw[hbt];exact f12);have I7:=ag hg0;have HR:=ag h1;have Jd:=ag h2;clear h1 h2 h3 hg0 hbt))
 all_goals go_wp2_with fail
 all_goals (
  have hne:∀g,(Value.slice ao (x.th.out.length+1) cp).ownBlock=some g->x.ov.ownBlock=some g\/w0.heap.size<=g:=fun g hg=>by
   rcases Jd.out g hg with e|e
   ·exact .inl e
   ·exact .inr (by have e':(w0.alloc _).heap.size<=g:=e;rw[World.size_alloc] at e';omega)
  have h2:=H0.out.told HX.out (x.th.out++[x.th.reg ra]) (.slice ao (x.th.out.length+1) cp) I7.out (by rw[List.length_append,mJ];exact HR.out) hne;have g2:(w2.setCell ⟨tb,n*13+11,none⟩ (.slice ao (x.th.out.length+1) cp)).cell? ⟨w.heap.size,2,none⟩=some (.int .u8 (ra:Int)):=by
   rw[World.cell?_of_block (w:=w0) ((dm _ _ _ _ hsz).trans (I7.out.block _ hws (fun e=>absurd (TZ.out w.heap.size e) (Nat.lt_irrefl _))))];exact d2
  have gA:=h2.cell (bN HX.out _) (1+ra) _ (wL _ ra hra);rw[<-Nat.add_assoc] at gA;have H2:=ag h2;have nZ:=ag (bz.dY (S:=NZ own) (bz.of_below HB.out) ((bz.dY (S:=NZ own) (bz.refl _ w0) I7.out (fun k _ e=>by show own k≠0;rw[(H0.out.th n x HX.out).outT k e];omega)).setCell (p:=⟨tb,n*13+11,none⟩) (.inl (by show own tb≠0;rw[H3.out];decide)) (.slice ao (x.th.out.length+1) cp)) (fun k _ e=>e));have WM:=ag (fun k (hk:k<w0.heap.size)=>(jk (own:=own) (v:=.slice ao (x.th.out.length+1) cp) (p:=7+3*n) hk));clear h2 hne d2 rA c11 f11;simp only at gA;generalize w2.setCell ⟨tb,n*13+11,none⟩ (.slice ao (x.th.out.length+1) cp)=w3 at H2 nZ g2 gA⊢;generalize retag own (.slice ao (x.th.out.length+1) cp) (7+3*n) w0.heap.size=dM at H2 WM;go_region_held3 (fun w'=>w'.cell? ⟨w.heap.size,2,none⟩=some (.int .u8 (ra:Int))/\w'.cell? ⟨tb,n*13+1+ra,none⟩=some (.int .i64 (x.th.reg ra))) (first|exact⟨g2,gA⟩|exact⟨VT.out.cell g2 (by show ¬(dM w.heap.size=1\/dM w.heap.size=4);rw[WM.out _ hws,Z6.out];decide),VT.out.cell gA (by show ¬(dM tb=1\/dM tb=4);rw[WM.out _ htb,H3.out];decide)⟩) (first|(go_at_call 71;refine(uj H2.out.drew HE.out n 9 (x.th.reg ra) 0).mono ?_;rintro e w1 ⟨rfl,hp⟩;have HP:=ag hp;have VT:=ag hp.2;clear hp;dsimp only))
  obtain⟨⟨jO,ev',hm,ho⟩,hc⟩:=HP.out;obtain⟨e9,g9,H5,HO,LD⟩:=aaq (bN HX.out _) (by rw[List.length_set];omega) hm nZ.out.drew hc (fun k hk=>WM.out k (by have:=HB.out.size;omega)) ho;clear hm ho hc gA g2;go_wp2_with fail;go_end0;exact⟨rfl,dJ.yH H5.out (bN HX.out _) HO.out LD.out (by simp[MM.act,MM.put,MM.tell,MT.next,MT.r])⟩)
theorem Rv (p:Lu w base b own mm xs mv ev tb cap n x ra rb rc) (a:Int) (hfull:x.th.wait.length<64) (ha:0<=a/\a<262144):yx w base b own tb n 5 bD ra rb rc num a (mm.act n x.th ⟨5,bD,ra,rb,rc,num⟩ a):=by
 obtain⟨hp,d0,f9,yT,yX,zU,hn,hw1,hsz,H0,HB,HX,H,H3,hra,hrb,hrc⟩:=rq p 5 bD num rfl;have HP:=ag hp;obtain⟨d1,d2,d3,d4,d5,rA,rB,rC,qm,hws,fA,fB⟩:=hp;obtain⟨i0,hi,hz0,hz1,hz2⟩:=info_parts RF;obtain⟨wo,wc,hwv⟩:=(H.out.th n x HX.out).wait.shape;have hwt:=(H0.out.th n x HX.out).wait;have aby:=(H.out.th n x HX.out).BL;have c10:(w.alloc (rZ 5 bD ra rb rc num)).cell? ⟨tb,n*13+10,none⟩=some (.slice wo x.th.wait.length wc):=by rw[<-hwv];exact H0.out.cell HX.out 10 _ rfl
 rw[hwv] at hwt aby;have Je:=ag hwt;have adR:=ag aby;have Gc:=ag hwv;have Aq:=ag hfull;have f10:(w.alloc (rZ 5 bD ra rb rc num)).frozen? ⟨tb,n*13+10,none⟩=false:=H0.out.free (tb:=tb) (by omega:0<xs.length) _;have htb:tb<(w.alloc (rZ 5 bD ra rb rc num)).heap.size:=(bO H0.out.aT (g:=tb) rfl).2;have ea:IntKind.i64.wrap a=a:=IntWalk.i64_in _ (by omega);clear hfull hwt aby hwv;clear p;unfold yx;go_in;go_wp2_with fail;try generalize w.alloc (rZ 5 bD ra rb rc num)=w0 at*
 clear rA rC d0 d1 d2 d4 d5 qm fA fB f9
 go_region_law (first|(refine BP (by rfl) (.tmp 121) (.tmp 131) 28 (by rfl) base 99 i0 _ 2 16 Tryz.underlying28 hi hz0 hz1 hz2 rfl (by decide) (.slice wo x.th.wait.length wc) x.th.wait.length (x.th.wait.flatMap dQ) (by simp[Act.eval]) (by exact Je.out.below (((au w0.heap.size w0).alloc (aB _) _).drew)) ⟨w0.heap.size,0,none⟩ 1 1 (by decide) (dQ (a,x.th.reg rb)) (by simp[Act.eval]) rfl (by exact iP (aj w0 _)) (XD _) (by have:=Aq.out;unfold maxLen;omega) (by have:=Aq.out;omega) (by have:=H0.out.fQ;show base<=(w0.alloc _).heap.size;rw[World.size_alloc];omega) ?_;intro ao cp w2 h1 h2 h3;have hg0:bz (fun k=>(Value.slice wo x.th.wait.length wc).ownBlock=some k) w0 w2:=bz.grown (S:=fun k=>(Value.slice wo x.th.wait.length wc).ownBlock=some k) (((bz.refl _ w0).alloc _).drew) h3 (fun k hk=>.inl hk);have hbt:w2.heap[tb]? =w0.heap[tb]?:=hg0.block tb htb (fun e=>by have h7:=adR.out tb e;rw[H3.out] at h7;omega);have s1:w2.cell? ⟨tb,n*13+10,none⟩=some (.slice wo x.th.wait.length wc):=(World.cell?_of_block hbt).trans c10;have s2:w2.frozen? ⟨tb,n*13+10,none⟩=false:=(by have f12:=f10;unfold World.frozen? at f12⊢;rw[hbt];exact f12);have I7:=ag hg0;have HR:=ag h1;have Jd:=ag h2;clear h1 h2 h3 hg0 hbt))
 all_goals (
  have hne:∀g,(Value.slice ao (x.th.wait.length+1) cp).ownBlock=some g->x.wv.ownBlock=some g\/w0.heap.size<=g:=fun g hg=>by
   rcases Jd.out g hg with e|e
   ·exact .inl (by rw[Gc.out];exact e)
   ·exact .inr (by have e':(w0.alloc _).heap.size<=g:=e;rw[World.size_alloc] at e';omega)
  have h2:=H0.out.waited HX.out (x.th.wait++[(a,x.th.reg rb)]) (.slice ao (x.th.wait.length+1) cp) (by rw[Gc.out];exact I7.out) (by rw[List.length_append,mJ];exact HR.out) hne;have e9:=h2.cell (bN HX.out _) 9 _ rfl;have g9:=h2.free (by rw[List.length_set];omega) (n*13+9);have H2:=ag h2;have nZ:=ag (bz.dY (S:=NZ own) (bz.of_below HB.out) ((bz.dY (S:=NZ own) (bz.refl _ w0) I7.out (fun k _ e=>by show own k≠0;rw[adR.out k e];omega)).setCell (p:=⟨tb,n*13+10,none⟩) (.inl (by show own tb≠0;rw[H3.out];decide)) (.slice ao (x.th.wait.length+1) cp)) (fun k _ e=>e));have WM:=ag (fun k (hk:k<w.heap.size)=>(jk (own:=own) (v:=.slice ao (x.th.wait.length+1) cp) (p:=6+3*n) (Nat.lt_of_lt_of_le hk HB.out.size)));clear h2 hne d3 rB c10 f10;simp only at e9;generalize(w2.setCell ⟨tb,n*13+10,none⟩ (.slice ao (x.th.wait.length+1) cp))=w3 at H2 nZ e9 g9⊢;go_wp2_with fail;go_end0;exact⟨rfl,dJ.yH H2.out (bN HX.out _) WM.out nZ.out (by simp[MM.act,MM.put,MT.next,MT.r])⟩)
end Go.Proofs.YtopdcjimpdalpaaGreat

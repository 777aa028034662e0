import Derived.Test.YtopdcjimpdalpaaGreatQ37
import Derived.Deep.RegionHeld3
namespace Go.Proofs.YtopdcjimpdalpaaGreat
open Go.RowKit
set_option linter.all false
set_option maxHeartbeats 2000000
set_option maxRecDepth 100000
abbrev NZ (own:Nat->Nat):Nat->Prop:=fun k=>own k≠0
variable {w w':World} {base b:Nat} {own own':Nat->Nat} {mm:MM} {xs:List RX} {mv tv ev:Value} {tb cap n:Nat} {x:RX}
theorem dF.xD {w1:World} {dG:Nat->Nat} {EW iZ:MM} {Y5:List RX} {mv1 ev1:Value} {y:RX} {nx:Int} (h:iy w1 base b dG EW Y5 mv1 (.slice (some ⟨tb,0,none⟩) Y5.length cap) ev1) (hy:Y5[n]? =some y)
  (ho:∀k,k<w.heap.size->dG k=own k) (hc:bH (NZ own) w w1) (he:EW.put n {y.th with at_:=nx}=iZ):dF w base b own iZ (w1.setCell ⟨tb,n*13+9,none⟩ (.int .i64 nx)):=by
 rw[<-he];exact dF.at_ h hy ho hc
theorem dF.after {w1:World} {iZ:MM} (hb:Below w.heap.size w w1) (h:dF w1 base b own iZ w') (hf:∀k,w.heap.size<=k->own k=0):dF w base b own iZ w':=by
 obtain⟨⟨own',xs,mv,tv,ev,hm,ho⟩,hc⟩:=h;exact⟨⟨own',xs,mv,tv,ev,hm,fun k hk=>ho k (Nat.lt_of_lt_of_le hk hb.size)⟩,bH.gY (bH.of_below hb) hc (fun k _ e=>e)⟩
theorem bH.cell {T:Nat->Prop} {a c:World} {p:Addr} {v:Value} (h:bH T a c) (hv:a.cell? p=some v) (hn:¬T p.block):c.cell? p=some v:=(World.cell?_of_block (h.block _ (dH _ _ hv) hn)).trans hv
theorem Py:(Tryz.prog.info? 99).map (fun i=>(i.zero,i.size,i.bytes))=some (some (.agg #[.int .i64 0,.int .i64 0]),2,16):=by kernel_rfl
theorem V9 (p:Int×Int):∀u∈iI p,u.oneCell'=true:=by
 intro u hu;simp[iI] at hu;rcases hu with rfl|rfl<;>rfl
variable {bn num:Int} {ra rb rc mb mc:Nat}
abbrev KV (w:World) (base b:Nat) (own:Nat->Nat) (mm:MM) (xs:List RX) (mv ev:Value) (tb cap:Nat):Prop:=iy w base b own mm xs mv (.slice (some ⟨tb,0,none⟩) xs.length cap) ev
def xS (w:World) (base b:Nat) (own:Nat->Nat) (tb n:Nat) (K bn:Int) (ra rb rc:Nat) (num a:Int) (mm:MM):Prop:=
 Calls Tryz.prog 39 #[.pointer (some ⟨b,0,none⟩),.int .i64 (n:Int),.pointer (some ⟨tb,n*13,none⟩),.agg #[.int .u8 K,.int .u8 bn,.int .u8 (ra:Int),.int .u8 (rb:Int),.int .u8 (rc:Int),.int .i64 num],.int .i64 a] w fun r w'=>r= .returned (.tuple #[])/\dF w base b own mm w'
def J7 (w:World) (base b:Nat) (own:Nat->Nat) (mm:MM) (xs:List RX) (mv ev:Value) (tb cap n:Nat) (x:RX) (ra rb rc:Nat):Prop:=
 KV w base b own mm xs mv ev tb cap/\xs[n]? =some x/\ra<8/\rb<8/\rc<8/\0<=x.th.at_/\x.th.at_<=262144
theorem qx (p:J7 w base b own mm xs mv ev tb cap n x ra rb rc) (K bn num:Int) {w0:World} (e:w.alloc (.cells #[.int .u8 K,.int .u8 bn,.int .u8 (ra:Int),.int .u8 (rb:Int),.int .u8 (rc:Int),.int .i64 num] 107)=w0):
  OH w w0 tb n x.th bn num ra rb rc/\w0.cell? ⟨w.heap.size,0,none⟩=some (.int .u8 K)/\w0.frozen? ⟨tb,n*13+9,none⟩=false/\(ra:Int)<8/\(rb:Int)<8/\(rc:Int)<8/\n<xs.length/\IntKind.i64.wrap (x.th.at_+1)=x.th.at_+1/\¬w.heap.size=tb/\Hid (KV w0 base b own mm xs mv ev tb cap)/\Hid (Below w.heap.size w w0)/\
  Hid (xs[n]? =some x)/\Hid (KV w base b own mm xs mv ev tb cap)/\Hid (own tb=3)/\ra<8/\rb<8/\rc<8:=by
 obtain⟨h,hx,hra,hrb,hrc,hat⟩:=p;subst e;have hb0:=(aQ w.heap.size w).alloc (aR _) (.cells #[.int .u8 K,.int .u8 bn,.int .u8 (ra:Int),.int .u8 (rb:Int),.int .u8 (rc:Int),.int .i64 num] 107);have h0:=iy.below h hb0;have gy:=aX w (.cells #[.int .u8 K,.int .u8 bn,.int .u8 (ra:Int),.int .u8 (rb:Int),.int .u8 (rc:Int),.int .i64 num] 107);have hn:n<xs.length:=(bE.1 hx).1;have fT:=h0.free (tb:=tb) (by omega:0<xs.length);have hr:∀r,r<8->(w.alloc (.cells #[.int .u8 K,.int .u8 bn,.int .u8 (ra:Int),.int .u8 (rb:Int),.int .u8 (rc:Int),.int .i64 num] 107)).cell? ⟨tb,n*13+1+r,none⟩=some (.int .i64 (x.th.reg r)):=fun r h=>by
  rw[Nat.add_assoc];exact h0.cell hx _ _ (vY x r h)
 exact⟨⟨af gy rfl,af gy rfl,af gy rfl,af gy rfl,af gy rfl,hr _ hra,hr _ hrb,hr _ hrc,h0.cell hx 9 _ rfl,by simp,fT _,fT _⟩,af gy rfl,fT _,
  by omega,by omega,by omega,hn,IntWalk.i64_in _ (by omega),(by have:=(cK h.aM (g:=tb) rfl).2;omega),h0,hb0,hx,h,h.fo tb rfl,hra,hrb,hrc⟩
theorem EN {w0:World} {tv:Value} (h0:Hid (iy w0 base b own mm xs (.slice (some ⟨mb,0,none⟩) mm.mem.length mc) tv ev)) {a:Nat} (ha:a<mm.mem.length):∃M0,w0.cell? ⟨b,0,none⟩=some (.slice (some ⟨mb,0,none⟩) mm.mem.length mc)/\
  w0.cell? ⟨mb,a,none⟩=some (.int .i64 M0)/\w0.frozen? ⟨mb,a,none⟩=false/\Hid (mm.at (a:Int)=M0):=⟨mm.mem.getD a 0,h0.out.iA 0 _ rfl,h0.out.yZ ha,h0.out.Cv (by omega:0<mm.mem.length) a,ag (show mm.at (a:Int)=mm.mem.getD a 0 from rfl)⟩
theorem MG {w1:World} {EW:MM} (HX:Hid (xs[n]? =some x)) (H3:Hid (own tb=3)) (h1:KV w1 base b own EW xs mv ev tb cap) (hc:bH (NZ own) w w1) {r:Nat} (hr:r<8) (v:Int):
  Hid (KV (w1.setCell ⟨tb,n*13+1+r,none⟩ (.int .i64 v)) base b own (EW.put n {x.th with reg:=upd x.th.reg r v}) (xs.set n {x with th:={x.th with reg:=upd x.th.reg r v}}) mv ev tb cap)/\
  Hid (bH (NZ own) w (w1.setCell ⟨tb,n*13+1+r,none⟩ (.int .i64 v)))/\(w1.setCell ⟨tb,n*13+1+r,none⟩ (.int .i64 v)).cell? ⟨tb,n*13+9,none⟩=some (.int .i64 x.th.at_)/\(w1.setCell ⟨tb,n*13+1+r,none⟩ (.int .i64 v)).frozen? ⟨tb,n*13+9,none⟩=false:=by
 have h2:=iy.aT h1 HX.out {x with th:={x.th with reg:=upd x.th.reg r v}} (1+r) (.int .i64 v) (by omega) (Iu x v r hr) rfl rfl rfl rfl rfl rfl;rw[<-Nat.add_assoc] at h2;exact⟨h2,bH.gY hc ((bH.refl (fun k=>k=tb) _).setCell (p:=⟨tb,_,none⟩) (.inl rfl) _) (fun k _ e=>by rw[e];show own tb≠0;rw[H3.out];decide),h2.cell (gM HX.out _) 9 _ rfl,h2.free (by rw[List.length_set];have:=(bE.1 HX.out).1;omega) _⟩
theorem Ej {w1:World} {EW:MM} (HX:Hid (xs[n]? =some x)) (H3:Hid (own tb=3)) (h1:KV w1 base b own EW xs mv ev tb cap) (hc:bH (NZ own) w w1) {r:Nat} (hr:r<8) (v:Int):
  Hid (KV (w1.setCell ⟨tb,n*13+1+r,none⟩ (.int .i64 v)).drew base b own (EW.put n {x.th with reg:=upd x.th.reg r v}) (xs.set n {x with th:={x.th with reg:=upd x.th.reg r v}}) mv ev tb cap)/\
  Hid (bH (NZ own) w (w1.setCell ⟨tb,n*13+1+r,none⟩ (.int .i64 v)).drew)/\(w1.setCell ⟨tb,n*13+1+r,none⟩ (.int .i64 v)).drew.cell? ⟨tb,n*13+9,none⟩=some (.int .i64 x.th.at_)/\(w1.setCell ⟨tb,n*13+1+r,none⟩ (.int .i64 v)).drew.frozen? ⟨tb,n*13+9,none⟩=false:=
 have q:=MG HX H3 h1 hc hr v
 ⟨q.1.out.drew,q.2.1.out.drew,q.2.2⟩
theorem RU {w1:World} {u:Value} (H:Hid (KV w base b own mm xs (.slice (some ⟨mb,0,none⟩) mm.mem.length mc) ev tb cap)) (h1:KV w1 base b own mm xs (.slice (some ⟨mb,0,none⟩) mm.mem.length mc) ev tb cap) (hc:bH (NZ own) w w1) {a:Nat} (ha:a<mm.mem.length) (v:Int) (d:w1.cell? ⟨w.heap.size,3,none⟩=some u):
  ∃w2,(w1.setCell ⟨mb,a,none⟩ (.int .i64 v)).drew=w2/\Hid (KV w2 base b own {mm with mem:=mm.mem.set a v} xs (.slice (some ⟨mb,0,none⟩) mm.mem.length mc) ev tb cap)/\Hid (bH (NZ own) w w2)/\w2.cell? ⟨w.heap.size,3,none⟩=some u:=
 ⟨_,rfl,(iy.word h1 ha v).drew,bH.gY hc (((bH.refl (fun k=>k=mb) _).setCell (p:=⟨mb,a,none⟩) (.inl rfl) _).drew) (fun k _ e=>by rw[e];show own mb≠0;rw[H.out.memT mb rfl];decide),Ap d (by show ¬w.heap.size=mb;have:=(cK H.out.mem (g:=mb) rfl).2;omega)⟩
theorem XG {w1:World} {EW:MM} {ev:Value} (HX:Hid (xs[n]? =some x)) (h1:Hid (KV w1 base b own EW xs mv ev tb cap)) {r:Nat} (hr:r<8):
  w1.cell? ⟨tb,n*13+1+r,none⟩=some (.int .i64 (x.th.reg r))/\w1.frozen? ⟨tb,n*13+1+r,none⟩=false:=by
 have q2:=h1.out.cell HX.out (1+r) _ (vY x r hr);rw[<-Nat.add_assoc] at q2;exact⟨q2,h1.out.free (by have:=(bE.1 HX.out).1;omega) _⟩
theorem TI {w0:World} (H0:Hid (KV w0 base b own mm xs mv ev tb cap)) (HB:Hid (Below w.heap.size w w0)) (HP:Hid (OH w w0 tb n x.th bn num ra rb rc)) (nq:Nat):
  ∃w1,w0.drewN nq=w1/\Hid (KV w1 base b own mm xs mv ev tb cap)/\Hid (Below w.heap.size w w1)/\OH w w1 tb n x.th bn num ra rb rc:=⟨_,rfl,H0.out.drewN nq,below_drewN HB.out nq,HP.out⟩
theorem YY {w1 w2:World} {dG jA:Nat->Nat} {Wz:MM} {ys:List RX} {y:RX} {Je:Value} (hy:ys[n]? =some y) (hn:0<ys.length) (hm:KV w2 base b jA Wz ys mv Je tb cap) (hc:bH (NZ own) w w1) (h:bH (fun k=>dG k=1\/dG k=4) w1 w2) (ho:∀k,k<w.heap.size->dG k=own k) (ho2:∀k,k<w1.heap.size->jA k=dG k):
  w2.cell? ⟨tb,n*13+9,none⟩=some (.int .i64 y.th.at_)/\w2.frozen? ⟨tb,n*13+9,none⟩=false/\Hid (KV w2 base b jA Wz ys mv Je tb cap)/\Hid (∀k,k<w.heap.size->jA k=own k)/\Hid (bH (NZ own) w w2):=
 ⟨hm.cell hy 9 _ rfl,hm.free hn _,hm,fun k hk=>(ho2 k (Nat.lt_of_lt_of_le hk hc.size)).trans (ho k hk),bH.gY (S:=NZ own) hc h (fun k hk e=>by
  have h1:=ho k hk;show own k≠0;rw[<-h1];rcases e with e|e<;>rw[e]<;>decide)⟩
theorem Vl (p:J7 w base b own mm xs mv ev tb cap n x ra rb rc) (a:Int):xS w base b own tb n 1 bn ra rb rc num a (mm.act n x.th ⟨1,bn,ra,rb,rc,num⟩ a):=by
 obtain⟨hp,d0,f9,yl,yj,zo,hn,hw1,hsz,H0,HB,HX,H,H3,hra,hrb,hrc⟩:=qx p 1 bn num rfl;have HP:=ag hp;obtain⟨d1,d2,d3,d4,d5,rA,rB,rC,pg,hws,fA,fB⟩:=hp;clear p;unfold xS;go_in;go_wp2_with fail;try generalize w.alloc (qY 1 bn ra rb rc num)=w0 at*
 try go_region
 all_goals (
  obtain⟨H2,pE,e9,g9⟩:=Ej HX H3 H0.out (bH.of_below HB.out) hra (num);clear rA rB rC pg fA fB f9 d0 d1 d2 d3 d4 d5;go_wp2_with fail;go_end0)
 exact⟨rfl,dF.xD H2.out (gM HX.out _) (fun _ _=>rfl) pE.out (by simp[MM.act,MM.yz,MT.goes])⟩
theorem Un (p:J7 w base b own mm xs mv ev tb cap n x ra rb rc) (a:Int):xS w base b own tb n 2 bn ra rb rc num a (mm.act n x.th ⟨2,bn,ra,rb,rc,num⟩ a):=by
 obtain⟨hp,d0,f9,yl,yj,zo,hn,hw1,hsz,H0,HB,HX,H,H3,hra,hrb,hrc⟩:=qx p 2 bn num rfl;have HP:=ag hp;obtain⟨d1,d2,d3,d4,d5,rA,rB,rC,pg,hws,fA,fB⟩:=hp;clear p;unfold xS;go_in;go_wp2_with fail;try generalize w.alloc (qY 2 bn ra rb rc num)=w0 at*
 try go_region
 all_goals (
  obtain⟨H2,pE,e9,g9⟩:=Ej HX H3 H0.out (bH.of_below HB.out) hra (x.th.reg rb);clear rA rB rC pg fA fB f9 d0 d1 d2 d3 d4 d5;go_wp2_with fail;go_end0)
 exact⟨rfl,dF.xD H2.out (gM HX.out _) (fun _ _=>rfl) pE.out (by simp[MM.act,MM.yz,MT.goes,MT.r])⟩
theorem R6 (p:J7 w base b own mm xs mv ev tb cap n x ra rb rc) (a:Int) (hj:0<=num/\num<=262144):xS w base b own tb n 6 bn ra rb rc num a (mm.act n x.th ⟨6,bn,ra,rb,rc,num⟩ a):=by
 obtain⟨hp,d0,f9,yl,yj,zo,hn,hw1,hsz,H0,HB,HX,H,H3,hra,hrb,hrc⟩:=qx p 6 bn num rfl;have HP:=ag hp;obtain⟨d1,d2,d3,d4,d5,rA,rB,rC,pg,hws,fA,fB⟩:=hp;clear p;unfold xS;go_in;go_wp2_with fail;try generalize w.alloc (qY 6 bn ra rb rc num)=w0 at*
 go_end0;exact⟨rfl,dF.xD H0.out HX.out (fun _ _=>rfl) (bH.of_below HB.out) (by simp[MM.act])⟩
theorem NU (p:J7 w base b own mm xs mv ev tb cap n x ra rb rc) (a:Int):xS w base b own tb n 10 bn ra rb rc num a (mm.act n x.th ⟨10,bn,ra,rb,rc,num⟩ a):=by
 obtain⟨hp,d0,f9,yl,yj,zo,hn,hw1,hsz,H0,HB,HX,H,H3,hra,hrb,hrc⟩:=qx p 10 bn num rfl;have HP:=ag hp;obtain⟨d1,d2,d3,d4,d5,rA,rB,rC,pg,hws,fA,fB⟩:=hp;clear p;unfold xS;go_in;go_wp2_with fail;try generalize w.alloc (qY 10 bn ra rb rc num)=w0 at*
 go_end0;exact⟨rfl,dF.xD H0.out HX.out (fun _ _=>rfl) (bH.of_below HB.out) (by simp[MM.act,MT.next])⟩
theorem Sz (p:J7 w base b own mm xs mv ev tb cap n x ra rb rc) (a:Int) (hj:0<=num/\num<=262144):xS w base b own tb n 7 bn ra rb rc num a (mm.act n x.th ⟨7,bn,ra,rb,rc,num⟩ a):=by
 obtain⟨hp,d0,f9,yl,yj,zo,hn,hw1,hsz,H0,HB,HX,H,H3,hra,hrb,hrc⟩:=qx p 7 bn num rfl;have HP:=ag hp;obtain⟨d1,d2,d3,d4,d5,rA,rB,rC,pg,hws,fA,fB⟩:=hp;clear p;by_cases hz:x.th.reg ra=0
 ·rw[hz] at rA;have HZ:=ag hz;clear hz;unfold xS;go_in;go_wp2_with fail;try generalize w.alloc (qY 7 bn ra rb rc num)=w0 at*
  go_quiet (fail)
  go_wp2_with fail;go_end0;exact⟨rfl,dF.xD (iy.drewN H0.out _) HX.out (fun _ _=>rfl) (bH.of_below (below_drewN HB.out _)) (by simp[MM.act,MT.r,HZ.out])⟩
 ·have hz1:(x.th.reg ra==0)=false:=by rw[bY];exact hz
  have HZ:=ag hz;clear hz;unfold xS;go_in;go_wp2_with fail;try generalize w.alloc (qY 7 bn ra rb rc num)=w0 at*
  go_quiet (fail)
  go_wp2_with fail;go_end0;exact⟨rfl,dF.xD (iy.drewN H0.out _) HX.out (fun _ _=>rfl) (bH.of_below (below_drewN HB.out _)) (by simp[MM.act,MT.r,HZ.out])⟩
theorem Tk (p:J7 w base b own mm xs mv ev tb cap n x ra rb rc) (a:Int) (D7:2<=num/\num<=8) (hev:mm.evs.length<2000000000) (h4:xs.length<=4):xS w base b own tb n 13 bn ra rb rc num a (mm.act n x.th ⟨13,bn,ra,rb,rc,num⟩ a):=by
 obtain⟨hp,d0,f9,yl,yj,zo,hn,hw1,hsz,H0,HB,HX,H,H3,hra,hrb,hrc⟩:=qx p 13 bn num rfl;have HP:=ag hp;obtain⟨d1,d2,d3,d4,d5,rA,rB,rC,pg,hws,fA,fB⟩:=hp;have eN:IntKind.u8.wrap num=num:=by rw[IntKind.wrap_u8];omega
 have HE:=ag hev;have H4:=ag h4;clear hev h4;clear p;unfold xS;go_in;go_wp2_with fail;try generalize w.alloc (qY 13 bn ra rb rc num)=w0 at*
 refine(vR H0.out HX.out HE.out H4.out num (by omega)).mono ?_;rintro r w1 ⟨rfl,hg⟩;have HG:=ag hg;clear hg;go_wp2_with fail;try simp only[Exit.inBlock,Exit.then]
 refine bodyPost_ret (results_none rfl _ _ _) rfl ?_;exact⟨rfl,by have:=dF.after HB.out HG.out (fun k hk=>H.out.fresh k hk);simpa [MM.act] using this⟩
theorem RG (p:J7 w base b own mm xs mv ev tb cap n x ra rb rc) (a:Int) (hev:mm.evs.length<2000000000) (h4:xs.length<=4):xS w base b own tb n 14 bn ra rb rc num a (mm.act n x.th ⟨14,bn,ra,rb,rc,num⟩ a):=by
 obtain⟨hp,d0,f9,yl,yj,zo,hn,hw1,hsz,H0,HB,HX,H,H3,hra,hrb,hrc⟩:=qx p 14 bn num rfl;have HP:=ag hp;obtain⟨d1,d2,d3,d4,d5,rA,rB,rC,pg,hws,fA,fB⟩:=hp;have HE:=ag hev;have H4:=ag h4;clear hev h4;clear p;unfold xS;go_in;go_wp2_with fail;try generalize w.alloc (qY 14 bn ra rb rc num)=w0 at*
 refine(vR H0.out HX.out HE.out H4.out 1 (by omega)).mono ?_;rintro r w1 ⟨rfl,hg⟩;have HG:=ag hg;clear hg;go_wp2_with fail;try simp only[Exit.inBlock,Exit.then]
 refine bodyPost_ret (results_none rfl _ _ _) rfl ?_;exact⟨rfl,by have:=dF.after HB.out HG.out (fun k hk=>H.out.fresh k hk);simpa [MM.act] using this⟩
theorem Tt (p:J7 w base b own mm xs mv ev tb cap n x ra rb rc) (a:Int) (D7:1<=num/\num<=8) (hev:mm.evs.length<2000000000):xS w base b own tb n 12 bn ra rb rc num a (mm.act n x.th ⟨12,bn,ra,rb,rc,num⟩ a):=by
 obtain⟨hp,d0,f9,yl,yj,zo,hn,hw1,hsz,H0,HB,HX,H,H3,hra,hrb,hrc⟩:=qx p 12 bn num rfl;have HP:=ag hp;obtain⟨d1,d2,d3,d4,d5,rA,rB,rC,pg,hws,fA,fB⟩:=hp;have eN:IntKind.u8.wrap num=num:=by rw[IntKind.wrap_u8];omega
 have HE:=ag hev;have YE:=ag (H.out.fresh _ (aR _));clear hev;clear p;unfold xS;go_in;go_wp2_with fail;try generalize w.alloc (qY 12 bn ra rb rc num)=w0 at*
 clear d0 d1 d4 rC pg fA fB f9;go_region_held3 (fun w'=>w'.cell? ⟨w.heap.size,5,none⟩=some (.int .i64 num)/\w'.cell? ⟨w.heap.size,2,none⟩=some (.int .u8 (ra:Int))/\w'.cell? ⟨w.heap.size,3,none⟩=some (.int .u8 (rb:Int))/\w'.cell? ⟨tb,n*13+1+ra,none⟩=some (.int .i64 (x.th.reg ra))/\w'.cell? ⟨tb,n*13+1+rb,none⟩=some (.int .i64 (x.th.reg rb))) (first|exact⟨d5,d2,d3,rA,rB⟩|exact⟨(T_.out.cell d5 (by show ¬(own w.heap.size=1\/own w.heap.size=4);rw[YE.out];decide)),(T_.out.cell d2 (by show ¬(own w.heap.size=1\/own w.heap.size=4);rw[YE.out];decide)),(T_.out.cell d3 (by show ¬(own w.heap.size=1\/own w.heap.size=4);rw[YE.out];decide)),(T_.out.cell rA (by show ¬(own tb=1\/own tb=4);rw[H3.out];decide)),(T_.out.cell rB (by show ¬(own tb=1\/own tb=4);rw[H3.out];decide))⟩) (first|(go_at_call 71;refine(r_ H0.out.drew HE.out n num (x.th.reg ra) (x.th.reg rb)).mono ?_;rintro e w1 ⟨rfl,hp⟩;have HP:=ag hp;have T_:=ag hp.2;clear hp;dsimp only))
 obtain⟨⟨own',ev',hm,ho⟩,hc⟩:=HP.out;obtain⟨e9,g9,H2,HO,pE⟩:=YY HX.out (by omega) hm (bH.of_below HB.out).drew hc (fun _ _=>rfl) ho;clear hm ho hc d5 d2 d3 rA rB;go_wp2_with fail;go_end0;exact⟨rfl,dF.xD H2.out (HX.out) HO.out pE.out (by simp[MM.act,MM.put,MM.tell,MT.next,MT.r])⟩
theorem SH (p:J7 w base b own mm xs mv ev tb cap n x ra rb rc) {a:Nat} (ha:a<mm.mem.length) (hw:x.th.wait.length<=64) (hok:∀c∈x.th.wait,0<=c.1/\c.1<262144):xS w base b own tb n 4 bn ra rb rc num (a:Int) (mm.act n x.th ⟨4,bn,ra,rb,rc,num⟩ (a:Int)):=by
 obtain⟨mb,mc,rfl,hmb⟩:=p.1.nZ (by omega);obtain⟨hp,d0,f9,yl,yj,zo,hn,hw1,hsz,H0,HB,HX,H,H3,hra,hrb,hrc⟩:=qx p 4 bn num rfl;have HP:=ag hp;obtain⟨d1,d2,d3,d4,d5,rA,rB,rC,pg,hws,fA,fB⟩:=hp;obtain⟨M0,c0,cM,fM,BB⟩:=EN H0 ha;have HW:=ag hw;have zC:=ag hok;have HAM:=ag ha;clear hw hok;clear p;unfold xS;go_in;go_wp2_with fail;try generalize w.alloc (qY 4 bn ra rb rc num)=w0 at*
 clear d1 d3 d4 d5 rB rC pg c0 cM fM f9 fB;go_region_held3 (fun w'=>w'.cell? ⟨w.heap.size,2,none⟩=some (.int .u8 (ra:Int))) (first|exact d2|exact(World.cell?_of_block (dO _ _ _ _ hsz)).trans d2) (first|(go_at_call 73;refine(Eu H0.out.drew HX.out HW.out HAM.out zC.out).mono ?_;rintro r w1 ⟨rfl,d,rfl⟩;have H1:=ag (H0.out.drewN (1+d));have HB1:=ag (below_drewN HB.out (1+d));dsimp only))
 obtain⟨H2,pE,e9,g9⟩:=MG HX H3 H1.out (bH.of_below HB1.out) hra (mm.found x.th (a:Int));go_wp2_with fail;go_end0;exact⟨rfl,dF.xD H2.out (gM HX.out _) (fun _ _=>rfl) pE.out (by simp[MM.act,MM.yz,MT.goes])⟩
theorem Sv (p:J7 w base b own mm xs mv ev tb cap n x ra rb rc) {a:Nat} (ha:a<mm.mem.length):xS w base b own tb n 9 bn ra rb rc num (a:Int) (mm.act n x.th ⟨9,bn,ra,rb,rc,num⟩ (a:Int)):=by
 obtain⟨mb,mc,rfl,hmb⟩:=p.1.nZ (by omega);obtain⟨hp,d0,f9,yl,yj,zo,hn,hw1,hsz,H0,HB,HX,H,H3,hra,hrb,hrc⟩:=qx p 9 bn num rfl;have HP:=ag hp;obtain⟨d1,d2,d3,d4,d5,rA,rB,rC,pg,hws,fA,fB⟩:=hp;obtain⟨M0,c0,cM,fM,BB⟩:=EN H0 ha;obtain⟨V,hV⟩:∃V,V=fq (M0+x.th.reg rb):=⟨_,rfl⟩;have eV:IntKind.i64.wrap (M0+x.th.reg rb)=V:=by rw[hV];exact zm _
 have HV:=ag hV;clear hV;clear p;unfold xS;go_in;go_wp2_with fail;try generalize w.alloc (qY 9 bn ra rb rc num)=w0 at*
 go_region;obtain⟨w2,ew,H2,pE,g3⟩:=RU H H0.out (bH.of_below HB.out) ha (V) d3;rw[ew];clear rA rB rC pg fA fB f9 c0 cM fM d0 d1 d2 d3 d4 d5 ew;obtain⟨q2,q3⟩:=XG HX H2 hrb;go_wp2_with fail;try go_region
 all_goals (
  obtain⟨H5,Vx,e9,g9⟩:=Ej HX H3 H2.out pE.out hrb (M0);clear q2 q3;go_wp2_with fail;go_end0)
 refine⟨rfl,dF.xD H5.out (gM HX.out _) (fun _ _=>rfl) Vx.out ?_⟩;rw[HV.out];simp[MM.act,MM.put,MT.goes,MT.r,BB.out]
theorem UO (p:J7 w base b own mm xs mv ev tb cap n x ra rb rc) {a:Nat} (ha:a<mm.mem.length):xS w base b own tb n 8 bn ra rb rc num (a:Int) (mm.act n x.th ⟨8,bn,ra,rb,rc,num⟩ (a:Int)):=by
 obtain⟨mb,mc,rfl,hmb⟩:=p.1.nZ (by omega);obtain⟨hp,d0,f9,yl,yj,zo,hn,hw1,hsz,H0,HB,HX,H,H3,hra,hrb,hrc⟩:=qx p 8 bn num rfl;have HP:=ag hp;obtain⟨d1,d2,d3,d4,d5,rA,rB,rC,pg,hws,fA,fB⟩:=hp;obtain⟨M0,c0,cM,fM,BB⟩:=EN H0 ha;clear p;unfold xS;go_in;go_wp2_with fail;try generalize w.alloc (qY 8 bn ra rb rc num)=w0 at*
 by_cases he:M0=x.th.reg rb
 ·have hb1:(M0==x.th.reg rb)=true:=by simpa using he
  have HE:=ag he;clear he;go_quiet (fail)
  go_wp2_with fail;clear d0 d1 d2 d3 d4 d5 rA rB rC pg hws fA fB f9 c0 cM fM;obtain⟨w1,ew,H1,HB1, -,d2,d3,d4, -,rA,rB,rC, -, -,fA,fB⟩:=TI H0 HB HP nq;obtain⟨N0,c0,cM,fM,hN0⟩:=EN H1 ha;obtain rfl:N0=M0:=hN0.out.symm.trans BB.out;rw[ew];clear ew HP H0 HB hN0;clear fA fB;go_region;obtain⟨w2,ew,H2,pE,g3⟩:=RU H H1.out (bH.of_below HB1.out) ha (x.th.reg rc) d3;rw[ew];clear rA rB rC c0 cM fM d2 d3 d4 ew;obtain⟨q2,q3⟩:=XG HX H2 hrb;go_wp2_with fail;try go_region
  all_goals (
   obtain⟨H5,Vx,e9,g9⟩:=Ej HX H3 H2.out pE.out hrb (N0);clear q2 q3;go_wp2_with fail;go_end0)
  exact⟨rfl,dF.xD H5.out (gM HX.out _) (fun _ _=>rfl) Vx.out (by simp[MM.act,MM.put,MT.goes,MT.r,BB.out,HE.out])⟩
 ·have hb1:(M0==x.th.reg rb)=false:=by simpa using he
  have HE:=ag he;clear he;go_quiet (fail)
  go_wp2_with fail;clear d0 d1 d2 d3 d4 d5 rA rB rC pg hws fA fB f9 c0 cM fM;obtain⟨w1,ew,H1,HB1, -,d2,d3,d4, -,rA,rB,rC, -, -,fA,fB⟩:=TI H0 HB HP nq;obtain⟨N0,c0,cM,fM,hN0⟩:=EN H1 ha;obtain rfl:N0=M0:=hN0.out.symm.trans BB.out;rw[ew];clear ew HP H0 HB hN0;try go_region
  all_goals (
   obtain⟨H2,pE,e9,g9⟩:=Ej HX H3 H1.out (bH.of_below HB1.out) hrb (N0);clear rA rB rC fA fB d2 d3 d4;go_wp2_with fail;go_end0)
  exact⟨rfl,dF.xD H2.out (gM HX.out _) (fun _ _=>rfl) pE.out (by simp[MM.act,MM.put,MT.goes,MT.r,BB.out,HE.out])⟩
theorem Rp (p:J7 w base b own mm xs mv ev tb cap n x ra rb rc) {a:Nat} (ha:a<mm.mem.length) (hw:x.th.wait.length<=64) (hok:∀c∈x.th.wait,0<=c.1/\c.1<262144) (hev:mm.evs.length<2000000000):xS w base b own tb n 15 bn ra rb rc num (a:Int) (mm.act n x.th ⟨15,bn,ra,rb,rc,num⟩ (a:Int)):=by
 obtain⟨mb,mc,rfl,hmb⟩:=p.1.nZ (by omega);obtain⟨hp,d0,f9,yl,yj,zo,hn,hw1,hsz,H0,HB,HX,H,H3,hra,hrb,hrc⟩:=qx p 15 bn num rfl;have HP:=ag hp;obtain⟨d1,d2,d3,d4,d5,rA,rB,rC,pg,hws,fA,fB⟩:=hp;obtain⟨M0,c0,cM,fM,BB⟩:=EN H0 ha;have HW:=ag hw;have zC:=ag hok;have HAM:=ag ha;clear hw hok;have HE:=ag hev;have YE:=ag (H.out.fresh _ (aR _));clear hev;clear p;unfold xS;go_in;go_wp2_with fail;try generalize w.alloc (qY 15 bn ra rb rc num)=w0 at*
 clear d1 d3 d4 d5 rB rC pg c0 cM fM f9 fB;go_region_held3 (fun w'=>w'.cell? ⟨w.heap.size,2,none⟩=some (.int .u8 (ra:Int))) (first|exact d2|exact(World.cell?_of_block (dO _ _ _ _ hsz)).trans d2) (first|(go_at_call 73;refine(Eu H0.out.drew HX.out HW.out HAM.out zC.out).mono ?_;rintro r w1 ⟨rfl,d,rfl⟩;have H1:=ag (H0.out.drewN (1+d));have HB1:=ag (below_drewN HB.out (1+d));dsimp only))
 obtain⟨H2,pE,e9,g9⟩:=MG HX H3 H1.out (bH.of_below HB1.out) hra (mm.found x.th (a:Int));obtain⟨gA, -⟩:=XG (ag (gM HX.out _)) H2 hra;have g2:=(World.cell?_of_block (dO (w0.drewN (1+d)) ⟨tb,n*13+1+ra,none⟩ (.int .i64 (mm.found x.th (a:Int))) _ hsz)).trans (show(w0.drewN (1+d)).cell? ⟨w.heap.size,2,none⟩=some (.int .u8 (ra:Int)) from d2);simp only[upd,if_true] at gA;clear d2 rA fA d0 e9 g9;generalize((w0.drewN (1+d)).setCell ⟨tb,n*13+1+ra,none⟩ (.int .i64 (mm.found x.th (a:Int))))=w2 at H2 pE gA g2⊢;go_wp2_with fail;go_region_held3 (fun w'=>w'.cell? ⟨w.heap.size,2,none⟩=some (.int .u8 (ra:Int))/\w'.cell? ⟨tb,n*13+1+ra,none⟩=some (.int .i64 (mm.found x.th (a:Int)))) (first|exact⟨g2,gA⟩|exact⟨T_.out.cell g2 (by show ¬(own w.heap.size=1\/own w.heap.size=4);rw[YE.out];decide),T_.out.cell gA (by show ¬(own tb=1\/own tb=4);rw[H3.out];decide)⟩) (first|(go_at_call 71;refine(r_ H2.out.drew HE.out n 1 (mm.found x.th (a:Int)) 0).mono ?_;rintro e w1 ⟨rfl,hp⟩;have HP:=ag hp;have T_:=ag hp.2;clear hp;dsimp only))
 obtain⟨⟨own',ev',hm,ho⟩,hc⟩:=HP.out;obtain⟨e9,g9,H5,HO,Vx⟩:=YY (gM HX.out _) (by rw[List.length_set];omega) hm pE.out.drew hc (fun _ _=>rfl) ho;clear hm ho hc gA g2;go_wp2_with fail;go_end0;exact⟨rfl,dF.xD H5.out (gM HX.out _) HO.out Vx.out (by simp[MM.act,MM.put,MM.tell,MT.goes])⟩
theorem Uq (p:J7 w base b own mm xs mv ev tb cap n x ra rb rc) (a:Int) (hev:mm.evs.length<2000000000) (h4:xs.length<=4):xS w base b own tb n 3 bn ra rb rc num a (mm.act n x.th ⟨3,bn,ra,rb,rc,num⟩ a):=by
 obtain⟨hp,d0,f9,yl,yj,zo,hn,hw1,hsz,H0,HB,HX,H,H3,hra,hrb,hrc⟩:=qx p 3 bn num rfl;have HP:=ag hp;obtain⟨d1,d2,d3,d4,d5,rA,rB,rC,pg,hws,fA,fB⟩:=hp;have HE:=ag hev;have H4:=ag h4;clear hev h4;clear p;unfold xS;go_in;go_wp2_with fail;try generalize w.alloc (qY 3 bn ra rb rc num)=w0 at*
 go_region_held3 (fun w'=>w'.cell? ⟨w.heap.size,1,none⟩=some (.int .u8 bn)/\w'.cell? ⟨w.heap.size,2,none⟩=some (.int .u8 (ra:Int))/\w'.cell? ⟨w.heap.size,3,none⟩=some (.int .u8 (rb:Int))/\w'.cell? ⟨tb,n*13+1+ra,none⟩=some (.int .i64 (x.th.reg ra))/\w'.cell? ⟨tb,n*13+1+rb,none⟩=some (.int .i64 (x.th.reg rb))) (exact⟨d1,d2,d3,rA,rB⟩) (first|(go_at_call 72;refine(WC _ bn (x.th.reg ra) (x.th.reg rb)).mono ?_;rintro r w1 ⟨rfl,rfl⟩;dsimp only))
 clear d0 d1 d2 d3 d4 d5 rA rB rC pg fA fB f9 hws;obtain⟨w1,ew,H1,HB1, -,d2, -, -, -,rA, -, -, -, -,fA, -⟩:=TI H0 HB HP 1;rw[show w0.drew=w1 from ew];clear ew HP H0 HB;cases hf:gL bn (x.th.reg ra) (x.th.reg rb) with
 |some v=>
  rw[CB hf,Ca hf];have HF:=ag hf;clear hf;go_wp2_with fail;try go_region
  all_goals (
   obtain⟨H2,pE,e9,g9⟩:=Ej HX H3 H1.out (bH.of_below HB1.out) hra (v);clear d2 rA fA;go_wp2_with fail;go_end0)
  exact⟨rfl,dF.xD H2.out (gM HX.out _) (fun _ _=>rfl) pE.out (by simp[MM.act,MM.put,MT.goes,MT.r,HF.out])⟩
 |none=>
  rw[Dw hf,CR hf];have HF:=ag hf;generalize hg:(if bn=4\/bn=5 then(4:Int) else 1)=E;have hE:(E==0)=false:=by rw[<-hg];split<;>rfl
  clear hf hg;go_wp2_with fail;refine(vR H1.out HX.out HE.out H4.out 2 (by omega)).mono ?_;rintro r w2 ⟨rfl,hg⟩;have HG:=ag hg;clear hg;go_wp2_with fail;try simp only[Exit.inBlock,Exit.then]
  refine bodyPost_ret (results_none rfl _ _ _) rfl ?_;exact⟨rfl,by have:=dF.after HB1.out HG.out (fun k hk=>H.out.fresh k hk);simpa [MM.act,MT.r,HF.out] using this⟩
theorem Wj (p:J7 w base b own mm xs mv ev tb cap n x ra rb rc) (a:Int) (hol:x.th.out.length<1000000000) (hev:mm.evs.length<2000000000):xS w base b own tb n 11 bn ra rb rc num a (mm.act n x.th ⟨11,bn,ra,rb,rc,num⟩ a):=by
 obtain⟨hp,d0,f9,yl,yj,zo,hn,hw1,hsz,H0,HB,HX,H,H3,hra,hrb,hrc⟩:=qx p 11 bn num rfl;have HP:=ag hp;obtain⟨d1,d2,d3,d4,d5,rA,rB,rC,pg,hws,fA,fB⟩:=hp;obtain⟨i0,hi,hz0,hz1,hz2⟩:=info_parts Nz;have QU:=ag (H0.out.th n x HX.out).out;have LV:=ag hol;have HE:=ag hev;have YE:=ag (H.out.fresh _ (aR _));have c11:(w.alloc (qY 11 bn ra rb rc num)).cell? ⟨tb,n*13+11,none⟩=some x.ov:=H0.out.cell HX.out 11 _ rfl;have f11:(w.alloc (qY 11 bn ra rb rc num)).frozen? ⟨tb,n*13+11,none⟩=false:=H0.out.free (tb:=tb) (by omega:0<xs.length) _;have htb:tb<(w.alloc (qY 11 bn ra rb rc num)).heap.size:=(cK H0.out.aM (g:=tb) rfl).2;have HOX:=ag (show ∀g,x.ov.ownBlock=some g->g<w.heap.size from fun g hg=>(cK (H.out.th n x HX.out).out hg).2);clear hol hev;clear p;unfold xS;go_in;go_wp2_with fail;try generalize w.alloc (qY 11 bn ra rb rc num)=w0 at*
 clear rB rC d0 d1 d3 d4 d5 pg fA fB f9
 go_region_law (first|(refine kE (by rfl) (.tmp 226) (.tmp 234) 51 (by rfl) base 2 i0 _ 1 8 Tryz.underlying51 hi hz0 hz1 hz2 rfl (by decide) x.ov x.th.out.length (x.th.out.flatMap encI) (by simp[Act.eval]) (by exact bD QU.out (((bH.refl (fun _=>False) w0).alloc _).drew) (fun _ _=>id)) ⟨w0.heap.size,0,none⟩ 1 1 (by decide) (encI (x.th.reg ra)) (by simp[Act.eval]) rfl (by exact kK (aX w0 _)) (Xt _) (by have:=LV.out;unfold maxLen;omega) (by have:=LV.out;omega) (by have:=H0.out.eX;show base<=(w0.alloc _).heap.size;rw[World.size_alloc];omega) ?_;intro ao cp w2 h1 h2 h3;have hg0:bH (fun k=>x.ov.ownBlock=some k) w0 w2:=bH.grown (S:=fun k=>x.ov.ownBlock=some k) (((bH.refl _ w0).alloc _).drew) h3 (fun k hk=>.inl hk);have hbt:w2.heap[tb]? =w0.heap[tb]?:=hg0.block tb htb (fun e=>by have h7:=(H0.out.th n x HX.out).outT tb e;rw[H0.out.fo tb rfl] at h7;omega);have s1:w2.cell? ⟨tb,n*13+11,none⟩=some x.ov:=(World.cell?_of_block hbt).trans c11;have s2:w2.frozen? ⟨tb,n*13+11,none⟩=false:=(by have f12:=f11;unfold World.frozen? at f12⊢;rw[hbt];exact f12);have J_:=ag hg0;have HR:=ag h1;have GV:=ag h2;clear h1 h2 h3 hg0 hbt))
 all_goals go_wp2_with fail
 all_goals (
  have hne:∀g,(Value.slice ao (x.th.out.length+1) cp).ownBlock=some g->x.ov.ownBlock=some g\/w0.heap.size<=g:=fun g hg=>by
   rcases GV.out g hg with e|e
   ·exact .inl e
   ·exact .inr (by have e':(w0.alloc _).heap.size<=g:=e;rw[World.size_alloc] at e';omega)
  have h2:=H0.out.told HX.out (x.th.out++[x.th.reg ra]) (.slice ao (x.th.out.length+1) cp) J_.out (by rw[List.length_append,mU];exact HR.out) hne;have g2:(w2.setCell ⟨tb,n*13+11,none⟩ (.slice ao (x.th.out.length+1) cp)).cell? ⟨w.heap.size,2,none⟩=some (.int .u8 (ra:Int)):=by
   rw[World.cell?_of_block (w:=w0) ((dO _ _ _ _ hsz).trans (J_.out.block _ hws (fun e=>absurd (HOX.out w.heap.size e) (Nat.lt_irrefl _))))];exact d2
  have gA:=h2.cell (gM HX.out _) (1+ra) _ (vY _ ra hra);rw[<-Nat.add_assoc] at gA;have H2:=ag h2;have pE:=ag (bH.gY (S:=NZ own) (bH.of_below HB.out) ((bH.gY (S:=NZ own) (bH.refl _ w0) J_.out (fun k _ e=>by show own k≠0;rw[(H0.out.th n x HX.out).outT k e];omega)).setCell (p:=⟨tb,n*13+11,none⟩) (.inl (by show own tb≠0;rw[H3.out];decide)) (.slice ao (x.th.out.length+1) cp)) (fun k _ e=>e));have UN:=ag (fun k (hk:k<w0.heap.size)=>(iT (own:=own) (v:=.slice ao (x.th.out.length+1) cp) (p:=7+3*n) hk));clear h2 hne d2 rA c11 f11;simp only at gA;generalize w2.setCell ⟨tb,n*13+11,none⟩ (.slice ao (x.th.out.length+1) cp)=w3 at H2 pE g2 gA⊢;generalize retag own (.slice ao (x.th.out.length+1) cp) (7+3*n) w0.heap.size=dG at H2 UN;go_region_held3 (fun w'=>w'.cell? ⟨w.heap.size,2,none⟩=some (.int .u8 (ra:Int))/\w'.cell? ⟨tb,n*13+1+ra,none⟩=some (.int .i64 (x.th.reg ra))) (first|exact⟨g2,gA⟩|exact⟨T_.out.cell g2 (by show ¬(dG w.heap.size=1\/dG w.heap.size=4);rw[UN.out _ hws,YE.out];decide),T_.out.cell gA (by show ¬(dG tb=1\/dG tb=4);rw[UN.out _ htb,H3.out];decide)⟩) (first|(go_at_call 71;refine(r_ H2.out.drew HE.out n 9 (x.th.reg ra) 0).mono ?_;rintro e w1 ⟨rfl,hp⟩;have HP:=ag hp;have T_:=ag hp.2;clear hp;dsimp only))
  obtain⟨⟨jA,ev',hm,ho⟩,hc⟩:=HP.out;obtain⟨e9,g9,H5,HO,QC⟩:=YY (gM HX.out _) (by rw[List.length_set];omega) hm pE.out.drew hc (fun k hk=>UN.out k (by have:=HB.out.size;omega)) ho;clear hm ho hc gA g2;go_wp2_with fail;go_end0;exact⟨rfl,dF.xD H5.out (gM HX.out _) HO.out QC.out (by simp[MM.act,MM.put,MM.tell,MT.next,MT.r])⟩)
theorem Pj (p:J7 w base b own mm xs mv ev tb cap n x ra rb rc) (a:Int) (hfull:x.th.wait.length<64) (ha:0<=a/\a<262144):xS w base b own tb n 5 bn ra rb rc num a (mm.act n x.th ⟨5,bn,ra,rb,rc,num⟩ a):=by
 obtain⟨hp,d0,f9,yl,yj,zo,hn,hw1,hsz,H0,HB,HX,H,H3,hra,hrb,hrc⟩:=qx p 5 bn num rfl;have HP:=ag hp;obtain⟨d1,d2,d3,d4,d5,rA,rB,rC,pg,hws,fA,fB⟩:=hp;obtain⟨i0,hi,hz0,hz1,hz2⟩:=info_parts Py;obtain⟨wo,wc,hwv⟩:=(H.out.th n x HX.out).wait.shape;have hwt:=(H0.out.th n x HX.out).wait;have XR:=(H.out.th n x HX.out).Aq;have c10:(w.alloc (qY 5 bn ra rb rc num)).cell? ⟨tb,n*13+10,none⟩=some (.slice wo x.th.wait.length wc):=by rw[<-hwv];exact H0.out.cell HX.out 10 _ rfl
 rw[hwv] at hwt XR;have Ij:=ag hwt;have abk:=ag XR;have Zv:=ag hwv;have WM:=ag hfull;have f10:(w.alloc (qY 5 bn ra rb rc num)).frozen? ⟨tb,n*13+10,none⟩=false:=H0.out.free (tb:=tb) (by omega:0<xs.length) _;have htb:tb<(w.alloc (qY 5 bn ra rb rc num)).heap.size:=(cK H0.out.aM (g:=tb) rfl).2;have ea:IntKind.i64.wrap a=a:=IntWalk.i64_in _ (by omega);clear hfull hwt XR hwv;clear p;unfold xS;go_in;go_wp2_with fail;try generalize w.alloc (qY 5 bn ra rb rc num)=w0 at*
 clear rA rC d0 d1 d2 d4 d5 pg fA fB f9
 go_region_law (first|(refine Bi (by rfl) (.tmp 121) (.tmp 131) 28 (by rfl) base 99 i0 _ 2 16 Tryz.underlying28 hi hz0 hz1 hz2 rfl (by decide) (.slice wo x.th.wait.length wc) x.th.wait.length (x.th.wait.flatMap iI) (by simp[Act.eval]) (by exact Ij.out.below (((aQ w0.heap.size w0).alloc (aR _) _).drew)) ⟨w0.heap.size,0,none⟩ 1 1 (by decide) (iI (a,x.th.reg rb)) (by simp[Act.eval]) rfl (by exact kK (aX w0 _)) (V9 _) (by have:=WM.out;unfold maxLen;omega) (by have:=WM.out;omega) (by have:=H0.out.eX;show base<=(w0.alloc _).heap.size;rw[World.size_alloc];omega) ?_;intro ao cp w2 h1 h2 h3;have hg0:bH (fun k=>(Value.slice wo x.th.wait.length wc).ownBlock=some k) w0 w2:=bH.grown (S:=fun k=>(Value.slice wo x.th.wait.length wc).ownBlock=some k) (((bH.refl _ w0).alloc _).drew) h3 (fun k hk=>.inl hk);have hbt:w2.heap[tb]? =w0.heap[tb]?:=hg0.block tb htb (fun e=>by have h7:=abk.out tb e;rw[H3.out] at h7;omega);have s1:w2.cell? ⟨tb,n*13+10,none⟩=some (.slice wo x.th.wait.length wc):=(World.cell?_of_block hbt).trans c10;have s2:w2.frozen? ⟨tb,n*13+10,none⟩=false:=(by have f12:=f10;unfold World.frozen? at f12⊢;rw[hbt];exact f12);have J_:=ag hg0;have HR:=ag h1;have GV:=ag h2;clear h1 h2 h3 hg0 hbt))
 all_goals (
  have hne:∀g,(Value.slice ao (x.th.wait.length+1) cp).ownBlock=some g->x.wv.ownBlock=some g\/w0.heap.size<=g:=fun g hg=>by
   rcases GV.out g hg with e|e
   ·exact .inl (by rw[Zv.out];exact e)
   ·exact .inr (by have e':(w0.alloc _).heap.size<=g:=e;rw[World.size_alloc] at e';omega)
  have h2:=H0.out.waited HX.out (x.th.wait++[(a,x.th.reg rb)]) (.slice ao (x.th.wait.length+1) cp) (by rw[Zv.out];exact J_.out) (by rw[List.length_append,mU];exact HR.out) hne;have e9:=h2.cell (gM HX.out _) 9 _ rfl;have g9:=h2.free (by rw[List.length_set];omega) (n*13+9);have H2:=ag h2;have pE:=ag (bH.gY (S:=NZ own) (bH.of_below HB.out) ((bH.gY (S:=NZ own) (bH.refl _ w0) J_.out (fun k _ e=>by show own k≠0;rw[abk.out k e];omega)).setCell (p:=⟨tb,n*13+10,none⟩) (.inl (by show own tb≠0;rw[H3.out];decide)) (.slice ao (x.th.wait.length+1) cp)) (fun k _ e=>e));have UN:=ag (fun k (hk:k<w.heap.size)=>(iT (own:=own) (v:=.slice ao (x.th.wait.length+1) cp) (p:=6+3*n) (Nat.lt_of_lt_of_le hk HB.out.size)));clear h2 hne d3 rB c10 f10;simp only at e9;generalize(w2.setCell ⟨tb,n*13+10,none⟩ (.slice ao (x.th.wait.length+1) cp))=w3 at H2 pE e9 g9⊢;go_wp2_with fail;go_end0;exact⟨rfl,dF.xD H2.out (gM HX.out _) UN.out pE.out (by simp[MM.act,MM.put,MT.next,MT.r])⟩)
end Go.Proofs.YtopdcjimpdalpaaGreat

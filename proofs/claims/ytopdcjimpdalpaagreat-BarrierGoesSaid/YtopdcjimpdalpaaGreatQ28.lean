import Derived.Test.YtopdcjimpdalpaaGreatQ27
import Derived.StillTailTactics
namespace Go.Proofs.YtopdcjimpdalpaaGreat
open Go.RowKit
set_option linter.all false
set_option maxHeartbeats 2000000
set_option maxRecDepth 100000
abbrev J6 (own:Nat->Nat):Nat->Prop:=fun k=>own k≠0/\¬(5<=own k/\own k%3=2)
def MT.stops (t:MT) (o:bM):Option Int:=
 if o.kind=3 then(if gL o.bn (t.r o.a) (t.r o.b)=none then some 2 else none)
 else if o.kind=13 then some o.n
 else if o.kind=14 then some 1
 else none
def gQ (base b:Nat) (own:Nat->Nat) (mm:MM) (xs:List TX) (tb cap n:Nat) (x:TX) (o:bM) (a:Int) (w:World) (r:Ending) (w':World):Prop:=
 (x.th.stops o=none/\∃nx own' iZ xs' x' mv' ev',r= .returned (.int .i64 nx)/\eZ w' base b own' iZ xs' mv' (.slice (some ⟨tb,0,none⟩) xs'.length cap) ev'/\xs'.length=xs.length/\xs'[n]? =some x'/\iZ.put n {x'.th with at_:=nx}=mm.act n x.th o a/\
  (∀k,k<w.heap.size->own' k=own k)/\bH (J6 own) w w')\/
 (∃k,x.th.stops o=some k/\r= .panicked [qP k]/\Below w.heap.size w w'/\mm.act n x.th o a=mm.stop n x.th k/\1<=k/\k<256)
theorem MM.yz (mm:MM) (n:Nat) (t u:MT):(mm.put n t).put n u=mm.put n u:=by simp[MM.put]
variable {w w':World} {base b:Nat} {own own':Nat->Nat} {mm:MM} {xs:List TX} {mv ev:Value} {tb cap n:Nat} {x:TX}
theorem oG {r:Ending} {o:bM} {a nx:Int} {y:TX} {iZ:MM} {w1:World} (hx:xs[n]? =some x) (hr:r= .returned (.int .i64 nx)) (hm:eZ w1 base b own iZ (xs.set n y) mv (.slice (some ⟨tb,0,none⟩) (xs.set n y).length cap) ev)
  (he:iZ.put n {y.th with at_:=nx}=mm.act n x.th o a) (hc:bH (J6 own) w w1) (hs:x.th.stops o=none):gQ base b own mm xs tb cap n x o a w r w1:=
 .inl ⟨hs,nx,own,iZ,xs.set n y,y,mv,ev,hr,hm,by simp,gM hx y,he,fun _ _=>rfl,hc⟩
theorem v_ {r:Ending} {o:bM} {a nx:Int} {w1:World} (hx:xs[n]? =some x) (hr:r= .returned (.int .i64 nx)) (hm:eZ w1 base b own mm xs mv (.slice (some ⟨tb,0,none⟩) xs.length cap) ev)
  (he:mm.put n {x.th with at_:=nx}=mm.act n x.th o a) (hc:bH (J6 own) w w1) (hs:x.th.stops o=none):gQ base b own mm xs tb cap n x o a w r w1:=
 .inl ⟨hs,nx,own,mm,xs,x,mv,ev,hr,hm,rfl,hx,he,fun _ _=>rfl,hc⟩
theorem Ap {w:World} {a p:Addr} {u v:Value} (h:w.cell? a=some v) (hn:¬a.block=p.block):(w.setCell p u).drew.cell? a=some v:=by
 show(w.setCell p u).cell? a=some v;rw[World.cell?_of_block (w:=w) (dO _ _ _ _ hn)];exact h
theorem eZ.U7 (h:eZ w base b own mm xs mv (.slice (some ⟨tb,0,none⟩) xs.length cap) ev) (hx:xs[n]? =some x) (hc:bH (fun k=>k=x.bb) w w') {q:List (Int×Int)} {c:Array Value} {f:Nat} (hr:Ring w' x.bb q c f):
  eZ w' base b own (mm.put n {x.th with wait:=q}) (xs.set n {x with th:={x.th with wait:=q}}) mv (.slice (some ⟨tb,0,none⟩) (xs.set n {x with th:={x.th with wait:=q}}).length cap) ev:=by
 rw[List.length_set];exact h.Rc hx hc hr
theorem Nz:(Tryz.prog.info? 2).map (fun i=>(i.zero,i.size,i.bytes))=some (some (.int .i64 0),1,8):=by kernel_rfl
theorem Xt (z:Int):∀u∈encI z,u.oneCell'=true:=by
 intro u hu;simp[encI] at hu;rcases hu with rfl;rfl
def SN (base b:Nat) (own:Nat->Nat) (mm:MM) (xs:List TX) (mv ev:Value) (tb cap n:Nat) (x:TX) (ra:Nat) (v:Int) (w:World) (r:Ending) (w':World):Prop:=
 r= .returned (.int .i64 (x.th.at_+1))/\eZ w' base b own (mm.put n {x.th with reg:=upd x.th.reg ra v}) (xs.set n {x with th:={x.th with reg:=upd x.th.reg ra v}}) mv (.slice (some ⟨tb,0,none⟩) (xs.set n {x with th:={x.th with reg:=upd x.th.reg ra v}}).length cap) ev/\bH (J6 own) w w'
theorem wu {a0 a1:World} (h:Below a0.heap.size a0 a1):bH (J6 own) a0 a1:=bH.of_below h
variable {bn num:Int} {ra rb rc mb mc:Nat}
abbrev qY (K bn:Int) (ra rb rc:Nat) (num:Int):Obj:=.cells #[.int .u8 K,.int .u8 bn,.int .u8 (ra:Int),.int .u8 (rb:Int),.int .u8 (rc:Int),.int .i64 num] 107
def vv (w:World) (base b:Nat) (own:Nat->Nat) (mm:MM) (xs:List TX) (mv ev:Value) (tb cap n:Nat) (x:TX) (ra rb rc:Nat):Prop:=
 eZ w base b own mm xs mv (.slice (some ⟨tb,0,none⟩) xs.length cap) ev/\xs[n]? =some x/\ra<8/\rb<8/\rc<8/\0<=x.th.at_/\x.th.at_<=262144
def mg (F:Nat) (w:World) (b tb n:Nat) (K bn:Int) (ra rb rc:Nat) (num a:Int) (Q:Ending->World->Prop):Prop:=
 Calls Tryz.prog F #[.pointer (some ⟨b,0,none⟩),.pointer (some ⟨tb,n*13,none⟩),.agg #[.int .u8 K,.int .u8 bn,.int .u8 (ra:Int),.int .u8 (rb:Int),.int .u8 (rc:Int),.int .i64 num],.int .i64 a] w Q
def OH (w w0:World) (tb n:Nat) (t:MT) (bn num:Int) (ra rb rc:Nat):Prop:=
 w0.cell? ⟨w.heap.size,1,none⟩=some (.int .u8 bn)/\w0.cell? ⟨w.heap.size,2,none⟩=some (.int .u8 (ra:Int))/\w0.cell? ⟨w.heap.size,3,none⟩=some (.int .u8 (rb:Int))/\w0.cell? ⟨w.heap.size,4,none⟩=some (.int .u8 (rc:Int))/\w0.cell? ⟨w.heap.size,5,none⟩=some (.int .i64 num)/\
 w0.cell? ⟨tb,n*13+1+ra,none⟩=some (.int .i64 (t.reg ra))/\w0.cell? ⟨tb,n*13+1+rb,none⟩=some (.int .i64 (t.reg rb))/\w0.cell? ⟨tb,n*13+1+rc,none⟩=some (.int .i64 (t.reg rc))/\w0.cell? ⟨tb,n*13+9,none⟩=some (.int .i64 t.at_)/\
 w.heap.size<w0.heap.size/\w0.frozen? ⟨tb,n*13+1+ra,none⟩=false/\w0.frozen? ⟨tb,n*13+1+rb,none⟩=false
theorem ko (p:vv w base b own mm xs mv ev tb cap n x ra rb rc) (K bn num:Int) {w0:World} (e:w.alloc (.cells #[.int .u8 K,.int .u8 bn,.int .u8 (ra:Int),.int .u8 (rb:Int),.int .u8 (rc:Int),.int .i64 num] 107)=w0):
  OH w w0 tb n x.th bn num ra rb rc/\(ra:Int)<8/\(rb:Int)<8/\(rc:Int)<8/\n<xs.length/\IntKind.i64.wrap (x.th.at_+1)=x.th.at_+1/\Hid (tb≠w.heap.size)/\Hid (eZ w0 base b own mm xs mv (.slice (some ⟨tb,0,none⟩) xs.length cap) ev)/\Hid (Below w.heap.size w w0)/\
  Hid (xs[n]? =some x)/\Hid (eZ w base b own mm xs mv (.slice (some ⟨tb,0,none⟩) xs.length cap) ev)/\ra<8/\rb<8/\rc<8/\Hid (0<=x.th.at_/\x.th.at_<=262144):=by
 obtain⟨h,hx,hra,hrb,hrc,hat⟩:=p;subst e;have hb0:=(aQ w.heap.size w).alloc (aR _) (.cells #[.int .u8 K,.int .u8 bn,.int .u8 (ra:Int),.int .u8 (rb:Int),.int .u8 (rc:Int),.int .i64 num] 107);have h0:=h.below hb0;have gy:=aX w (.cells #[.int .u8 K,.int .u8 bn,.int .u8 (ra:Int),.int .u8 (rb:Int),.int .u8 (rc:Int),.int .i64 num] 107);have hn:n<xs.length:=(bE.1 hx).1;have fT:=h0.free (tb:=tb) (by omega:0<xs.length);have hr:∀r,r<8->(w.alloc (.cells #[.int .u8 K,.int .u8 bn,.int .u8 (ra:Int),.int .u8 (rb:Int),.int .u8 (rc:Int),.int .i64 num] 107)).cell? ⟨tb,n*13+1+r,none⟩=some (.int .i64 (x.th.reg r)):=fun r h=>by
  rw[Nat.add_assoc];exact h0.cell hx _ _ (vX x r h)
 exact⟨⟨af gy rfl,af gy rfl,af gy rfl,af gy rfl,af gy rfl,hr _ hra,hr _ hrb,hr _ hrc,h0.cell hx 9 _ rfl,by simp,fT _,fT _⟩,
  by omega,by omega,by omega,hn,IntWalk.i64_in _ (by omega),(by show tb≠w.heap.size;have:=(cK h.aM (g:=tb) rfl).2;omega),h0,hb0,hx,h,hra,hrb,hrc,hat⟩
theorem rf {w0:World} {tv:Value} (h0:Hid (eZ w0 base b own mm xs (.slice (some ⟨mb,0,none⟩) mm.mem.length mc) tv ev)) {a:Nat} (ha:a<mm.mem.length):∃M0,w0.cell? ⟨b,1,none⟩=some (.slice (some ⟨mb,0,none⟩) mm.mem.length mc)/\
  w0.cell? ⟨mb,a,none⟩=some (.int .i64 M0)/\w0.frozen? ⟨mb,a,none⟩=false/\Hid (mm.at (a:Int)=M0):=⟨mm.mem.getD a 0,h0.out.iA 1 _ rfl,h0.out.yZ ha,h0.out.Cv (by omega:0<mm.mem.length) a,ag (show mm.at (a:Int)=mm.mem.getD a 0 from rfl)⟩
theorem rD {w1:World} {EW:MM} (HX:Hid (xs[n]? =some x)) (H:Hid (eZ w base b own mm xs mv (.slice (some ⟨tb,0,none⟩) xs.length cap) ev)) (h1:eZ w1 base b own EW xs mv (.slice (some ⟨tb,0,none⟩) xs.length cap) ev) (hc:bH (J6 own) w w1) {r:Nat} (hr:r<8) (v:Int):
  Hid (eZ (w1.setCell ⟨tb,n*13+1+r,none⟩ (.int .i64 v)).drew base b own (EW.put n {x.th with reg:=upd x.th.reg r v}) (xs.set n {x with th:={x.th with reg:=upd x.th.reg r v}}) mv (.slice (some ⟨tb,0,none⟩) (xs.set n {x with th:={x.th with reg:=upd x.th.reg r v}}).length cap) ev)/\
  Hid (bH (J6 own) w (w1.setCell ⟨tb,n*13+1+r,none⟩ (.int .i64 v)).drew)/\(w1.setCell ⟨tb,n*13+1+r,none⟩ (.int .i64 v)).drew.cell? ⟨tb,n*13+9,none⟩=some (.int .i64 x.th.at_):=by
 have h2:=(h1.aT HX.out {x with th:={x.th with reg:=upd x.th.reg r v}} (1+r) (.int .i64 v) (by omega) (IM x v r hr) rfl rfl rfl rfl rfl rfl).drew;rw[<-Nat.add_assoc] at h2;exact⟨h2,bH.gY hc (((bH.refl (fun k=>k=tb) _).setCell (p:=⟨tb,_,none⟩) (.inl rfl) _).drew) (fun k _ e=>by rw[e];show own tb≠0/\¬(5<=own tb/\own tb%3=2);rw[H.out.fo tb rfl];decide),h2.cell (gM HX.out _) 9 _ rfl⟩
theorem JB {w1:World} {u:Value} (H:Hid (eZ w base b own mm xs (.slice (some ⟨mb,0,none⟩) mm.mem.length mc) (.slice (some ⟨tb,0,none⟩) xs.length cap) ev)) (h1:eZ w1 base b own mm xs (.slice (some ⟨mb,0,none⟩) mm.mem.length mc) (.slice (some ⟨tb,0,none⟩) xs.length cap) ev) (hc:bH (J6 own) w w1) {a:Nat} (ha:a<mm.mem.length) (v:Int) (d:w1.cell? ⟨w.heap.size,3,none⟩=some u):
  ∃w2,(w1.setCell ⟨mb,a,none⟩ (.int .i64 v)).drew=w2/\Hid (eZ w2 base b own {mm with mem:=mm.mem.set a v} xs (.slice (some ⟨mb,0,none⟩) mm.mem.length mc) (.slice (some ⟨tb,0,none⟩) xs.length cap) ev)/\Hid (bH (J6 own) w w2)/\w2.cell? ⟨w.heap.size,3,none⟩=some u:=
 ⟨_,rfl,(h1.word ha v).drew,bH.gY hc (((bH.refl (fun k=>k=mb) _).setCell (p:=⟨mb,a,none⟩) (.inl rfl) _).drew) (fun k _ e=>by rw[e];show own mb≠0/\¬(5<=own mb/\own mb%3=2);rw[H.out.memT mb rfl];decide),Ap d (by show ¬w.heap.size=mb;have:=(cK H.out.mem (g:=mb) rfl).2;omega)⟩
theorem GI {w1:World} {EW:MM} {ev:Value} (HX:Hid (xs[n]? =some x)) (h1:Hid (eZ w1 base b own EW xs mv (.slice (some ⟨tb,0,none⟩) xs.length cap) ev)) {r:Nat} (hr:r<8):
  w1.cell? ⟨tb,n*13+1+r,none⟩=some (.int .i64 (x.th.reg r))/\w1.frozen? ⟨tb,n*13+1+r,none⟩=false:=by
 have q2:=h1.out.cell HX.out (1+r) _ (vX x r hr);rw[<-Nat.add_assoc] at q2;exact⟨q2,h1.out.free (by have:=(bE.1 HX.out).1;omega) _⟩
theorem Bv {w0:World} (H0:Hid (eZ w0 base b own mm xs mv (.slice (some ⟨tb,0,none⟩) xs.length cap) ev)) (HB:Hid (Below w.heap.size w w0)) (HP:Hid (OH w w0 tb n x.th bn num ra rb rc)) (nq:Nat):
  ∃w1,w0.drewN nq=w1/\Hid (eZ w1 base b own mm xs mv (.slice (some ⟨tb,0,none⟩) xs.length cap) ev)/\Hid (Below w.heap.size w w1)/\OH w w1 tb n x.th bn num ra rb rc:=⟨_,rfl,H0.out.drewN nq,below_drewN HB.out nq,HP.out⟩
theorem Mc {w1 w2:World} {dG:Nat->Nat} (hc:bH (J6 own) w w1) (h:bH (fun k=>dG k=1\/dG k=4) w1.drew w2) (ho:∀k,k<w.heap.size->dG k=own k):bH (J6 own) w w2:=
 bH.gY (S:=J6 own) hc ((bH.refl (fun k=>dG k=1\/dG k=4) w1).drew.trans h) (fun k hk e=>by
  have h1:=ho k hk;show own k≠0/\¬(5<=own k/\own k%3=2);rw[<-h1];rcases e with e|e<;>rw[e]<;>decide)
theorem WE (p:vv w base b own mm xs mv ev tb cap n x ra rb rc) (a:Int):
  mg 143 w b tb n 1 bn ra rb rc num a (gQ base b own mm xs tb cap n x ⟨1,bn,ra,rb,rc,num⟩ a w):=by
 obtain⟨hp,yl,yj,zo,hn,hw1,HS,H0,HB,HX,H,hra,hrb,hrc,HAT⟩:=ko p 1 bn num rfl;have HP:=ag hp;obtain⟨d1,d2,d3,d4,d5,rA,rB,rC,pg,hws,fA,fB⟩:=hp;clear p;unfold mg;go_in;go_wp2_with fail;try generalize w.alloc (qY 1 bn ra rb rc num)=w0 at*
 go_region;obtain⟨H2,pE,e9⟩:=rD HX H H0.out (bH.of_below HB.out) hra (num);clear rA rB rC pg fA fB;go_wp2_with fail;go_ret;exact oG HX.out rfl H2.out (by simp[MM.act,MM.yz,MT.goes]) pE.out (by simp[MT.stops])
theorem Rm (p:vv w base b own mm xs mv ev tb cap n x ra rb rc) (a:Int):
  mg 144 w b tb n 2 bn ra rb rc num a (gQ base b own mm xs tb cap n x ⟨2,bn,ra,rb,rc,num⟩ a w):=by
 obtain⟨hp,yl,yj,zo,hn,hw1,HS,H0,HB,HX,H,hra,hrb,hrc,HAT⟩:=ko p 2 bn num rfl;have HP:=ag hp;obtain⟨d1,d2,d3,d4,d5,rA,rB,rC,pg,hws,fA,fB⟩:=hp;clear p;unfold mg;go_in;go_wp2_with fail;try generalize w.alloc (qY 2 bn ra rb rc num)=w0 at*
 go_region;obtain⟨H2,pE,e9⟩:=rD HX H H0.out (bH.of_below HB.out) hra (x.th.reg rb);clear rA rB rC pg fA fB;go_wp2_with fail;go_ret;exact oG HX.out rfl H2.out (by simp[MM.act,MM.yz,MT.goes,MT.r]) pE.out (by simp[MT.stops])
theorem Uc (p:vv w base b own mm xs mv ev tb cap n x ra rb rc) (a:Int) (hj:0<=num/\num<=262144):
  mg 148 w b tb n 6 bn ra rb rc num a (gQ base b own mm xs tb cap n x ⟨6,bn,ra,rb,rc,num⟩ a w):=by
 obtain⟨hp,yl,yj,zo,hn,hw1,HS,H0,HB,HX,H,hra,hrb,hrc,HAT⟩:=ko p 6 bn num rfl;have HP:=ag hp;obtain⟨d1,d2,d3,d4,d5,rA,rB,rC,pg,hws,fA,fB⟩:=hp;clear p;unfold mg;go_in;go_wp2_with fail;try generalize w.alloc (qY 6 bn ra rb rc num)=w0 at*
 go_ret;exact v_ HX.out rfl H0.out (by simp[MM.act]) (wu HB.out) (by simp[MT.stops])
theorem Om (p:vv w base b own mm xs mv ev tb cap n x ra rb rc) (a:Int):
  mg 152 w b tb n 10 bn ra rb rc num a (gQ base b own mm xs tb cap n x ⟨10,bn,ra,rb,rc,num⟩ a w):=by
 obtain⟨hp,yl,yj,zo,hn,hw1,HS,H0,HB,HX,H,hra,hrb,hrc,HAT⟩:=ko p 10 bn num rfl;have HP:=ag hp;obtain⟨d1,d2,d3,d4,d5,rA,rB,rC,pg,hws,fA,fB⟩:=hp;clear p;unfold mg;go_in;go_wp2_with fail;try generalize w.alloc (qY 10 bn ra rb rc num)=w0 at*
 go_ret;exact v_ HX.out rfl H0.out (by simp[MM.act,MT.next]) (wu HB.out) (by simp[MT.stops])
theorem Tv (p:vv w base b own mm xs mv ev tb cap n x ra rb rc) (a:Int) (hj:0<=num/\num<=262144):
  mg 149 w b tb n 7 bn ra rb rc num a (gQ base b own mm xs tb cap n x ⟨7,bn,ra,rb,rc,num⟩ a w):=by
 obtain⟨hp,yl,yj,zo,hn,hw1,HS,H0,HB,HX,H,hra,hrb,hrc,HAT⟩:=ko p 7 bn num rfl;have HP:=ag hp;obtain⟨d1,d2,d3,d4,d5,rA,rB,rC,pg,hws,fA,fB⟩:=hp;clear p;by_cases hz:x.th.reg ra=0
 ·rw[hz] at rA;have HZ:=ag hz;clear hz;unfold mg;go_in;go_wp2_with fail;try generalize w.alloc (qY 7 bn ra rb rc num)=w0 at*
  go_quiet (fail)
  go_wp2_with fail;go_ret;exact v_ HX.out rfl (H0.out.drewN _) (by simp[MM.act,MT.r,HZ.out]) ((wu HB.out).drewN _) (by simp[MT.stops])
 ·have hz1:(x.th.reg ra==0)=false:=by rw[bY];exact hz
  unfold mg;go_in;go_wp2_with fail;try generalize w.alloc (qY 7 bn ra rb rc num)=w0 at*
  go_quiet (fail)
  go_wp2_with fail;go_ret;exact v_ HX.out rfl (H0.out.drewN _) (by simp[MM.act,MT.r,hz]) ((wu HB.out).drewN _) (by simp[MT.stops])
theorem Ua (p:vv w base b own mm xs mv ev tb cap n x ra rb rc) {a:Nat} (ha:a<mm.mem.length):
  mg 151 w b tb n 9 bn ra rb rc num (a:Int) (gQ base b own mm xs tb cap n x ⟨9,bn,ra,rb,rc,num⟩ (a:Int) w):=by
 obtain⟨mb,mc,rfl,hmb⟩:=p.1.nZ (by omega);obtain⟨hp,yl,yj,zo,hn,hw1,HS,H0,HB,HX,H,hra,hrb,hrc,HAT⟩:=ko p 9 bn num rfl;have HP:=ag hp;obtain⟨d1,d2,d3,d4,d5,rA,rB,rC,pg,hws,fA,fB⟩:=hp;obtain⟨M0,c1,cM,fM,BB⟩:=rf H0 ha;obtain⟨V,hV⟩:∃V,V=fq (M0+x.th.reg rb):=⟨_,rfl⟩;have eV:IntKind.i64.wrap (M0+x.th.reg rb)=V:=by rw[hV];exact zm _
 have HV:=ag hV;clear hV;clear p;unfold mg;go_in;go_wp2_with fail;try generalize w.alloc (qY 9 bn ra rb rc num)=w0 at*
 go_region;obtain⟨w2,ew,H2,pE,g3⟩:=JB H H0.out (bH.of_below HB.out) ha (V) d3;rw[ew];clear rA rB rC pg fA fB c1 cM fM d1 d2 d3 d4 d5 ew;obtain⟨q2,q3⟩:=GI HX H2 hrb;go_wp2_with fail;go_region;obtain⟨H3,QC,e9⟩:=rD HX H H2.out pE.out hrb (M0);clear q2 q3;go_wp2_with fail;go_ret;refine oG HX.out rfl H3.out ?_ QC.out (by simp[MT.stops]);rw[HV.out];simp[MM.act,MM.put,MT.goes,MT.r,BB.out]
theorem Jz {kd:Int} (p:vv w base b own mm xs mv ev tb cap n x ra rb rc) {a:Nat} (ha:a<mm.mem.length):
  mg 146 w b tb n kd bn ra rb rc num (a:Int) (SN base b own mm xs mv ev tb cap n x ra (mm.found x.th a) w):=by
 obtain⟨mb,mc,rfl,hmb⟩:=p.1.nZ (by omega);obtain⟨hp,yl,yj,zo,hn,hw1,HS,H0,HB,HX,H,hra,hrb,hrc,HAT⟩:=ko p kd bn num rfl;have HP:=ag hp;obtain⟨d1,d2,d3,d4,d5,rA,rB,rC,pg,hws,fA,fB⟩:=hp;obtain⟨M0,c1,cM,fM,BB⟩:=rf H0 ha;obtain⟨rc0,Su,EJ⟩:∃c f,Hid (Ring (w.alloc (qY kd bn ra rb rc num)) x.bb x.th.wait c f):=(H0.out.th n x HX.out).ring;have cW:(w.alloc (qY kd bn ra rb rc num)).cell? ⟨tb,n*13+10,none⟩=some (.pointer (some ⟨x.bb,0,none⟩)):=H0.out.cell HX.out 10 _ rfl;clear p;unfold mg;go_in;go_wp2_with fail;try generalize w.alloc (qY kd bn ra rb rc num)=w0 at*
 refine(Ty EJ.out (a:Int)).mono ?_;rintro r w1 ⟨rfl,nq,rfl⟩;cases hf:jS x.th.wait a with
 |some v=>
  rw[show DD x.th.wait a= .tuple #[.int .i64 v,.bool true] from by unfold DD;rw[hf]];have HF:=ag (show mm.found x.th a=v from by unfold MM.found;rw[hf];rfl);clear hf;go_wp2_with fail;clear d1 d2 d3 d4 d5 rA rB rC pg hws cW EJ fA fB c1 cM fM;obtain⟨w1,ew,H1,HB1, -,d2,d3,d4, -,rA,rB,rC, -, -,fA,fB⟩:=Bv H0 HB HP nq;obtain⟨N0,c1,cM,fM,hN0⟩:=rf H1 ha;obtain rfl:N0=M0:=hN0.out.symm.trans BB.out;rw[ew];clear ew HP H0 HB hN0;go_region;obtain⟨H2,pE,e9⟩:=rD HX H H1.out (bH.of_below HB1.out) hra (v);clear rA rB rC fA fB;go_wp2_with fail;go_ret;exact⟨rfl,by rw[HF.out];exact H2.out,pE.out⟩
 |none=>
  rw[show DD x.th.wait a= .tuple #[.int .i64 0,.bool false] from by unfold DD;rw[hf]];have HF:=ag (show mm.found x.th a=M0 from by unfold MM.found;rw[hf,BB.out];rfl);clear hf;go_wp2_with fail;clear d1 d2 d3 d4 d5 rA rB rC pg hws cW EJ fA fB c1 cM fM;obtain⟨w1,ew,H1,HB1, -,d2,d3,d4, -,rA,rB,rC, -, -,fA,fB⟩:=Bv H0 HB HP nq;obtain⟨N0,c1,cM,fM,hN0⟩:=rf H1 ha;obtain rfl:N0=M0:=hN0.out.symm.trans BB.out;rw[ew];clear ew HP H0 HB hN0;go_region;obtain⟨H2,pE,e9⟩:=rD HX H H1.out (bH.of_below HB1.out) hra (N0);clear rA rB rC fA fB;go_wp2_with fail;go_ret;exact⟨rfl,by rw[HF.out];exact H2.out,pE.out⟩
theorem Qw (p:vv w base b own mm xs mv ev tb cap n x ra rb rc) {a:Nat} (ha:a<mm.mem.length):
  mg 146 w b tb n 4 bn ra rb rc num (a:Int) (gQ base b own mm xs tb cap n x ⟨4,bn,ra,rb,rc,num⟩ (a:Int) w):=by
 refine Calls.mono (Jz p ha) ?_;rintro r w1 ⟨rfl,hm,hc⟩;exact oG p.2.1 rfl hm (by simp[MM.act,MM.put,MT.goes]) hc (by simp[MT.stops])
theorem QT (p:vv w base b own mm xs mv ev tb cap n x ra rb rc) {a:Nat} (ha:a<mm.mem.length) (hev:mm.evs.length<1000000000) (h4:xs.length<=4):
  mg 157 w b tb n 15 bn ra rb rc num (a:Int) (gQ base b own mm xs tb cap n x ⟨15,bn,ra,rb,rc,num⟩ (a:Int) w):=by
 obtain⟨mb,mc,rfl,hmb⟩:=p.1.nZ (by omega);obtain⟨hp,yl,yj,zo,hn,hw1,HS,H0,HB,HX,H,hra,hrb,hrc,HAT⟩:=ko p 15 bn num rfl;have HP:=ag hp;obtain⟨d1,d2,d3,d4,d5,rA,rB,rC,pg,hws,fA,fB⟩:=hp;obtain⟨M0,c1,cM,fM,BB⟩:=rf H0 ha;have HE:=ag hev;have H4:=ag h4;have HOWN:=ag (H.out.fresh _ (aR _));clear hev h4;clear p;unfold mg;go_in;go_wp2_with fail;try generalize w.alloc (qY 15 bn ra rb rc num)=w0 at*
 refine Calls.mono (Jz (kd:=15) ⟨H0.out,HX.out,hra,hrb,hrc,HAT.out⟩ ha) ?_;rintro r w1 ⟨rfl,hm,hc⟩;obtain⟨gA, -⟩:=GI (ag (gM HX.out _)) (ag hm) hra;have gA':w1.cell? ⟨tb,n*13+1+ra,none⟩=some (.int .i64 (mm.found x.th a)):=by simpa [upd] using gA
 have g2:w1.cell? ⟨w.heap.size,2,none⟩=some (.int .u8 (ra:Int)):=(World.cell?_of_block (w:=w0) (hc.block _ hws (fun e=>e.1 HOWN.out))).trans d2;have H2:=ag hm;have pE:=ag (bH.gY (S:=J6 own) (bH.of_below HB.out) hc (fun k _ e=>e));clear hm hc gA rA rB rC pg fA fB c1 cM fM d1 d2 d3 d4 d5;go_wp2_with fail;go_still_tail 9,(by kernel_rfl)
 go_wp2_with fail;refine(sH H2.out.drew (gM HX.out _) HE.out (by rw[List.length_set];exact H4.out) 1 (mm.found x.th a) 0).mono ?_;rintro e w4 ⟨rfl,⟨⟨jA,ev',hm,ho⟩,hc⟩⟩;have H5:=ag hm;have HO:=ag (show ∀k,k<w.heap.size->jA k=own k from fun k hk=>ho k (by
  have h1:=pE.out.size;show k<w1.heap.size;omega))
 have QC:=ag (Mc pE.out hc (fun _ _=>rfl));clear hm ho hc gA' g2;go_wp2_with fail;go_ret;exact .inl ⟨by simp[MT.stops],_,jA,_,_,_,_,ev',rfl,H5.out,by simp,gM HX.out _,by simp[MM.act,MM.put,MM.tell,MT.goes],HO.out,QC.out⟩
theorem Vk (p:vv w base b own mm xs mv ev tb cap n x ra rb rc) {a:Nat} (ha:a<mm.mem.length):
  mg 150 w b tb n 8 bn ra rb rc num (a:Int) (gQ base b own mm xs tb cap n x ⟨8,bn,ra,rb,rc,num⟩ (a:Int) w):=by
 obtain⟨mb,mc,rfl,hmb⟩:=p.1.nZ (by omega);obtain⟨hp,yl,yj,zo,hn,hw1,HS,H0,HB,HX,H,hra,hrb,hrc,HAT⟩:=ko p 8 bn num rfl;have HP:=ag hp;obtain⟨d1,d2,d3,d4,d5,rA,rB,rC,pg,hws,fA,fB⟩:=hp;obtain⟨M0,c1,cM,fM,BB⟩:=rf H0 ha;clear p;unfold mg;go_in;go_wp2_with fail;try generalize w.alloc (qY 8 bn ra rb rc num)=w0 at*
 by_cases he:M0=x.th.reg rb
 ·have hb1:(M0==x.th.reg rb)=true:=by simpa using he
  have HE:=ag he;clear he;go_quiet (fail)
  go_wp2_with fail;clear d1 d2 d3 d4 d5 rA rB rC pg hws fA fB c1 cM fM;obtain⟨w1,ew,H1,HB1, -,d2,d3,d4, -,rA,rB,rC, -, -,fA,fB⟩:=Bv H0 HB HP nq;obtain⟨N0,c1,cM,fM,hN0⟩:=rf H1 ha;obtain rfl:N0=M0:=hN0.out.symm.trans BB.out;rw[ew];clear ew HP H0 HB hN0;clear fA fB;go_region;obtain⟨w2,ew,H2,pE,g3⟩:=JB H H1.out (bH.of_below HB1.out) ha (x.th.reg rc) d3;rw[ew];clear ew rA rB rC c1 cM fM d2 d3 d4;obtain⟨q2,q3⟩:=GI HX H2 hrb;go_wp2_with fail;go_region;obtain⟨H3,QC,e9⟩:=rD HX H H2.out pE.out hrb (N0);clear q2 q3;go_wp2_with fail;go_ret;exact oG HX.out rfl H3.out (by simp[MM.act,MM.put,MT.goes,MT.r,BB.out,HE.out]) QC.out (by simp[MT.stops])
 ·have hb1:(M0==x.th.reg rb)=false:=by simpa using he
  have HE:=ag he;clear he;go_quiet (fail)
  go_wp2_with fail;clear d1 d2 d3 d4 d5 rA rB rC pg hws fA fB c1 cM fM;obtain⟨w1,ew,H1,HB1, -,d2,d3,d4, -,rA,rB,rC, -, -,fA,fB⟩:=Bv H0 HB HP nq;obtain⟨N0,c1,cM,fM,hN0⟩:=rf H1 ha;obtain rfl:N0=M0:=hN0.out.symm.trans BB.out;rw[ew];clear ew HP H0 HB hN0;go_region;obtain⟨H2,pE,e9⟩:=rD HX H H1.out (bH.of_below HB1.out) hrb (N0);clear rA rB rC fA fB;go_wp2_with fail;go_ret;exact oG HX.out rfl H2.out (by simp[MM.act,MM.put,MT.goes,MT.r,BB.out,HE.out]) pE.out (by simp[MT.stops])
theorem Pm (p:vv w base b own mm xs mv ev tb cap n x ra rb rc) (a:Int) (hfull:x.th.wait.length<64):
  mg 147 w b tb n 5 bn ra rb rc num a (gQ base b own mm xs tb cap n x ⟨5,bn,ra,rb,rc,num⟩ a w):=by
 obtain⟨hp,yl,yj,zo,hn,hw1,HS,H0,HB,HX,H,hra,hrb,hrc,HAT⟩:=ko p 5 bn num rfl;have HP:=ag hp;obtain⟨d1,d2,d3,d4,d5,rA,rB,rC,pg,hws,fA,fB⟩:=hp;obtain⟨rc0,Su,EJ⟩:∃c f,Hid (Ring (w.alloc (qY 5 bn ra rb rc num)) x.bb x.th.wait c f):=(H0.out.th n x HX.out).ring;have cW:(w.alloc (qY 5 bn ra rb rc num)).cell? ⟨tb,n*13+10,none⟩=some (.pointer (some ⟨x.bb,0,none⟩)):=H0.out.cell HX.out 10 _ rfl;clear p;unfold mg;go_in;go_wp2_with fail;try generalize w.alloc (qY 5 bn ra rb rc num)=w0 at*
 go_still_tail 12,(by kernel_rfl)
 go_wp2_with fail;refine(QY (w:=w0.drew) (EJ.out.drewN 1) hfull a (x.th.reg rb)).mono ?_;rintro e w1 ⟨rfl,⟨c',hr⟩,hc,hs⟩;have h2:=H0.out.drew.U7 HX.out hc hr;have e9:=h2.cell (gM HX.out _) 9 _ rfl;have H2:=ag h2;have pE:=ag (bH.gY (S:=J6 own) (bH.of_below HB.out) ((bH.refl (fun k=>k=x.bb) w0).drew.trans hc) (fun k _ e=>by rw[e];show own x.bb≠0/\¬(5<=own x.bb/\own x.bb%3=2);rw[(H.out.th n x HX.out).pQ.2];omega));clear h2 hr hc hs rA rB rC pg fA fB EJ cW;simp only at e9;go_wp2_with fail;go_ret;exact oG HX.out rfl H2.out (by simp[MM.act,MM.put,MT.next,MT.r]) pE.out (by simp[MT.stops])
theorem SG (p:vv w base b own mm xs mv ev tb cap n x ra rb rc) (a:Int):
  mg 145 w b tb n 3 bn ra rb rc num a (gQ base b own mm xs tb cap n x ⟨3,bn,ra,rb,rc,num⟩ a w):=by
 obtain⟨hp,yl,yj,zo,hn,hw1,HS,H0,HB,HX,H,hra,hrb,hrc,HAT⟩:=ko p 3 bn num rfl;have HP:=ag hp;obtain⟨d1,d2,d3,d4,d5,rA,rB,rC,pg,hws,fA,fB⟩:=hp;clear p;unfold mg;go_in;go_wp2_with fail;try generalize w.alloc (qY 3 bn ra rb rc num)=w0 at*
 have g1:=fun t=>fH d1 t
 have g2:=fun t=>fH d2 t
 have g3:=fun t=>fH d3 t
 have gA:=fun t=>fH rA t
 have gB:=fun t=>fH rB t
 clear d1 d3 d4 d5 rA rB rC pg fA fB;refine jb (by kernel_rfl) (by kernel_rfl) ?_;repeat (go_big_quiet_step ((first|(go_at_call 168;exact uF ((XH _ bn (x.th.reg ra) (x.th.reg rb)).mono fun r w' h=>⟨h.1,by rw[h.2];exact aQ _ _⟩)))))
 refine wpQuiet_nil ?_;intro w1 hb1;have H1:=ag (H0.out.below hb1);have d2':w1.cell? ⟨w.heap.size,2,none⟩=some (.int .u8 (ra:Int)):=(World.cell?_of_block (w:=w0) (hb1.block _ hws)).trans d2;obtain⟨rA',fA'⟩:=GI HX H1 hra;have HB1:=ag (HB.out.trans (hb1.mono HB.out.size));clear g1 g2 g3 gA gB hb1 d2 hws H0 HB HP;cases hf:gL bn (x.th.reg ra) (x.th.reg rb) with
 |some v=>
  rw[CB hf,Ca hf];have HF:=ag hf;clear hf;go_wp2_with fail;go_region;obtain⟨H2,pE,e9⟩:=rD HX H H1.out (bH.of_below HB1.out) hra (v);clear rA' fA';go_wp2_with fail;go_ret;exact oG HX.out rfl H2.out (by simp[MM.act,MM.put,MT.goes,MT.r,HF.out]) pE.out (by simp[MT.stops,MT.r,HF.out])
 |none=>
  rw[Dw hf,CR hf];have HF:=ag hf;generalize hg:(if bn=4\/bn=5 then(4:Int) else 1)=E;have hE:(E==0)=false:=by rw[<-hg];split<;>rfl
  clear hf hg;go_wp2_with fail;exact⟨rfl,.inr ⟨2,by simp[MT.stops,MT.r,HF.out],rfl,HB1.out,by simp[MM.act,MT.r,HF.out],by omega,by omega⟩⟩
theorem TV (p:vv w base b own mm xs mv ev tb cap n x ra rb rc) (a:Int) (hol:x.th.out.length<1000000000) (hev:mm.evs.length<1000000000) (h4:xs.length<=4):
  mg 153 w b tb n 11 bn ra rb rc num a (gQ base b own mm xs tb cap n x ⟨11,bn,ra,rb,rc,num⟩ a w):=by
 obtain⟨hp,yl,yj,zo,hn,hw1,HS,H0,HB,HX,H,hra,hrb,hrc,HAT⟩:=ko p 11 bn num rfl;have HP:=ag hp;obtain⟨d1,d2,d3,d4,d5,rA,rB,rC,pg,hws,fA,fB⟩:=hp;obtain⟨i0,hi,hz0,hz1,hz2⟩:=info_parts Nz;have QU:=ag (H0.out.th n x HX.out).out;have LV:=ag hol;have HE:=ag hev;have H4:=ag h4;have c11:(w.alloc (qY 11 bn ra rb rc num)).cell? ⟨tb,n*13+11,none⟩=some x.ov:=H0.out.cell HX.out 11 _ rfl;have f11:(w.alloc (qY 11 bn ra rb rc num)).frozen? ⟨tb,n*13+11,none⟩=false:=H0.out.free (tb:=tb) (by omega:0<xs.length) (n*13+11);have htb:tb<(w.alloc (qY 11 bn ra rb rc num)).heap.size:=(cK H0.out.aM (g:=tb) rfl).2;have HOX:=ag (show ∀g,x.ov.ownBlock=some g->g<w.heap.size from fun g hg=>(cK (H.out.th n x HX.out).out hg).2);clear hol hev h4;clear p;unfold mg;go_in;go_wp2_with fail;try generalize w.alloc (qY 11 bn ra rb rc num)=w0 at*
 clear rB rC d1 d3 d4 d5 pg fA fB
 go_region_law (first|(refine kE (by rfl) (.tmp 13) (.tmp 21) 51 (by rfl) base 2 i0 _ 1 8 Tryz.underlying51 hi hz0 hz1 hz2 rfl (by decide) x.ov x.th.out.length (x.th.out.flatMap encI) (by simp[Act.eval]) (by exact bD QU.out (((bH.refl (fun _=>False) w0).alloc _).drew) (fun _ _=>id)) ⟨w0.heap.size,0,none⟩ 1 1 (by decide) (encI (x.th.reg ra)) (by simp[Act.eval]) rfl (by exact kK (aX w0 _)) (Xt _) (by have:=LV.out;unfold maxLen;omega) (by have:=LV.out;omega) (by have:=H0.out.eX;show base<=(w0.alloc _).heap.size;rw[World.size_alloc];omega) ?_;intro ao cp w2 h1 h2 h3;have hg0:bH (fun k=>x.ov.ownBlock=some k) w0 w2:=bH.grown (S:=fun k=>x.ov.ownBlock=some k) (((bH.refl _ w0).alloc _).drew) h3 (fun k hk=>.inl hk);have hbt:w2.heap[tb]? =w0.heap[tb]?:=hg0.block tb htb (fun e=>by have h7:=(H0.out.th n x HX.out).outT tb e;rw[H0.out.fo tb rfl] at h7;omega);have s1:w2.cell? ⟨tb,n*13+11,none⟩=some x.ov:=(World.cell?_of_block hbt).trans c11;have s2:w2.frozen? ⟨tb,n*13+11,none⟩=false:=(by have f12:=f11;unfold World.frozen? at f12⊢;rw[hbt];exact f12);have J_:=ag hg0;have HR:=ag h1;have GV:=ag h2;clear h1 h2 h3 hg0 hbt))
 all_goals go_wp2_with fail
 all_goals (
  have hne:∀g,(Value.slice ao (x.th.out.length+1) cp).ownBlock=some g->x.ov.ownBlock=some g\/w0.heap.size<=g:=fun g hg=>by
   rcases GV.out g hg with e|e
   ·exact .inl e
   ·exact .inr (by have e':(w0.alloc _).heap.size<=g:=e;rw[World.size_alloc] at e';omega)
  have h2:=H0.out.told HX.out (x.th.out++[x.th.reg ra]) (.slice ao (x.th.out.length+1) cp) J_.out (by rw[List.length_append,mU];exact HR.out) hne;have g2:(w2.setCell ⟨tb,n*13+11,none⟩ (.slice ao (x.th.out.length+1) cp)).cell? ⟨w.heap.size,2,none⟩=some (.int .u8 (ra:Int)):=by
   rw[World.cell?_of_block (w:=w0) ((dO _ _ _ _ (fun e=>HS.out e.symm)).trans (J_.out.block _ hws (fun e=>absurd (HOX.out w.heap.size e) (Nat.lt_irrefl _))))];exact d2
  have gA:=h2.cell (gM HX.out _) (1+ra) _ (vX _ ra hra);rw[<-Nat.add_assoc] at gA;have H2:=ag h2;have pE:=ag (bH.gY (S:=J6 own) (bH.of_below HB.out) ((bH.gY (S:=J6 own) (bH.refl _ w0) J_.out (fun k _ e=>by show own k≠0/\¬(5<=own k/\own k%3=2);rw[(H0.out.th n x HX.out).outT k e];omega)).setCell (p:=⟨tb,n*13+11,none⟩) (.inl (by show own tb≠0/\¬(5<=own tb/\own tb%3=2);rw[H.out.fo tb rfl];decide)) (.slice ao (x.th.out.length+1) cp)) (fun k _ e=>e));have UN:=ag (fun k (hk:k<w0.heap.size)=>(iT (own:=own) (v:=.slice ao (x.th.out.length+1) cp) (p:=7+3*n) hk));clear h2 hne;simp only at gA;generalize w2.setCell ⟨tb,n*13+11,none⟩ (.slice ao (x.th.out.length+1) cp)=w3 at H2 pE g2 gA⊢;generalize retag own (.slice ao (x.th.out.length+1) cp) (7+3*n) w0.heap.size=dG at H2 UN;go_still_tail 9,(by kernel_rfl)
  go_wp2_with fail;refine(sH H2.out.drew (gM HX.out _) HE.out (by rw[List.length_set];exact H4.out) 9 (x.th.reg ra) 0).mono ?_;rintro e w4 ⟨rfl,⟨⟨jA,ev',hm,ho⟩,hc⟩⟩;have e9:=hm.cell (gM HX.out _) 9 _ rfl;have H5:=ag hm;have HO:=ag (show ∀k,k<w.heap.size->jA k=own k from fun k hk=>by
   have h1:=pE.out.size;have h2:=HB.out.size;rw[ho k (by show k<w3.heap.size;omega)];exact UN.out k (by omega))
  have QC:=ag (Mc pE.out hc (fun k hk=>UN.out k (by have:=HB.out.size;omega)));clear hm ho hc gA g2;simp only at e9;go_wp2_with fail;go_ret;exact .inl ⟨by simp[MT.stops],_,jA,_,_,_,mv,ev',rfl,H5.out,by simp,gM HX.out _,by simp[MM.act,MM.put,MM.tell,MT.next,MT.r],HO.out,QC.out⟩)
theorem S9 (p:vv w base b own mm xs mv ev tb cap n x ra rb rc) (a:Int) (D7:1<=num/\num<=8) (hev:mm.evs.length<1000000000) (h4:xs.length<=4):
  mg 154 w b tb n 12 bn ra rb rc num a (gQ base b own mm xs tb cap n x ⟨12,bn,ra,rb,rc,num⟩ a w):=by
 obtain⟨hp,yl,yj,zo,hn,hw1,HS,H0,HB,HX,H,hra,hrb,hrc,HAT⟩:=ko p 12 bn num rfl;have HP:=ag hp;obtain⟨d1,d2,d3,d4,d5,rA,rB,rC,pg,hws,fA,fB⟩:=hp;have eN:IntKind.u8.wrap num=num:=by rw[IntKind.wrap_u8];omega
 have HE:=ag hev;have H4:=ag h4;clear hev h4 D7;clear p;unfold mg;go_in;go_wp2_with fail;try generalize w.alloc (qY 12 bn ra rb rc num)=w0 at*
 go_still_tail 19,(by kernel_rfl)
 go_wp2_with fail;refine(sH H0.out.drew HX.out HE.out H4.out num (x.th.reg ra) (x.th.reg rb)).mono ?_;rintro e w1 ⟨rfl,hp⟩;obtain⟨⟨own',ev',hm,ho⟩,hc⟩:=hp;have e9:=hm.cell HX.out 9 _ rfl;have H2:=ag hm;have HO:=ag (show ∀k,k<w.heap.size->own' k=own k from fun k hk=>ho k (by have:=HB.out.size;show k<w0.heap.size;omega));have pE:=ag (Mc (bH.of_below HB.out) hc (fun _ _=>rfl));clear hm ho hc rA rB rC pg fA fB;go_wp2_with fail;go_ret;exact .inl ⟨by simp[MT.stops],_,own',_,xs,x,mv,ev',rfl,H2.out,rfl,HX.out,by simp[MM.act,MM.put,MM.tell,MT.next,MT.r],HO.out,pE.out⟩
theorem RB (p:vv w base b own mm xs mv ev tb cap n x ra rb rc) (a:Int) (D7:2<=num/\num<=8):
  mg 155 w b tb n 13 bn ra rb rc num a (gQ base b own mm xs tb cap n x ⟨13,bn,ra,rb,rc,num⟩ a w):=by
 obtain⟨hp,yl,yj,zo,hn,hw1,HS,H0,HB,HX,H,hra,hrb,hrc,HAT⟩:=ko p 13 bn num rfl;have HP:=ag hp;obtain⟨d1,d2,d3,d4,d5,rA,rB,rC,pg,hws,fA,fB⟩:=hp;have eN:IntKind.u8.wrap num=num:=by rw[IntKind.wrap_u8];omega
 clear p;unfold mg;go_in;go_wp2_with fail;try generalize w.alloc (qY 13 bn ra rb rc num)=w0 at*
 exact⟨rfl,.inr ⟨num,by simp[MT.stops],rfl,HB.out,by simp[MM.act],by omega,by omega⟩⟩
theorem QM (p:vv w base b own mm xs mv ev tb cap n x ra rb rc) (a:Int):
  mg 156 w b tb n 14 bn ra rb rc num a (gQ base b own mm xs tb cap n x ⟨14,bn,ra,rb,rc,num⟩ a w):=by
 obtain⟨hp,yl,yj,zo,hn,hw1,HS,H0,HB,HX,H,hra,hrb,hrc,HAT⟩:=ko p 14 bn num rfl;have HP:=ag hp;obtain⟨d1,d2,d3,d4,d5,rA,rB,rC,pg,hws,fA,fB⟩:=hp;clear p;unfold mg;go_in;go_wp2_with fail;try generalize w.alloc (qY 14 bn ra rb rc num)=w0 at*
 exact⟨rfl,.inr ⟨1,by simp[MT.stops],rfl,HB.out,by simp[MM.act],by omega,by omega⟩⟩
end Go.Proofs.YtopdcjimpdalpaaGreat

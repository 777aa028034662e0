import Derived.Test.YtopdcjimpdalpaaGreatQ33
namespace Go.Proofs.YtopdcjimpdalpaaGreat
open Go.RowKit
set_option linter.all false
set_option maxHeartbeats 4000000
set_option maxRecDepth 100000
section
variable {w w':World} {base b:Nat} {own own':Nat->Nat} {mm:MM} {xs:List TX} {mv tv ev:Value}
def Le (s t:SX):Prop:=∀g,s.v.ownBlock=some g->t.v.ownBlock≠some g
def MX (mm:MM) (w:World) (r:Ending) (w':World):Prop:=
 ∃ls:List SX,r= .returned (.slice (some ⟨w.heap.size,0,none⟩) ls.length ls.length)/\w'.ownsRow w.heap.size 81 2 (.slice (some ⟨w.heap.size,0,none⟩) ls.length ls.length) ls.length (ls.flatMap encS)/\
  (∀s∈ls,w'.ownsRow w.heap.size 2 1 s.v s.out.length (s.out.flatMap encI)/\∀g,s.v.ownBlock=some g->w.heap.size<g)/\ls.Pairwise Le/\
  ls.map (fun s=>(s.out,s.fin))=mm.aM.map (fun t=>(t.out,t.fin))/\Below w.heap.size w w'
theorem PE (h:eZ w base b own mm xs mv tv ev) (h4:xs.length<=4) (ho:∀x∈xs,x.th.out.length<=1000000000):
  Calls Tryz.prog 68 #[.pointer (some ⟨b,0,none⟩)] w (MX mm w):=by
 obtain⟨ao,cp,rfl⟩:=bF h.aM;have c0:=h.iA 0 _ rfl;have c2:=h.iA 2 _ rfl;have H:=ag h;have HO:=ag ho;obtain⟨i0,hi,hz0,hz1,hz2⟩:=info_parts YA;clear h ho;go_in;go_wp2_with (at_make;refine mq _ rfl _ _ 64 rfl 81 i0 _ 2 [.slice none 0 0,.int .u8 0] Tryz.underlying64 hi hz0 hz1 rfl rfl (by decide) _ _ _ _ xs.length xs.length rfl rfl rfl rfl ?b0 ?b1 ?b2 ?_)
 case b0=>exact aR _
 case b1=>rw[hz2];omega
 case b2=>unfold maxLen;omega
 intro w2 hblk hsz2 hb2;have c2':=(World.cell?_of_block (hb2.block _ (dH _ _ c2))).trans c2;have acz:=ag hblk;have HS2:=ag hsz2;have HB2:=ag hb2;clear hblk hsz2 hb2 hi hz0 hz1 hz2 c0;go_wp2_with fail;clear c2';go_loopw [26] (fun i w'=>∃k:Nat,k<=xs.length/\i= .int .i64 (k:Int)/\Hid (∃ls:List SX,ls.length=k/\w'.heap[w.heap.size]? =some (.cells (ls.flatMap encS++(List.replicate (xs.length - k) [Value.slice none 0 0,Value.int .u8 0]).flatten).toArray 81 (0,0))/\
  (∀s∈ls,w'.ownsRow w.heap.size 2 1 s.v s.out.length (s.out.flatMap encI)/\∀g,s.v.ownBlock=some g->w.heap.size<g)/\ls.Pairwise Le/\ls.map (fun s=>(s.out,s.fin))=(xs.take k).map (fun x=>(x.th.out,x.th.fin))/\Below w.heap.size w w')) (fun i _=>((xs.length:Int) - intOf i).toNat)
 case atStart=>exact⟨0,by omega,rfl,⟨[],rfl,by simpa using acz.out,fun s hs=>absurd hs (by simp),List.Pairwise.nil,rfl,HB2.out⟩⟩
 case round=>
  obtain⟨k,hk,rfl,HR⟩:=hrel;obtain⟨ls,hls,hblk,hea,hpw,YZ,hbw⟩:=HR.out;clear HR;by_cases hlt:k<xs.length
  ·have hx:=dZ hlt;generalize xs[k]=x at hx;have hmx:=bA hx;have hm:=H.out.below hbw;obtain⟨tb,cap,e1, -⟩:=hm.xE hx;simp only[Value.slice.injEq,and_true,true_and] at e1;obtain⟨rfl,rfl⟩:=e1;have t0:=hm.cell hx 0 _ rfl;rw[Nat.add_zero] at t0;have t1:=hm.cell hx 1 _ rfl;have t2:=hm.cell hx 2 _ rfl;have t3:=hm.cell hx 3 _ rfl;have t4:=hm.cell hx 4 _ rfl;have t5:=hm.cell hx 5 _ rfl;have t6:=hm.cell hx 6 _ rfl;have t7:=hm.cell hx 7 _ rfl;have t8:=hm.cell hx 8 _ rfl;have t9:=hm.cell hx 9 _ rfl;have t10:=hm.cell hx 10 _ rfl;have t11:=hm.cell hx 11 _ rfl;have t12:=hm.cell hx 12 _ rfl;obtain⟨oo,ocp,hov⟩:=bF (hm.th k x hx).out;have hone:=HO.out x hmx;have hout:=Rd.iV (hm.th k x hx).out;rw[hov] at hout t11;obtain⟨cao,ccp,hcv⟩:=(hm.th k x hx).code.shape;rw[hcv] at t0;have HX:=ag hx;have HHM:=ag hm;have QU:=ag hout;have Ze:=ag hls;have HEA:=ag hea;have Z0:=ag YZ;have HPW:=ag hpw;have GX:=ag hbw;have HON:=ag hone;obtain⟨R,hR⟩:∃R,(List.replicate (xs.length - k) [Value.slice none 0 0,Value.int .u8 0]).flatten=Value.slice none 0 0::Value.int .u8 0::R/\R=(List.replicate (xs.length - (k+1)) [Value.slice none 0 0,Value.int .u8 0]).flatten:=by
    refine⟨_,?_,rfl⟩;rw[show xs.length - k=(xs.length - (k+1))+1 by omega,List.replicate_succ];rfl
   rw[hR.1] at hblk;have HRR:=ag hR.2;have HBK:=ag hblk;have hgl:=lt_of_block hblk;clear hls hea YZ hpw hbw hm hone hout hov hx hmx hR hblk hcv;go_wp2_with fail;obtain⟨w7,hw7⟩:∃w7,w7=wr.alloc (Obj.cells #[.slice cao x.th.code.length ccp,.int .i64 (x.th.reg 0),.int .i64 (x.th.reg 1),.int .i64 (x.th.reg 2),.int .i64 (x.th.reg 3),.int .i64 (x.th.reg 4),.int .i64 (x.th.reg 5),.int .i64 (x.th.reg 6),.int .i64 (x.th.reg 7),.int .i64 x.th.at_,.pointer (some ⟨x.bb,0,none⟩),.slice oo x.th.out.length ocp,.int .u8 x.th.fin] 184):=⟨_,rfl⟩;rw[<-hw7];have AB:Below wr.heap.size wr w7:=hw7 ▸ ((aQ _ _).alloc (aR _) _);have hk7:=heap_alloc_new wr (Obj.cells #[.slice cao x.th.code.length ccp,.int .i64 (x.th.reg 0),.int .i64 (x.th.reg 1),.int .i64 (x.th.reg 2),.int .i64 (x.th.reg 3),.int .i64 (x.th.reg 4),.int .i64 (x.th.reg 5),.int .i64 (x.th.reg 6),.int .i64 (x.th.reg 7),.int .i64 x.th.at_,.pointer (some ⟨x.bb,0,none⟩),.slice oo x.th.out.length ocp,.int .u8 x.th.fin] 184);rw[<-hw7] at hk7;have p11:=af (o:=11) hk7 rfl;have p12:=af (o:=12) hk7 rfl;have aaq:=ag (show fI encI w7.drew 1 (.slice oo x.th.out.length ocp) x.th.out from Rd.below QU.out AB.drew);have ZP:=ag ((AB.block w.heap.size hgl).trans HBK.out);have HL2:=ag (show(ls.flatMap encS).length=k*2 from by rw[jQ yL,Ze.out]);have Gg:=ag (show wr.heap.size≠w.heap.size by omega);have nP:=ag AB;clear hw7 AB hk7 t0 t1 t2 t3 t4 t5 t6 t7 t8 t9 t10 t11 t12;go_region_held3 (fun w'=>w'.cell? ⟨wr.heap.size,11,none⟩=some (.slice oo x.th.out.length ocp)/\w'.cell? ⟨wr.heap.size,12,none⟩=some (.int .u8 x.th.fin)) (refine⟨?_,?_⟩<;>first|assumption|exact r11 _ _|exact r12 _ _|simp only[World.cell?_drew, *]) (first|(go_at_call 107;refine(DX (w:=w7.drew) aaq.out HON.out).mono ?_;rintro e8 w8 ⟨cv,rfl,ho8,uD⟩;obtain⟨co8,cc8,rfl⟩:=bF ho8;have GU:=(World.cell?_of_block (w:=w7) (uD.block _ (dH w7 _ p11))).trans p11;have RV:=(World.cell?_of_block (w:=w7) (uD.block _ (dH w7 _ p12))).trans p12;have PM:=(uD.block w.heap.size (by exact lt_of_block ZP.out)).trans ZP.out;have d0:w8.cell? ⟨w.heap.size,k*2,none⟩=some (Value.slice none 0 0):=(af PM (by have hA9:=HL2.out;rw[List.getElem?_toArray,List.getElem?_append_right (by omega)];simp[hA9]));have d1:w8.cell? ⟨w.heap.size,k*2+1,none⟩=some (Value.int .u8 0):=(af PM (by have hA9:=HL2.out;rw[List.getElem?_toArray,List.getElem?_append_right (by omega)];simp[hA9]));have f0:=aJ (o:=k*2) PM;have f1:=aJ (o:=k*2+1) PM;have r11:=fun u v=>Cg (k:=k) Gg.out GU u v;have r12:=fun u v=>Cg (k:=k) Gg.out RV u v;have HK8:=ag PM;have HO8:=ag ho8;have EK:=ag uD;clear PM ho8 uD))
   go_wp2_with fail;have abD:Below wr.heap.size wr w8:=nP.out.drew.trans ((EK.out).mono (by have:=nP.out.size;exact this));have acK:Below w.heap.size w w8:=GX.out.trans (abD.mono GX.out.size);have hkeep:∀g,g≠w.heap.size->((w8.setCell ⟨w.heap.size,k*2,none⟩ (.slice co8 x.th.out.length cc8)).setCell ⟨w.heap.size,k*2+1,none⟩ (.int .u8 x.th.fin)).heap[g]? =w8.heap[g]?:=fun g hg=>(dO _ _ _ _ hg).trans (dO _ _ _ _ hg)
   refine⟨⟨k+1,by omega,by go_num,⟨ls++[⟨.slice co8 x.th.out.length cc8,x.th.out,x.th.fin⟩],by simp[Ze.out],?_,fun s hs=>?_,?_,?_,(acK.setCell (aR _) _).setCell (aR _) _⟩⟩,by simp[intOf];omega⟩
   ·rw[<-HRR.out,List.flatMap_append];have e:([(⟨.slice co8 x.th.out.length cc8,x.th.out,x.th.fin⟩:SX)]).flatMap encS=[.slice co8 x.th.out.length cc8,.int .u8 x.th.fin]:=rfl;rw[e,List.append_assoc,List.cons_append,List.cons_append,List.nil_append,<-Ry (ls.flatMap encS) R (Value.slice none 0 0) (Value.int .u8 0) _ _ _ HL2.out];exact aK _ (aK _ HK8.out)
   ·rcases List.mem_append.1 hs with hs|hs
    ·have h1:=HEA.out s hs;exact⟨aP h1.1 fun g hg hl=>(hkeep g (by have:=h1.2 g hg;omega)).trans (abD.block g hl),h1.2⟩
    ·rw[List.mem_singleton.1 hs];have h1:∀g,(Value.slice co8 x.th.out.length cc8).ownBlock=some g->w.heap.size<g:=fun g hg=>by
      have h2:=(cK HO8.out hg).1;have h3:wr.heap.size<=w7.drew.heap.size:=nP.out.size;omega
     exact⟨aP (dm HO8.out (by have h3:wr.heap.size<=w7.drew.heap.size:=nP.out.size;omega)) fun g hg hl=>hkeep g (by have:=h1 g hg;omega),h1⟩
   ·refine List.pairwise_append.2 ⟨HPW.out,List.pairwise_singleton _ _,fun s hs t ht g hg hg2=>?_⟩;rw[List.mem_singleton.1 ht] at hg2;have h2:=(cK HO8.out hg2).1;have h3:wr.heap.size<=w7.drew.heap.size:=nP.out.size;have h4:=(cK (HEA.out s hs).1 hg).2;omega
   ·rw[List.map_append,Z0.out,List.take_add_one,HX.out,List.map_append];rfl
  ·obtain rfl:k=xs.length:=by omega
   go_wp2_with fail;go_ret;rw[Nat.sub_self] at hblk;simp only[List.replicate_zero,List.flatten_nil,List.append_nil] at hblk;rw[List.take_length] at YZ;have hl2:(ls.flatMap encS).length=xs.length*2:=by rw[jQ yL,hls]
   have hx4:xs.length<=4:=h4;refine⟨ls,by rw[hls];rfl,Ju hblk (aR _) (by unfold maxLen;omega) (by rw[hl2,hls]),hea,hpw,?_,hbw⟩;rw[YZ,H.out.same];simp
theorem R7 {N:Nat} (h:sI w base b mm N) (hN:N<=1000000000):
  Calls Tryz.prog 68 #[.pointer (some ⟨b,0,none⟩)] w (MX mm w):=by
 obtain⟨own,xs,mv,tv,ev,hm,hl,hk⟩:=h;refine PE hm (by rw[<-Gi hm.same];exact hk.four) fun x hx=>?_
 have:=hk.th x.th (by rw[hm.same];exact List.mem_map_of_mem hx);exact Nat.le_trans this.out hN
end
section
variable {w w':World} {base b:Nat} {mm:MM} {N:Nat} {P:List Nat}
inductive Ee where
 |step (th:Int)
 |flush (th:Int)
def mV (s:MM×Int):Ee->MM×Int
 |.step th=>((s.1.step th).2,if(s.1.step th).1=true then s.2+1 else s.2)
 |.flush th=>((s.1.flush th).2,s.2)
def bg (s:MM×Int) (l:List Ee):MM×Int:=l.foldl mV s
theorem kY (s:MM×Int) (l r:List Ee):bg s (l++r)=bg (bg s l) r:=by simp[bg]
def jP (p:gT):List Ee:=if p.kind=1 then [.flush p.th] else if p.kind=2 then [.step p.th,.flush p.th] else [.step p.th]
def bQ (p:gT):Nat->List Ee
 |0=>[]
 |k+1=>bQ p k++jP p
def uT (p:gT):List Ee:=bQ p p.n.toNat
def jM (l:List gT):List Ee:=l.flatMap uT
theorem xP (l:List gT) (p:gT):jM (l++[p])=jM l++uT p:=by simp[jM]
def lS (w:World) (base b:Nat) (mm:MM) (N:Nat) (P:List Nat):Prop:=
 ∃own xs mv tv ev,eZ w base b own mm xs mv tv ev/\(∀k,own k≠0->base<=k)/\pV N mm/\∀k∈P,own k=0/\k<w.heap.size
def Ec (P:List Nat) (w w':World):Prop:=∀k∈P,w'.heap[k]? =w.heap[k]?
theorem Ec.refl (P:List Nat) (w:World):Ec P w w:=fun _ _=>rfl
theorem Ec.trans {w'':World} (h:Ec P w w') (g:Ec P w' w''):Ec P w w'':=fun k hk=>(g k hk).trans (h k hk)
theorem lS.live (h:lS w base b mm N P):sI w base b mm N:=by
 obtain⟨own,xs,mv,tv,ev,hm,hl,hk, -⟩:=h;exact⟨own,xs,mv,tv,ev,hm,hl,hk⟩
theorem lS.Gm (h:sI w base b mm N):lS w base b mm N []:=by
 obtain⟨own,xs,mv,tv,ev,hm,hl,hk⟩:=h;exact⟨own,xs,mv,tv,ev,hm,hl,hk,fun k hk=>absurd hk (by simp)⟩
theorem lS.eX (h:lS w base b mm N P):base<=w.heap.size:=by
 obtain⟨own,xs,mv,tv,ev,hm, -⟩:=h;exact hm.eX
theorem lS.below (h:lS w base b mm N P) (hb:Below w.heap.size w w'):lS w' base b mm N P:=by
 obtain⟨own,xs,mv,tv,ev,hm,hl,hk,hp⟩:=h;exact⟨own,xs,mv,tv,ev,hm.below hb,hl,hk,fun k hk=>⟨(hp k hk).1,by have:=(hp k hk).2;have:=hb.size;omega⟩⟩
theorem lS.alloc (h:lS w base b mm N P) (o:Obj):lS (w.alloc o) base b mm N (w.heap.size::P):=by
 obtain⟨own,xs,mv,tv,ev,hm,hl,hk,hp⟩:=h;refine⟨own,xs,mv,tv,ev,hm.below ((aQ _ _).alloc (aR _) _),hl,hk,fun k hk=>?_⟩;rcases List.mem_cons.1 hk with rfl|hk
 ·exact⟨hm.fresh _ (aR _),by simp⟩
 ·exact⟨(hp k hk).1,by have:=(hp k hk).2;simp;omega⟩
theorem lS.aT (h:lS w base b mm N P) {q:Nat} (hq:q∈P) (o:Nat) (u:Value):lS (w.setCell ⟨q,o,none⟩ u) base b mm N P:=by
 obtain⟨own,xs,mv,tv,ev,hm,hl,hk,hp⟩:=h;exact⟨own,xs,mv,tv,ev,hm.keep (by simp[World.setCell]) (fun g hg _=>dO _ _ _ _ (fun e=>hg (by rw[e];exact(hp q hq).1))),hl,hk,fun k hk=>⟨(hp k hk).1,by simpa [World.setCell] using(hp k hk).2⟩⟩
theorem lS.sub {P':List Nat} (h:lS w base b mm N P) (hs:∀k∈P',k∈P):lS w base b mm N P':=by
 obtain⟨own,xs,mv,tv,ev,hm,hl,hk,hp⟩:=h;exact⟨own,xs,mv,tv,ev,hm,hl,hk,fun k hk=>hp k (hs k hk)⟩
theorem lS.X7 (h:lS w base b mm N P) {q:Nat} (hq:q<base):lS w base b mm N (q::P):=by
 have hb:=h.eX;obtain⟨own,xs,mv,tv,ev,hm,hl,hk,hp⟩:=h;refine⟨own,xs,mv,tv,ev,hm,hl,hk,fun k hk=>?_⟩;rcases List.mem_cons.1 hk with rfl|hk
 ·exact⟨Classical.byContradiction fun hc=>by have:=hl _ hc;omega,by omega⟩
 ·exact hp k hk
theorem lS.goes {own:Nat->Nat} {xs:List TX} {mv tv ev:Value} {N':Nat} {iZ:MM} (hm:eZ w base b own mm xs mv tv ev) (hl:∀k,own k≠0->base<=k) (hp:∀k∈P,own k=0/\k<w.heap.size) (hg:nA w base b own iZ w') (hk:pV N' iZ):lS w' base b iZ N' P/\Ec P w w'/\Below base w w':=by
 obtain⟨⟨own',xs',mv',tv',ev',h',ho⟩,hc⟩:=hg;refine⟨⟨own',xs',mv',tv',ev',h',fun k hn=>?_,hk,fun k hk'=>⟨by rw[ho _ (hp k hk').2];exact(hp k hk').1,by have:=hc.size;have:=(hp k hk').2;omega⟩⟩,fun k hk'=>hc.block k (hp k hk').2 (fun e=>e.1 (hp k hk').1),hc.vg hm.eX (fun k e=>hl k e.1)⟩;by_cases e:k<w.heap.size
 ·exact hl k (by rw[<-ho k e];exact hn)
 ·have:=hm.eX;omega
theorem X8 (h:lS w base b mm N P) (hN:N<1000000000) (z:Int):
  Calls Tryz.prog 63 #[.pointer (some ⟨b,0,none⟩),.int .i64 z] w fun r w'=>r= .returned (.bool (mm.step z).1)/\lS w' base b (mm.step z).2 (N+1) P/\Ec P w w'/\Below base w w':=by
 obtain⟨own,xs,mv,tv,ev,hm,hl,hk,hp⟩:=h;refine(Rk hm hk hN z).mono ?_;rintro r w' ⟨rfl,hg⟩;exact⟨rfl,lS.goes hm hl hp hg (hk.step z)⟩
theorem Na (h:lS w base b mm N P) (z:Int):
  Calls Tryz.prog 66 #[.pointer (some ⟨b,0,none⟩),.int .i64 z] w fun r w'=>r= .returned (.bool (mm.flush z).1)/\lS w' base b (mm.flush z).2 N P/\Ec P w w'/\Below base w w':=by
 obtain⟨own,xs,mv,tv,ev,hm,hl,hk,hp⟩:=h;refine(O9 hm hk z).mono ?_;rintro r w' ⟨rfl,hg⟩;exact⟨rfl,lS.goes hm hl hp hg (hk.flush z)⟩
theorem Rs (h:lS w base b mm N P) (hN:N<=1000000000):
  Calls Tryz.prog 69 #[.pointer (some ⟨b,0,none⟩)] w (vZ 127 4 mF mm.evs w):=by
 obtain⟨own,xs,mv,tv,ev,hm,hl,hk,hp⟩:=h;exact Me hm (Nat.le_trans hk.evs hN)
theorem AY {w:World} {a q o:Nat} {v:Value} (h:w.cell? ⟨a,o,none⟩=some v) (hne:a≠q) (u0 u1 u2:Value):(((w.setCell ⟨q,0,none⟩ u0).setCell ⟨q,1,none⟩ u1).setCell ⟨q,2,none⟩ u2).cell? ⟨a,o,none⟩=some v:=by
 rw[World.cell?_of_block (w:=w) (((dO _ _ _ _ hne).trans (dO _ _ _ _ hne)).trans (dO _ _ _ _ hne))];exact h
structure jH (w:World) (base b bx bs bt:Nat) (mm:MM) (steps:Int) (N:Nat) (P:List Nat):Prop where
 Fe:lS w base b mm N P
 x:w.heap[bx]? =some (.cells #[.pointer (some ⟨b,0,none⟩)] 144 (0,0))
 s:w.heap[bs]? =some (.cells #[.int .i64 steps] 3 (0,0))
 t:w.heap[bt]? =some (.cells #[.func (.func 62) #[] #[.pointer (some ⟨bx,0,none⟩),.pointer (some ⟨bs,0,none⟩)]] 147 (0,0))
 px:bx∈P
 ps:bs∈P
 pt:bt∈P
 nx:bx≠bs
 nt:bt≠bs
 lo:base<=bs
variable {bx bs bt:Nat} {steps:Int}
theorem jH.below (h:jH w base b bx bs bt mm steps N P) (hb:Below w.heap.size w w'):jH w' base b bx bs bt mm steps N P:=
 ⟨h.Fe.below hb,blk hb h.x,blk hb h.s,blk hb h.t,h.px,h.ps,h.pt,h.nx,h.nt,h.lo⟩
theorem jH.goes {iZ:MM} {N':Nat} (h:jH w base b bx bs bt mm steps N P) (hm:lS w' base b iZ N' P) (hs:Ec P w w'):jH w' base b bx bs bt iZ steps N' P:=
 ⟨hm,(hs _ h.px).trans h.x,(hs _ h.ps).trans h.s,(hs _ h.pt).trans h.t,h.px,h.ps,h.pt,h.nx,h.nt,h.lo⟩
theorem jH.count (h:jH w base b bx bs bt mm steps N P) (k:Int):jH (w.setCell ⟨bs,0,none⟩ (.int .i64 k)) base b bx bs bt mm k N P:=
 ⟨h.Fe.aT h.ps _ _,jV h.x h.nx,aK _ h.s,jV h.t h.nt,h.px,h.ps,h.pt,h.nx,h.nt,h.lo⟩
theorem jH.Km (h:jH w base b bx bs bt mm steps N P) (o:Obj):jH (w.alloc o) base b bx bs bt mm steps N (w.heap.size::P):=
 ⟨h.Fe.alloc o,bz h.x,bz h.s,bz h.t,List.mem_cons_of_mem _ h.px,List.mem_cons_of_mem _ h.ps,List.mem_cons_of_mem _ h.pt,h.nx,h.nt,h.lo⟩
theorem jH.more (h:jH w base b bx bs bt mm steps N P):jH w base b bx bs bt mm steps (N+1) P:=by
 obtain⟨⟨own,xs,mv,tv,ev,hm,hl,hk,hp⟩,h2,h3,h4,h5,h6,h7,h8,h9,h10⟩:=h;exact⟨⟨own,xs,mv,tv,ev,hm,hl,hk.mono (by omega),hp⟩,h2,h3,h4,h5,h6,h7,h8,h9,h10⟩
theorem jH.less {P':List Nat} (h:jH w base b bx bs bt mm steps N P) (hs:∀k∈P',k∈P) (h1:bx∈P') (h2:bs∈P') (h3:bt∈P'):jH w base b bx bs bt mm steps N P':=
 ⟨h.Fe.sub hs,h.x,h.s,h.t,h1,h2,h3,h.nx,h.nt,h.lo⟩
def BF (base b bx bs bt:Nat) (s:MM×Int) (N:Nat) (P:List Nat) (w:World) (r:Ending) (w':World):Prop:=
 r= .returned (.tuple #[])/\jH w' base b bx bs bt s.1 s.2 N P/\(∀k∈P,k≠bs->w'.heap[k]? =w.heap[k]?)/\Below base w w'
theorem aaQ (h:jH w base b bx bs bt mm steps N P) (hN:N<1000000000) (hs:0<=steps/\steps<=1000000000) (z:Int):
  Calls Tryz.prog 62 #[.int .i64 z,.pointer (some ⟨bx,0,none⟩),.pointer (some ⟨bs,0,none⟩)] w (BF base b bx bs bt (mV (mm,steps) (.step z)) (N+1) P w):=by
 have cx:w.cell? ⟨bx,0,none⟩=some (.pointer (some ⟨b,0,none⟩)):=af h.x rfl;have H:=ag h;clear h;go_in;go_wp2_with fail;refine(X8 H.out.Fe hN z).mono ?_;rintro r w1 ⟨rfl,hm,hst,hb⟩;have h1:=H.out.goes hm hst;have c1:w1.cell? ⟨bs,0,none⟩=some (.int .i64 steps):=af h1.s rfl;have f1:=aJ (o:=0) h1.s;have H1:=ag h1;have HS:=ag hst;have HB:=ag hb;clear hm hst hb h1;cases hq:(mm.step z).1 with
 |true=>
  go_wp2_with fail;go_end0;have he:mV (mm,steps) (.step z)=((mm.step z).2,steps+1):=by simp[mV,hq]
  rw[he];exact⟨rfl,H1.out.count _,fun k hk hne=>(dO _ _ _ _ hne).trans (HS.out k hk),HB.out.setCell H.out.lo _⟩
 |false=>
  go_wp2_with fail;go_end0;have he:mV (mm,steps) (.step z)=((mm.step z).2,steps):=by simp[mV,hq]
  rw[he];exact⟨rfl,H1.out,fun k hk _=>HS.out k hk,HB.out⟩
theorem xX (s:MM×Int) (p:gT):s.2<=(bg s (jP p)).2/\(bg s (jP p)).2<=s.2+1:=by
 have h:∀z,s.2<=(mV s (.step z)).2/\(mV s (.step z)).2<=s.2+1:=fun z=>by
  simp only[mV];split<;>omega
 unfold jP;split
 ·simp only[bg,List.foldl,mV];omega
 ·split
  ·exact h p.th
  ·exact h p.th
variable {bp:Nat} {p:gT}
theorem acU (h:jH w base b bx bs bt mm steps N P) (hp:w.heap[bp]? =some (.cells (iE p).toArray 42 (0,0))) (hN:N<1000000000) (hs:0<=steps/\steps<=1000000000) (hk:p.kind≠1/\p.kind≠2):
  Calls Tryz.prog 64 #[.pointer (some ⟨bt,0,none⟩),.pointer (some ⟨bp,0,none⟩)] w (BF base b bx bs bt (bg (mm,steps) (jP p)) (N+1) P w):=by
 have ct:w.cell? ⟨bt,0,none⟩=some (.func (.func 62) #[] #[.pointer (some ⟨bx,0,none⟩),.pointer (some ⟨bs,0,none⟩)]):=af h.t rfl;have c1:w.cell? ⟨bp,1,none⟩=some (.int .i64 p.th):=af hp rfl;have H:=ag h;have he:bg (mm,steps) (jP p)=mV (mm,steps) (.step p.th):=by simp[jP,hk.1,hk.2,bg]
 rw[he];clear h hp he;go_in;go_wp2_with fail;refine(aaQ H.out hN hs p.th).mono ?_;rintro r w1 ⟨rfl,hr⟩;have HR:=ag hr;clear hr;go_wp2_with fail;go_end0;exact⟨rfl,HR.out⟩
theorem ac9 (h:jH w base b bx bs bt mm steps N P) (hp:w.heap[bp]? =some (.cells (iE p).toArray 42 (0,0))) (hk:p.kind=1):
  Calls Tryz.prog 65 #[.pointer (some ⟨bx,0,none⟩),.pointer (some ⟨bp,0,none⟩)] w (BF base b bx bs bt (bg (mm,steps) (jP p)) N P w):=by
 have cx:w.cell? ⟨bx,0,none⟩=some (.pointer (some ⟨b,0,none⟩)):=af h.x rfl;have c1:w.cell? ⟨bp,1,none⟩=some (.int .i64 p.th):=af hp rfl;have H:=ag h;have he:bg (mm,steps) (jP p)=((mm.flush p.th).2,steps):=by simp[jP,hk,bg,mV]
 rw[he];clear h hp he;go_in;go_wp2_with fail;refine(Na H.out.Fe p.th).mono ?_;rintro r w1 ⟨rfl,hm,hst,hb⟩;have H1:=ag (H.out.goes hm hst);have HS:=ag hst;have HB:=ag hb;clear hm hst hb;go_wp2_with fail;go_end0;exact⟨rfl,H1.out,fun k hk _=>HS.out k hk,HB.out⟩
theorem ac6 (h:jH w base b bx bs bt mm steps N P) (hp:w.heap[bp]? =some (.cells (iE p).toArray 42 (0,0))) (hpP:bp∈P) (hps:bp≠bs) (hN:N<1000000000) (hs:0<=steps/\steps<=1000000000) (hk:p.kind=2):
  Calls Tryz.prog 67 #[.pointer (some ⟨bt,0,none⟩),.pointer (some ⟨bp,0,none⟩),.pointer (some ⟨bx,0,none⟩)] w (BF base b bx bs bt (bg (mm,steps) (jP p)) (N+1) P w):=by
 have ct:w.cell? ⟨bt,0,none⟩=some (.func (.func 62) #[] #[.pointer (some ⟨bx,0,none⟩),.pointer (some ⟨bs,0,none⟩)]):=af h.t rfl;have c1:w.cell? ⟨bp,1,none⟩=some (.int .i64 p.th):=af hp rfl;have H:=ag h;have HP:=ag hp;have he:bg (mm,steps) (jP p)=(((mV (mm,steps) (.step p.th)).1.flush p.th).2,(mV (mm,steps) (.step p.th)).2):=by simp[jP,hk,bg,mV]
 rw[he];clear h hp he;go_in;go_wp2_with fail;refine(aaQ H.out hN hs p.th).mono ?_;rintro r w1 ⟨rfl,h1,hst,hb⟩;have hp1:=(hst bp hpP hps).trans HP.out;have c1':w1.cell? ⟨bp,1,none⟩=some (.int .i64 p.th):=af hp1 rfl;have cx:w1.cell? ⟨bx,0,none⟩=some (.pointer (some ⟨b,0,none⟩)):=af h1.x rfl;have H1:=ag h1;have HS:=ag hst;have HB:=ag hb;clear h1 hst hb hp1;go_wp2_with fail;refine(Na H1.out.Fe p.th).mono ?_;rintro r w2 ⟨rfl,hm,hst,hb⟩;have H2:=ag (H1.out.goes hm hst);have HS2:=ag hst;have HB2:=ag (HB.out.trans hb);clear hm hst hb;go_wp2_with fail;go_end0;exact⟨rfl,H2.out,fun k hk hne=>(HS2.out k hk).trans (HS.out k hk hne),HB2.out⟩
def Ie (S:MM×Int) (w:World) (e:Ending) (w':World):Prop:=
 ∃(ga:Nat) (ls:List SX) (ve:Option Addr) (vec:Nat),e= .returned (.tuple #[.agg #[.slice (some ⟨ga,0,none⟩) ls.length ls.length,.slice ve S.1.evs.length vec,.int .i64 S.2],.int .i64 0])/\
  w'.ownsRow w.heap.size 81 2 (.slice (some ⟨ga,0,none⟩) ls.length ls.length) ls.length (ls.flatMap encS)/\
  (∀s∈ls,w'.ownsRow w.heap.size 2 1 s.v s.out.length (s.out.flatMap encI)/\∀g,s.v.ownBlock=some g->ga<g)/\ls.Pairwise Le/\
  ls.map (fun s=>(s.out,s.fin))=S.1.aM.map (fun t=>(t.out,t.fin))/\
  w'.ownsRow w.heap.size 127 4 (.slice ve S.1.evs.length vec) S.1.evs.length (S.1.evs.flatMap mF)/\
  (∀g,(Value.slice ve S.1.evs.length vec).ownBlock=some g->g≠ga/\∀s∈ls,s.v.ownBlock≠some g)/\Below w.heap.size w w'
end
section
structure FT where
 reg:List Int
 at_:Int
 wait:List (Int×Int)
 out:List Int
 fin:Int
def QE:List (Int×Int)->Int->Int
 |[],_=>0
 |c::l,a=>if c.1=a then c.2 else QE l a
def FT.r (f:FT) (i:Int):Int:=f.reg.getD i.toNat 0
def FT.goes (f:FT) (i v:Int):FT:={f with reg:=f.reg.set i.toNat v,at_:=f.at_+1}
def fnd (f:FT) (M:List (Int×Int)) (a:Int):Int:=(jS f.wait a).getD (QE M a)
def Nw (code:List bM) (sz:Int) (M:List (Int×Int)) (f:FT):Option (List (Int×Int)×FT):=
 match code[f.at_.toNat]? with
 |none=>none
 |some o=>
  if f.at_<0\/f.reg.length≠8\/o.a<0\/8<=o.a\/o.b<0\/8<=o.b then none
  else if o.kind=1 then some (M,f.goes o.a o.n)
  else if o.kind=2 then some (M,f.goes o.a (f.r o.b))
  else if o.kind=3 then(match gL o.bn (f.r o.a) (f.r o.b) with
   |none=>none
   |some v=>some (M,f.goes o.a v))
  else if o.kind=6 then some (M,{f with at_:=o.n})
  else if o.kind=7 then some (M,{f with at_:=if f.r o.a=0 then o.n else f.at_+1})
  else if o.kind=11 then some (M,{f with at_:=f.at_+1,out:=f.out++[f.r o.a]})
  else if o.kind=12 then some (M,{f with at_:=f.at_+1})
  else if o.kind=14 then some (M,{f with fin:=1})
  else if o.kind=4\/o.kind=15 then
   (if 0<=fq (f.r o.b+o.n)/\fq (f.r o.b+o.n)<sz then some (M,f.goes o.a (fnd f M (fq (f.r o.b+o.n)))) else none)
  else if o.kind=5 then
   (if 0<=fq (f.r o.a+o.n)/\fq (f.r o.a+o.n)<sz/\f.wait.length<64 then some (M,{f with at_:=f.at_+1,wait:=f.wait++[(fq (f.r o.a+o.n),f.r o.b)]}) else none)
  else if o.kind=8 then
   (if 0<=fq (f.r o.a+o.n)/\fq (f.r o.a+o.n)<sz/\f.wait=[]/\0<=o.c/\o.c<8 then
    some (if QE M (fq (f.r o.a+o.n))=f.r o.b then(fq (f.r o.a+o.n),f.r o.c)::M else M,f.goes o.b (QE M (fq (f.r o.a+o.n)))) else none)
  else if o.kind=9 then
   (if 0<=fq (f.r o.a+o.n)/\fq (f.r o.a+o.n)<sz/\f.wait=[] then
    some ((fq (f.r o.a+o.n),fq (QE M (fq (f.r o.a+o.n))+f.r o.b))::M,f.goes o.b (QE M (fq (f.r o.a+o.n)))) else none)
  else none
def uA (M:List (Int×Int)) (f:FT):List (Int×Int)×FT:=match f.wait with
 |[]=>(M,f)
 |c::r=>(c::M,{f with wait:=r})
def Ah (code:List bM) (sz:Int) (M:List (Int×Int)) (f:FT):Option (List (Int×Int)×FT):=
 if f.fin≠0 then some (uA M f) else match Nw code sz M f with
 |none=>none
 |some (M',f')=>some (uA M' f')
def uY (code:List bM) (sz:Int):Nat->List (Int×Int)->FT->Option (List (Int×Int)×FT)
 |0,M,f=>some (M,f)
 |k+1,M,f=>match Ah code sz M f with
  |none=>none
  |some (M',f')=>uY code sz k M' f'
structure Bq (mm:MM) (n:Nat) (code:List bM) (sz:Int) (M:List (Int×Int)) (f:FT):Prop where
 th:∃t,mm.aM[n]? =some t/\t.code=code/\(∀i,i<8->t.reg i=f.reg.getD i 0)/\t.at_=f.at_/\t.wait=f.wait/\t.out=f.out/\t.fin=f.fin
 len:(mm.mem.length:Int)=sz
 mem:∀a:Int,0<=a->a<sz->mm.at a=QE M a
 wt:∀c∈f.wait,0<=c.1/\c.1<sz
 rl:f.reg.length=8
variable {mm:MM} {n:Nat} {code:List bM} {sz:Int} {M M':List (Int×Int)} {f f':FT}
def WS (n:Nat) (a b:MM):Prop:=∀j,j≠n->b.aM[j]? =a.aM[j]?
theorem Uy {m:List Int} {evs:List Ev} {aM:List MT} {a b v:Int} (ha:0<=a) (hl:a<m.length) (hb:0<=b):(MM.mk (m.set a.toNat v) aM evs).at b=if a=b then v else(MM.mk m aM evs).at b:=by
 unfold MM.at;simp only[List.getD_eq_getElem?_getD];by_cases e:a=b
 ·subst e;rw[if_pos rfl,List.getElem?_set_self (by omega)];rfl
 ·rw[if_neg e,List.getElem?_set_ne (by omega)]
theorem Bq.flush (h:Bq mm n code sz M f):Bq (mm.flush n).2 n code sz (uA M f).1 (uA M f).2/\WS n mm (mm.flush n).2:=by
 obtain⟨t,ht,h1,h2,h3,h4,h5,h6⟩:=h.th;have Ff:mm.xq (n:Int)=some t:=by unfold MM.xq;rw[if_neg (by omega),Int.toNat_natCast];exact ht
 have hn:=(bE.1 ht).1;cases hw:t.wait with
 |nil=>
  have e1:mm.flush n=(false,mm):=by unfold MM.flush;rw[Ff];simp only[hw]
  rw[e1];rw[hw] at h4;have:uA M f=(M,f):=by unfold uA;rw[<-h4]
  rw[this];exact⟨h,fun _ _=>rfl⟩
 |cons c r=>
  have e1:mm.flush n=(true,MM.mk (mm.mem.set c.1.toNat c.2) (mm.aM.set n {t with wait:=r}) mm.evs):=by unfold MM.flush;rw[Ff];simp only[hw,MM.put,Int.toNat_natCast]
  rw[e1];rw[hw] at h4;have:uA M f=(c::M,{f with wait:=r}):=by unfold uA;rw[<-h4]
  rw[this];have hc:=h.wt c (by rw[<-h4];exact List.mem_cons_self);refine⟨⟨⟨{t with wait:=r},?_,h1,h2,h3,rfl,h5,h6⟩,?_,?_,?_,h.rl⟩,?_⟩
  ·simp[hn]
  ·simp[h.len]
  ·intro a ha hl;rw[Uy hc.1 (by rw[h.len];exact hc.2) ha];show _=if c.1=a then c.2 else QE M a
   by_cases e:c.1=a
   ·rw[if_pos e,if_pos e]
   ·rw[if_neg e,if_neg e];exact h.mem a ha hl
  ·intro x hx;exact h.wt x (by rw[<-h4];exact List.mem_cons_of_mem _ hx)
  ·intro j hj;exact List.getElem?_set_ne (fun e=>hj e.symm)
theorem o6 {t:MT} (h2:∀i,i<8->t.reg i=f.reg.getD i 0) (rl:f.reg.length=8) {i:Int} (hi:0<=i) (hi8:i<8) (v:Int):∀j,j<8->(t.goes i v).reg j=(f.goes i v).reg.getD j 0:=by
 intro j hj;simp only[MT.goes,FT.goes,upd,List.getD_eq_getElem?_getD];by_cases e:j=i.toNat
 ·subst e;rw[if_pos rfl,List.getElem?_set_self (by omega)];rfl
 ·rw[if_neg e,List.getElem?_set_ne (fun q=>e q.symm),h2 j hj,List.getD_eq_getElem?_getD]
theorem Bq.step (h:Bq mm n code sz M f) (hf:f.fin=0) (hs:Nw code sz M f=some (M',f')):Bq (mm.step n).2 n code sz M' f'/\WS n mm (mm.step n).2:=by
 obtain⟨t,ht,h1,h2,h3,h4,h5,h6⟩:=h.th;have Ff:mm.xq (n:Int)=some t:=by unfold MM.xq;rw[if_neg (by omega),Int.toNat_natCast];exact ht
 have hn:=(bE.1 ht).1;have hoth:∀x:MT,∀j,j≠n->(mm.aM.set n x)[j]? =mm.aM[j]?:=fun x j hj=>List.getElem?_set_ne (fun e=>hj e.symm)
 unfold MM.step;rw[Ff];simp only[Int.toNat_natCast];rw[if_neg (by rw[h6,hf];simp)];unfold Nw at hs;cases ho:code[f.at_.toNat]? with
 |none=>rw[ho] at hs;cases hs
 |some o=>
  rw[ho] at hs;simp only at hs;by_cases hb:f.at_<0\/f.reg.length≠8\/o.a<0\/8<=o.a\/o.b<0\/8<=o.b
  ·rw[if_pos hb] at hs;cases hs
  rw[if_neg hb] at hs;have hra:t.r o.a=f.r o.a:=by unfold MT.r FT.r;exact h2 _ (by omega)
  have hrb:t.r o.b=f.r o.b:=by unfold MT.r FT.r;exact h2 _ (by omega)
  have hcode:(if t.at_<0 then none else t.code[t.at_.toNat]?)=some o:=by rw[h3,if_neg (by omega),h1];exact ho
  unfold MM.go;rw[hcode];simp only;have plain:∀(t':MT) (f':FT) (evs:List Ev),t'.code=code->(∀i,i<8->t'.reg i=f'.reg.getD i 0)->t'.at_=f'.at_->t'.wait=f'.wait->t'.out=f'.out->t'.fin=f'.fin->(∀c∈f'.wait,0<=c.1/\c.1<sz)->f'.reg.length=8->
    Bq ⟨mm.mem,mm.aM.set n t',evs⟩ n code sz M f'/\WS n mm ⟨mm.mem,mm.aM.set n t',evs⟩:=fun t' f' evs q1 q2 q3 q4 q5 q6 q7 q8=>
   ⟨⟨⟨t',by simp[hn],q1,q2,q3,q4,q5,q6⟩,h.len,h.mem,q7,q8⟩,hoth t'⟩
  have IA:∀i v,(f.goes i v).reg.length=8:=fun i v=>by simp[FT.goes,h.rl]
  by_cases k1:o.kind=1
  ·rw[if_pos k1] at hs;cases hs;have hw:t.word o=none:=by unfold MT.word;rw[if_neg (by omega),if_neg (by omega)]
   have hwt:t.waits o=false:=by unfold MT.waits;rw[if_neg (by omega),if_neg (by omega)]
   simp only[hw,hwt,MM.act,if_pos k1];exact plain _ _ _ h1 (o6 h2 h.rl (by omega) (by omega) _) (by simp[MT.goes,FT.goes,h3]) h4 h5 h6 h.wt (IA _ _)
  rw[if_neg k1] at hs;by_cases k2:o.kind=2
  ·rw[if_pos k2] at hs;cases hs;have hw:t.word o=none:=by unfold MT.word;rw[if_neg (by omega),if_neg (by omega)]
   have hwt:t.waits o=false:=by unfold MT.waits;rw[if_neg (by omega),if_neg (by omega)]
   simp only[hw,hwt,MM.act,if_neg k1,if_pos k2,hrb];exact plain _ _ _ h1 (o6 h2 h.rl (by omega) (by omega) _) (by simp[MT.goes,FT.goes,h3]) h4 h5 h6 h.wt (IA _ _)
  rw[if_neg k2] at hs;by_cases k3:o.kind=3
  ·rw[if_pos k3] at hs;have hw:t.word o=none:=by unfold MT.word;rw[if_neg (by omega),if_neg (by omega)]
   have hwt:t.waits o=false:=by unfold MT.waits;rw[if_neg (by omega),if_neg (by omega)]
   simp only[hw,hwt,MM.act,if_neg k1,if_neg k2,if_pos k3,hra,hrb];cases hc:gL o.bn (f.r o.a) (f.r o.b) with
   |none=>rw[hc] at hs;cases hs
   |some v=>
    rw[hc] at hs;cases hs;exact plain _ _ _ h1 (o6 h2 h.rl (by omega) (by omega) _) (by simp[MT.goes,FT.goes,h3]) h4 h5 h6 h.wt (IA _ _)
  rw[if_neg k3] at hs;by_cases k6:o.kind=6
  ·rw[if_pos k6] at hs;cases hs;have hw:t.word o=none:=by unfold MT.word;rw[if_neg (by omega),if_neg (by omega)]
   have hwt:t.waits o=false:=by unfold MT.waits;rw[if_neg (by omega),if_neg (by omega)]
   simp only[hw,hwt,MM.act,if_neg k1,if_neg k2,if_neg k3,if_neg (show ¬o.kind=4 by omega),if_neg (show ¬o.kind=5 by omega),if_pos k6];exact plain _ _ _ h1 h2 rfl h4 h5 h6 h.wt h.rl
  rw[if_neg k6] at hs;by_cases k7:o.kind=7
  ·rw[if_pos k7] at hs;cases hs;have hw:t.word o=none:=by unfold MT.word;rw[if_neg (by omega),if_neg (by omega)]
   have hwt:t.waits o=false:=by unfold MT.waits;rw[if_neg (by omega),if_neg (by omega)]
   simp only[hw,hwt,MM.act,if_neg k1,if_neg k2,if_neg k3,if_neg (show ¬o.kind=4 by omega),if_neg (show ¬o.kind=5 by omega),if_neg k6,if_pos k7,hra];exact plain _ _ _ h1 h2 (by rw[h3]) h4 h5 h6 h.wt h.rl
  rw[if_neg k7] at hs;by_cases k11:o.kind=11
  ·rw[if_pos k11] at hs;cases hs;have hw:t.word o=none:=by unfold MT.word;rw[if_neg (by omega),if_neg (by omega)]
   have hwt:t.waits o=false:=by unfold MT.waits;rw[if_neg (by omega),if_neg (by omega)]
   simp only[hw,hwt,MM.act,if_neg k1,if_neg k2,if_neg k3,if_neg (show ¬o.kind=4 by omega),if_neg (show ¬o.kind=5 by omega),if_neg k6,if_neg k7,if_neg (show ¬o.kind=8 by omega),if_neg (show ¬o.kind=9 by omega),if_neg (show ¬o.kind=10 by omega),if_pos k11,hra];exact plain _ _ _ h1 h2 (by simp[MT.next,h3]) h4 (by simp[MT.next,h5]) h6 h.wt h.rl
  rw[if_neg k11] at hs;by_cases k12:o.kind=12
  ·rw[if_pos k12] at hs;cases hs;have hw:t.word o=none:=by unfold MT.word;rw[if_neg (by omega),if_neg (by omega)]
   have hwt:t.waits o=false:=by unfold MT.waits;rw[if_neg (by omega),if_neg (by omega)]
   simp only[hw,hwt,MM.act,if_neg k1,if_neg k2,if_neg k3,if_neg (show ¬o.kind=4 by omega),if_neg (show ¬o.kind=5 by omega),if_neg k6,if_neg k7,if_neg (show ¬o.kind=8 by omega),if_neg (show ¬o.kind=9 by omega),if_neg (show ¬o.kind=10 by omega),if_neg k11,if_pos k12];exact plain _ _ _ h1 h2 (by simp[MT.next,h3]) h4 h5 h6 h.wt h.rl
  rw[if_neg k12] at hs;by_cases k14:o.kind=14
  ·rw[if_pos k14] at hs;cases hs;have hw:t.word o=none:=by unfold MT.word;rw[if_neg (by omega),if_neg (by omega)]
   have hwt:t.waits o=false:=by unfold MT.waits;rw[if_neg (by omega),if_neg (by omega)]
   simp only[hw,hwt,MM.act,if_neg k1,if_neg k2,if_neg k3,if_neg (show ¬o.kind=4 by omega),if_neg (show ¬o.kind=5 by omega),if_neg k6,if_neg k7,if_neg (show ¬o.kind=8 by omega),if_neg (show ¬o.kind=9 by omega),if_neg (show ¬o.kind=10 by omega),if_neg k11,if_neg k12,if_neg (show ¬o.kind=13 by omega),if_pos k14];exact plain _ _ _ h1 h2 h3 h4 h5 rfl h.wt h.rl
  rw[if_neg k14] at hs;by_cases k4:o.kind=4\/o.kind=15
  ·rw[if_pos k4] at hs;split at hs
   ·rename_i hr;cases hs;have hw:t.word o=some (fq (f.r o.b+o.n)):=by unfold MT.word;rw[if_pos k4,hrb]
    have hwt:t.waits o=false:=by unfold MT.waits;rw[if_neg (by omega),if_neg (by omega)]
    have hhas:mm.has (fq (f.r o.b+o.n))=true:=by unfold MM.has;rw[decide_eq_true_eq,h.len];exact hr
    have hfo:mm.found t (fq (f.r o.b+o.n))=fnd f M (fq (f.r o.b+o.n)):=by unfold MM.found fnd;rw[h4,h.mem _ hr.1 hr.2]
    simp only[hw,hwt,hhas,if_true,MM.act,if_neg k1,if_neg k2,if_neg k3,if_neg k6,if_neg k7,if_neg k11,if_neg k12,if_neg k14,if_neg (show ¬o.kind=5 by omega),if_neg (show ¬o.kind=8 by omega),if_neg (show ¬o.kind=9 by omega),if_neg (show ¬o.kind=10 by omega),if_neg (show ¬o.kind=13 by omega),hfo];rcases k4 with k4|k15
    ·simp only[if_pos k4];exact plain _ _ _ h1 (o6 h2 h.rl (by omega) (by omega) _) (by simp[MT.goes,FT.goes,h3]) h4 h5 h6 h.wt (IA _ _)
    ·simp only[if_neg (show ¬o.kind=4 by omega),if_pos k15];exact plain _ _ _ h1 (o6 h2 h.rl (by omega) (by omega) _) (by simp[MT.goes,FT.goes,h3]) h4 h5 h6 h.wt (IA _ _)
   ·cases hs
  rw[if_neg k4] at hs;by_cases k5:o.kind=5
  ·rw[if_pos k5] at hs;split at hs
   ·rename_i hr;cases hs;have hw:t.word o=some (fq (f.r o.a+o.n)):=by unfold MT.word;rw[if_neg k4,if_pos (by omega),hra]
    have hwt:t.waits o=false:=by unfold MT.waits;rw[if_pos k5,h4];simp;omega
    have hhas:mm.has (fq (f.r o.a+o.n))=true:=by unfold MM.has;rw[decide_eq_true_eq,h.len];exact⟨hr.1,hr.2.1⟩
    simp only[hw,hwt,hhas,if_true,MM.act,if_neg k1,if_neg k2,if_neg k3,if_neg (show ¬o.kind=4 by omega),if_pos k5,hrb];exact plain _ _ _ h1 h2 (by simp[MT.next,h3]) (by simp[MT.next,h4]) h5 h6 (fun c hc=>by
     rcases List.mem_append.1 hc with hc|hc
     ·exact h.wt c hc
     ·simp at hc;subst hc;exact⟨hr.1,hr.2.1⟩) h.rl
   ·cases hs
  rw[if_neg k5] at hs;have store:∀(a v:Int) (t':MT) (f':FT),0<=a->a<sz->t'.code=code->(∀i,i<8->t'.reg i=f'.reg.getD i 0)->t'.at_=f'.at_->t'.wait=f'.wait->t'.out=f'.out->t'.fin=f'.fin->(∀c∈f'.wait,0<=c.1/\c.1<sz)->f'.reg.length=8->
    Bq ⟨mm.mem.set a.toNat v,mm.aM.set n t',mm.evs⟩ n code sz ((a,v)::M) f'/\WS n mm ⟨mm.mem.set a.toNat v,mm.aM.set n t',mm.evs⟩:=fun a v t' f' ha hl q1 q2 q3 q4 q5 q6 q7 q8=>
   ⟨⟨⟨t',by simp[hn],q1,q2,q3,q4,q5,q6⟩,by simp[h.len],fun b hb hbl=>by
    rw[Uy ha (by rw[h.len];exact hl) hb];show _=if a=b then v else QE M b
    by_cases e:a=b
    ·rw[if_pos e,if_pos e]
    ·rw[if_neg e,if_neg e];exact h.mem b hb hbl,q7,q8⟩,hoth t'⟩
  by_cases k8:o.kind=8
  ·rw[if_pos k8] at hs;split at hs
   ·rename_i hr;cases hs;have hw:t.word o=some (fq (f.r o.a+o.n)):=by unfold MT.word;rw[if_neg k4,if_pos (by omega),hra]
    have hwt:t.waits o=false:=by unfold MT.waits;rw[if_neg k5,if_pos (by omega),h4,hr.2.2.1];rfl
    have hhas:mm.has (fq (f.r o.a+o.n))=true:=by unfold MM.has;rw[decide_eq_true_eq,h.len];exact⟨hr.1,hr.2.1⟩
    have hrc:t.r o.c=f.r o.c:=by unfold MT.r FT.r;exact h2 _ (by omega)
    simp only[hw,hwt,hhas,if_true,MM.act,if_neg k1,if_neg k2,if_neg k3,if_neg (show ¬o.kind=4 by omega),if_neg k5,if_neg k6,if_neg k7,if_pos k8,hrb,hrc,h.mem _ hr.1 hr.2.1];by_cases e:QE M (fq (f.r o.a+o.n))=f.r o.b
    ·simp only[if_pos e];exact store _ _ _ _ hr.1 hr.2.1 h1 (o6 h2 h.rl (by omega) (by omega) _) (by simp[MT.goes,FT.goes,h3]) h4 h5 h6 h.wt (IA _ _)
    ·simp only[if_neg e];exact plain _ _ _ h1 (o6 h2 h.rl (by omega) (by omega) _) (by simp[MT.goes,FT.goes,h3]) h4 h5 h6 h.wt (IA _ _)
   ·cases hs
  rw[if_neg k8] at hs;by_cases k9:o.kind=9
  ·rw[if_pos k9] at hs;split at hs
   ·rename_i hr;cases hs;have hw:t.word o=some (fq (f.r o.a+o.n)):=by unfold MT.word;rw[if_neg k4,if_pos (by omega),hra]
    have hwt:t.waits o=false:=by unfold MT.waits;rw[if_neg k5,if_pos (by omega),h4,hr.2.2];rfl
    have hhas:mm.has (fq (f.r o.a+o.n))=true:=by unfold MM.has;rw[decide_eq_true_eq,h.len];exact⟨hr.1,hr.2.1⟩
    simp only[hw,hwt,hhas,if_true,MM.act,if_neg k1,if_neg k2,if_neg k3,if_neg (show ¬o.kind=4 by omega),if_neg k5,if_neg k6,if_neg k7,if_neg k8,if_pos k9,hrb,h.mem _ hr.1 hr.2.1];exact store _ _ _ _ hr.1 hr.2.1 h1 (o6 h2 h.rl (by omega) (by omega) _) (by simp[MT.goes,FT.goes,h3]) h4 h5 h6 h.wt (IA _ _)
   ·cases hs
  rw[if_neg k9] at hs;cases hs
theorem Sg (th z:Int):∀k,bQ ⟨2,th,z⟩ k=bQ ⟨2,th,0⟩ k:=by
 intro k;induction k with
 |zero=>rfl
 |succ k ih=>unfold bQ;rw[ih];rfl
theorem Iy (p:gT):∀k,bQ p (k+1)=jP p++bQ p k:=by
 intro k;induction k with
 |zero=>simp[bQ]
 |succ k ih=>
  have e:bQ p (k+1+1)=bQ p (k+1)++jP p:=rfl;have e2:bQ p (k+1)=bQ p k++jP p:=rfl;rw[e,ih,List.append_assoc,<-e2,ih]
theorem Kj (n:Nat) (z:Int) (mm:MM) (st:Int):(bg (mm,st) (jP ⟨2,n,z⟩)).1=((mm.step n).2.flush n).2:=by
 have e:jP ⟨2,n,z⟩=[.step n,.flush n]:=rfl;rw[e];rfl
theorem Bq.both (h:Bq mm n code sz M f) (hs:Ah code sz M f=some (M',f')) (st:Int):Bq (bg (mm,st) (jP ⟨2,n,0⟩)).1 n code sz M' f'/\WS n mm (bg (mm,st) (jP ⟨2,n,0⟩)).1:=by
 rw[Kj];unfold Ah at hs;split at hs
 ·rename_i hf;obtain⟨t,ht, -, -, -, -, -,h6⟩:=h.th;have Ff:mm.xq (n:Int)=some t:=by unfold MM.xq;rw[if_neg (by omega),Int.toNat_natCast];exact ht
  have e:(mm.step n).2=mm:=by unfold MM.step;rw[Ff];simp only;rw[if_pos (by rw[h6];exact hf)]
  rw[e];have h1:=h.flush;rw[bU] at hs;rw[hs] at h1;exact h1
 ·rename_i hf;cases hq:Nw code sz M f with
  |none=>rw[hq] at hs;cases hs
  |some p=>
   obtain⟨M1,f1⟩:=p;rw[hq] at hs;simp only[bU] at hs;have h1:=h.step (by simpa using hf) hq;have h2:=h1.1.flush;rw[hs] at h2;exact⟨h2.1,fun j hj=>(h2.2 j hj).trans (h1.2 j hj)⟩
theorem Bq.run:∀(k:Nat) {mm:MM} {M:List (Int×Int)} {f:FT} (st:Int),Bq mm n code sz M f->uY code sz k M f=some (M',f')->Bq (bg (mm,st) (bQ ⟨2,n,0⟩ k)).1 n code sz M' f'/\WS n mm (bg (mm,st) (bQ ⟨2,n,0⟩ k)).1:=by
 intro k;induction k with
 |zero=>
  intro mm M f st h hs;simp only[uY,bU,Prod.mk.injEq] at hs;obtain⟨rfl,rfl⟩:=hs;exact⟨h,fun _ _=>rfl⟩
 |succ k ih=>
  intro mm M f st h hs;unfold uY at hs;cases hq:Ah code sz M f with
  |none=>rw[hq] at hs;cases hs
  |some p=>
   obtain⟨M1,f1⟩:=p;rw[hq] at hs;simp only at hs;obtain⟨h1,h2⟩:=h.both hq st;rw[Iy,kY];have e:bg (mm,st) (jP ⟨2,n,0⟩)=((bg (mm,st) (jP ⟨2,n,0⟩)).1,(bg (mm,st) (jP ⟨2,n,0⟩)).2):=rfl;rw[e];have h4:=ih (bg (mm,st) (jP ⟨2,n,0⟩)).2 h1 hs;exact⟨h4.1,fun j hj=>(h4.2 j hj).trans (h2 j hj)⟩
theorem SY (hf:f.fin≠0) (hw:f.wait=[]):∀k,uY code sz k M f=some (M,f):=by
 intro k;induction k with
 |zero=>rfl
 |succ k ih=>
  have:Ah code sz M f=some (M,f):=by unfold Ah;rw[if_pos hf];unfold uA;rw[hw]
  unfold uY;rw[this];exact ih
theorem Es (k:Nat) (M:List (Int×Int)) (f:FT):uY code sz (k+1) M f=(match Ah code sz M f with|none=>none|some (M',f')=>uY code sz k M' f'):=rfl
theorem QL:∀(j:Nat) {M M1:List (Int×Int)} {f f1:FT} (k:Nat),uY code sz j M f=some (M1,f1)->uY code sz (j+k) M f=uY code sz k M1 f1:=by
 intro j;induction j with
 |zero=>
  intro M M1 f f1 k h;simp only[uY,bU,Prod.mk.injEq] at h;obtain⟨rfl,rfl⟩:=h;rw[Nat.zero_add]
 |succ j ih=>
  intro M M1 f f1 k h;rw[Nat.add_right_comm,Es];rw[Es] at h;cases hq:Ah code sz M f with
  |none=>rw[hq] at h;cases h
  |some p=>
   obtain⟨Mp,fp⟩:=p;rw[hq] at h;exact ih k h
end
theorem FU (rs:List (List Tx)):∀j,iq (rs.take j)<=iq rs:=by
 induction rs with
 |nil=>intro j;simp
 |cons l rs ih=>
  intro j;cases j with
  |zero=>simp[iq]
  |succ j=>rw[List.take_succ_cons,iM,iM];have:=ih j;omega
theorem IU {c:Cd} {o:bM} (h:(c.put o).over=false):c.over=false:=by
 unfold Cd.put at h;split at h
 ·simp at h
 ·exact h
theorem vS {t:dw} {rs:List (List Tx)} (h:ig rs<=262144) (j:Nat):(gU t (rs.take j)).over=false/\(gU t (rs.take j)).halt.over=false:=by
 have h1:=(zM (t:=t) (rs:=rs.take j) (by unfold ig at*;have:=FU rs j;omega)).1;exact⟨IU h1,h1⟩
abbrev vw:=List (Value×List (Value×List Tx))
def pR (ts:vw):Nat:=(ts.map fun t=>ig (rowsOf t)).sum
theorem Af {ts:vw} {t:Value×List (Value×List Tx)} (h:t∈ts):ig (rowsOf t)<=pR ts:=by
 unfold pR;induction ts with
 |nil=>cases h
 |cons a l ih=>
  rw[List.map_cons,List.sum_cons];rcases List.mem_cons.1 h with rfl|h
  ·omega
  ·have:=ih h;omega
theorem Lh (ts:vw):∀j,pR (ts.take j)<=pR ts:=by
 unfold pR;induction ts with
 |nil=>intro j;simp
 |cons a l ih=>
  intro j;cases j with
  |zero=>simp
  |succ j=>rw[List.take_succ_cons,List.map_cons,List.sum_cons,List.map_cons,List.sum_cons];have:=ih j;omega
theorem xN {words:Int} {n:Nat} {ts:vw} {cs:List (Nat×List bM)} (h:mD words n ts cs) (hp:∀t∈ts,ig (rowsOf t)<=262144):cs.map Prod.snd=ts.mapIdx (fun i t=>bI (fE words n i) (rowsOf t)):=by
 refine List.ext_getElem (by simp[h.len]) fun i h1 h2=>?_
 have hi:i<cs.length:=by simpa using h1
 have ht:i<ts.length:=by rw[<-h.len];exact hi
 rw[List.getElem_map,List.getElem_mapIdx];obtain⟨e1,e2⟩:=h.at_ i _ _ (dZ hi) (dZ ht);rw[e1];exact(zM (hp _ (List.getElem_mem ht))).2.1
theorem I6 {words:Int} {n:Nat} {ts:vw} {cs:List (Nat×List bM)} (h:mD words n ts cs) (hp:∀t∈ts,ig (rowsOf t)<=262144):iN cs=pR ts:=by
 have e:iN cs=((cs.map Prod.snd).map List.length).sum:=by unfold iN;rw[List.map_map];rfl
 rw[e,xN h hp];unfold pR;congr 1
 refine List.ext_getElem (by simp) fun i h1 h2=>?_
 simp[EF]
theorem RJ {words:Int} {ts:vw} (h:ts.length<=4) (hm:fK words (dM ts.length)=0) (hp:pR ts<=262144):¬Nc words ts:=by
 have hp1:∀t∈ts,ig (rowsOf t)<=262144:=fun t ht=>Nat.le_trans (Af ht) hp
 rintro(q|q|⟨i,t,j,ht,hj,q⟩|⟨i,cs,hi,hc,q⟩)
 ·omega
 ·rw[hm] at q;cases q
 ·have ht':=bA ht;have e:(t.2.take j).map Prod.snd=(rowsOf t).take j:=by unfold rowsOf;rw[List.map_take]
  rw[e] at q;obtain⟨a,b⟩:=vS (t:=fE words ts.length i) (hp1 t ht') j;rcases q with q|q
  ·rw[a] at q;cases q
  ·rw[b] at q;cases q
 ·have:=I6 hc (fun t ht=>hp1 t (List.mem_of_mem_take ht));have:=Lh ts i;omega
theorem pM {n:Int} {s:Int×Bool} (h:s.1+n<=262144):tk n s=(s.1+n,s.2):=by unfold tk;rw[if_neg (by omega)]
theorem VE (n:Nat):∀{s:Int×Bool},s.2=false->s.1+4320*n<=262144->(fin (dM n) s).2=false:=by
 induction n with
 |zero=>intro s h _;exact h
 |succ n ih=>
  intro s h h2;have e:FI 32 s=(s.1+4320,s.2):=by
   unfold FI;rw[pM (n:=32) (s:=s) (by omega),pM (n:=128) (by simp only;omega),pM (n:=64) (by simp only;omega),pM (n:=4096) (by simp only;omega)];simp only;congr 1
   omega
  show(fin (dM n) (FI 32 s)).2=false;rw[e];exact ih h (by simp only;omega)
theorem wh {words:Int} {n:Nat} (h:0<=words) (h2:words<=65536) (hn:n<=4):fK words (dM n)=0:=by
 rw[EA h (fun j hj=>tT n _ (by unfold nth;rw[List.getD_eq_getElem?_getD,dZ hj];exact List.getElem_mem hj)) (by rw[rZ];exact hn),if_neg];have e:s0 words=(words+18,false):=by
  unfold s0;rw[pM (n:=words) (by simp only;omega),pM (n:=17) (by simp only;omega)];simp only;congr 1
  omega
 rw[e,VE n rfl (by simp only;omega)];decide
theorem Ep {w w':World} {e:Ending} {words:Int} {ts:vw} (h:zI words ts w e w') (h0:0<=words) (h1:words<=65536) (hn:ts.length<=4) (hp:pR ts<=262144) (ho:∀t∈ts,gN words t.2=true):
  Below w.heap.size w w'/\∃(co:Option Addr) (cc:Nat) (cs:List (Nat×List bM)),e= .returned (.tuple #[.agg #[.slice co cs.length cc,.int .i64 (dz words ts.length),.slice none 0 0],.int .i64 0])/\
   w'.ownsRow w.heap.size 57 1 (.slice co cs.length cc) cs.length (cs.map uH)/\p_ w' w.heap.size cs/\
   cs.map Prod.snd=ts.mapIdx (fun i t=>bI (fE words ts.length i) (rowsOf t))/\iN cs<=262144:=by
 obtain⟨hb,hr⟩:=h;refine⟨hb,?_⟩;have hm:=wh (n:=ts.length) h0 h1 hn;rcases hr with⟨en, -,⟨-,q|⟨t,ht,q⟩⟩|⟨-,q⟩⟩|⟨co,cc,cs,he,hown,hin,acJ,hsum, -⟩
 ·omega
 ·rw[ho t ht] at q;cases q
 ·exact absurd q (RJ hn hm hp)
 ·exact⟨co,cc,cs,he,hown,hin,xN acJ (fun t ht=>Nat.le_trans (Af ht) hp),hsum⟩
theorem zO {n:Int} {s:Int×Bool} (h:(tk n s).2=false):s.2=false/\tk n s=(s.1+n,false)/\s.1+n<=262144:=by
 unfold tk at h⊢;split at h
 ·cases h
 ·rename_i q;rw[if_neg q];simp only at h;exact⟨h,by rw[h],by omega⟩
theorem KT {zs:List Int} {s:Int×Bool} (h:(fin zs s).2=false):s.2=false:=by
 cases hs:s.2 with
 |false=>rfl
 |true=>rw[BQ zs hs] at h;cases h
theorem ND {s:Int×Bool} (h:(FI 32 s).2=false):s.2=false/\tk 32 s=(s.1+32,false)/\tk 128 (tk 32 s)=(s.1+160,false)/\tk 64 (tk 128 (tk 32 s))=(s.1+224,false)/\FI 32 s=(s.1+4320,false)/\s.1+4320<=262144:=by
 obtain⟨h3,e3,b3⟩:=zO (show(tk 4096 (tk 64 (tk 128 (tk 32 s)))).2=false from h);obtain⟨h2,e2,b2⟩:=zO h3;obtain⟨h1,e1,b1⟩:=zO h2;obtain⟨h0,e0,b0⟩:=zO h1;have f1:(tk 32 s).1=s.1+32:=by rw[e0]
 have f2:(tk 128 (tk 32 s)).1=s.1+160:=by rw[e1];simp only;omega
 have f3:(tk 64 (tk 128 (tk 32 s))).1=s.1+224:=by rw[e2];simp only;omega
 have f4:(tk 4096 (tk 64 (tk 128 (tk 32 s)))).1=s.1+4320:=by rw[e3];simp only;omega
 refine⟨h0,e0,?_,?_,?_,by omega⟩
 ·rw[e1,f1];congr 1;omega
 ·rw[e2,f2];congr 1;omega
 ·show tk 4096 (tk 64 (tk 128 (tk 32 s)))=_;rw[e3,f3];congr 1;omega
theorem N8 (k:Nat):∀{s:Int×Bool},(fin (dM k) s).2=false->(∀i,i<k->(placesOf (dM k) s)[i]? =some ⟨s.1+4320*(i:Int),s.1+4320*(i:Int)+32,s.1+4320*(i:Int)+160,s.1+4320*(i:Int)+224,s.1+4320*(i:Int)+4320⟩)/\(fin (dM k) s).1=s.1+4320*(k:Int):=by
 induction k with
 |zero=>intro s h;exact⟨fun i hi=>by omega,by simp[dM,fin]⟩
 |succ k ih=>
  intro s h;have h1:(fin (dM k) (FI 32 s)).2=false:=h;obtain⟨q0,q1,q2,q3,q4,q5⟩:=ND (KT h1);obtain⟨i1,i2⟩:=ih h1;have e:placesOf (dM (k+1)) s=⟨s.1,(tk 32 s).1,(tk 128 (tk 32 s)).1,(tk 64 (tk 128 (tk 32 s))).1,(tk 4096 (tk 64 (tk 128 (tk 32 s)))).1⟩::placesOf (dM k) (FI 32 s):=rfl;refine⟨fun i hi=>?_,?_⟩
  ·rw[e];cases i with
   |zero=>
    have q6:(tk 4096 (tk 64 (tk 128 (tk 32 s)))).1=s.1+4320:=by
     have:FI 32 s=tk 4096 (tk 64 (tk 128 (tk 32 s))):=rfl;rw[<-this,q4]
    rw[List.getElem?_cons_zero,q6,q3,q2,q1];simp
   |succ i=>
    rw[List.getElem?_cons_succ,i1 i (by omega),q4];simp only;congr 2<;>omega
  ·show(fin (dM k) (FI 32 s)).1=_;rw[i2,q4];simp only;omega
theorem KX {words:Int} {n:Nat} (h:fK words (dM n)=0):0<=words/\dz words n=words+18+4320*(n:Int)/\dz words n<=262144/\∀i:Nat,i<n->fE words n i=nN words (dz words n) ⟨words+18+4320*(i:Int),words+18+4320*(i:Int)+32,words+18+4320*(i:Int)+160,words+18+4320*(i:Int)+224,words+18+4320*(i:Int)+4320⟩ i:=by
 have hw:=o7 h;have hf:(fin (dM n) (s0 words)).2=false:=by
  cases hq:(fin (dM n) (s0 words)).2 with
  |false=>rfl
  |true=>
   exfalso;unfold fK at h;split at h
   ·cases h
   ·split at h
    ·cases h
    ·split at h
     ·cases h
     ·first|(rw[if_pos hq] at h;cases h)|cases h
 have hs:=KT hf;obtain⟨h1,e1,b1⟩:=zO (show(tk 17 (tk words (1,false))).2=false from hs);obtain⟨h0,e0,b0⟩:=zO h1;have es:s0 words=(words+18,false):=by
  show tk 17 (tk words (1,false))=_;rw[e1,e0];simp only;congr 1
  omega
 obtain⟨p1,p2⟩:=N8 n hf;have hsz:dz words n=words+18+4320*(n:Int):=by
  show mkS words (dM n)=_;unfold mkS;rw[if_pos h,p2,es]
 refine⟨hw.1,hsz,?_,fun i hi=>?_⟩
 ·rw[hsz];rcases n with _|n
  ·have:(tk 17 (tk words (1,false))).1<=262144:=by rw[e1];exact b1
   rw[show tk 17 (tk words (1,false))=s0 words from rfl,es] at this;simp only at this;omega
  ·have h2:(fin (dM (n+1)) (s0 words)).1<=262144:=by
    have key:∀(k:Nat) {s:Int×Bool},s.1<=262144->(fin (dM k) s).2=false->(fin (dM k) s).1<=262144:=by
     intro k;induction k with
     |zero=>intro s h _;exact h
     |succ k ih=>
      intro s _ h;have h1:(fin (dM k) (FI 32 s)).2=false:=h;obtain⟨-, -, -, -,q4,q5⟩:=ND (KT h1);exact ih (by rw[q4];exact q5) h1
    exact key _ (by rw[show(s0 words).1=words+18 by rw[es]];simp only at b1 e0;rw[e0] at b1;simp only at b1;omega) hf
   rw[p2,es] at h2;exact h2
 ·unfold fE;have hp:yF words n=placesOf (dM n) (s0 words):=if_pos h;rw[hp,List.getD_eq_getElem?_getD,p1 i hi,es];rfl
def jq (words:Int) (rs:List (List (List Tx))):zB:=⟨rs.length,words,dz words rs.length,fE words rs.length,fun n=>rs.getD n [],fun n=>words+18+4320*(n:Int),fun n=>words+18+4320*(n:Int)+160⟩
theorem Pz {words:Int} {rs:List (List (List Tx))} (h:fK words (dM rs.length)=0) (h4:rs.length<=4) (hwf:∀r∈rs,∀l∈r,∀o∈l,1<=o.at_/\o.at_<=words):oH (jq words rs):=by
 obtain⟨w0,hsz,hle,htx⟩:=KX h;have hw:words<=262144:=by omega
 refine⟨h4,⟨w0,hw⟩,fun n hn=>⟨?_,fun l hl o ho=>?_⟩,fun n hn=>by show(fE words rs.length n).words=words;rw[htx n hn];rfl,fun n hn=>by show(fE words rs.length n).th=n;rw[htx n hn];rfl,fun n hn=>?_,fun n k hn hk hnk=>?_⟩
 ·have hn':n<rs.length:=hn;show Lay (fE words rs.length n) (words+18+4320*(n:Int)) (words+18+4320*(n:Int)+160);rw[htx n hn];refine⟨⟨w0,hw⟩,?_,rfl,rfl,?_,?_,by omega,?_⟩
  ·show words+18<=_;omega
  ·show words+18+4320*(n:Int)+32<=words+18+4320*(n:Int)+32;omega
  ·show words+18+4320*(n:Int)+32+128<=words+18+4320*(n:Int)+160;omega
  ·show 0<=(n:Int)/\(n:Int)<4;omega
 ·have e:(fE words rs.length n).words=words:=by rw[htx n hn];rfl
  show _/\_<=(fE words rs.length n).words;rw[e];have hl':l∈rs.getD n []:=hl;rw[List.getD_eq_getElem?_getD,dZ hn] at hl';exact hwf _ (List.getElem_mem _) l hl' o ho
 ·have hn':n<rs.length:=hn;show words+18+4320*(n:Int)+160<=dz words rs.length;omega
 ·show words+18+4320*(n:Int)+160<=words+18+4320*(k:Int)\/words+18+4320*(k:Int)+160<=words+18+4320*(n:Int);omega
def AS.start (rs:Nat->List (List Tx)):AS:=⟨fun _=>0,0,fun _=>0,fun n=>aO.begin (rs n),[]⟩
theorem oM (rs:List (List Tx)):Mv aO.none (aO.begin rs)/\(aO.begin rs).pt.oQ=false/\(aO.begin rs).pt.pend=false/\(aO.begin rs).pt≠ .wb/\((aO.begin rs).pt= .look\/(aO.begin rs).pt= .halt):=by
 obtain⟨t1,t2,t3⟩:=Iz aO.none rs;refine⟨vk _ _,t2,t1,t3,?_⟩;unfold aO.begin aO.fu;split
 ·exact .inl rfl
 ·exact .inr rfl
theorem bS.start (N:Nat) (words:Int) (rs:Nat->List (List Tx)):bS N words (AS.start rs):=by
 have hb:∀n,((AS.start rs).aM n).buf=[]:=fun n=>(oM (rs n)).1.buf
 have hh:∀n k,((AS.start rs).aM n).held k=false:=fun n k=>by rw[show(AS.start rs).aM n=aO.begin (rs n) from rfl,(oM (rs n)).1.held];rfl
 refine⟨Int.le_refl _,fun n hn=>?_,fun n hn=>?_,fun n hn s hs=>?_,fun s hs h=>absurd rfl h,fun s hs _=>⟨Int.le_refl _,Int.le_refl _⟩⟩
 ·have B:tQ words 0 aO.none:=⟨by simp[aO.none],by simp[aO.none],by simp[aO.none],by decide,⟨Int.le_refl _,Int.le_refl _⟩,rfl,fun k hk=>by simp[aO.none] at hk⟩;show vP words 0 (aO.none.fu (rs n));unfold aO.fu;split
  ·exact B.free (fun _=>rfl) (.inl rfl)
  ·exact B.free (fun _=>rfl) (.inr (.inr (.inr (.inr rfl))))
 ·refine⟨fun s v q=>(by rw[hh] at q;cases q),fun l1 l2 s v u q=>?_,fun s v q=>?_,fun l1 l2 x v q=>?_⟩
  ·rw[hb] at q;simp at q
  ·rw[hb] at q;simp at q
  ·rw[hb] at q;simp at q
 ·show(0:Int)=2*n+1↔_;constructor
  ·intro q;omega
  ·rintro(q|⟨v,q⟩)
   ·rw[hh] at q;cases q
   ·rw[hb] at q;simp at q
theorem dP.start (N:Nat) (words:Int) (M:Nat) (rs:Nat->List (List Tx)):dP N words M (AS.start rs) HS.init []:=by
 have how:∀n x,gZ x ((AS.start rs).aM n).owed=none:=fun n x=>by
  rw[show(AS.start rs).aM n=aO.begin (rs n) from rfl,eP (oM (rs n)).2.2.2.1,(oM (rs n)).1.buf];rfl
 refine⟨eY.init M,fun _ _ _=>rfl,fun _ _ _=>rfl,fun n _ q=>?_,fun x _ _ _=>rfl,fun n _ x v q=>?_,fun c hc=>(by cases hc),fun n _ q=>?_,fun n _ q=>?_⟩
 ·rw[show(AS.start rs).aM n=aO.begin (rs n) from rfl,(oM (rs n)).2.1] at q;cases q
 ·rw[how] at q;cases q
 ·rw[show(AS.start rs).aM n=aO.begin (rs n) from rfl,(oM (rs n)).2.2.1] at q;cases q
 ·rw[show(AS.start rs).aM n=aO.begin (rs n) from rfl,(oM (rs n)).2.2.1] at q;cases q
theorem xm.start {W:zB} (ok:oH W) (hsz:W.words+18<=W.size):xm W (iC W.size ((List.range W.N).map (fun n=>bI (W.tx n) (W.rs n))) []) (AS.start W.rs) (fun _=>8):=by
 have hw:=ok.words;have hmem:(iC W.size ((List.range W.N).map (fun n=>bI (W.tx n) (W.rs n))) []).mem=List.replicate W.size.toNat 0:=rfl;have hat:∀x,(iC W.size ((List.range W.N).map (fun n=>bI (W.tx n) (W.rs n))) []).at x=0:=fun x=>by
  unfold MM.at;rw[hmem,List.getD_eq_getElem?_getD,List.getElem?_replicate];split<;>rfl
 refine⟨by simp[iC],by rw[hmem,List.length_replicate];omega,rfl,fun x _ _=>hat x,hat _,fun s _=>hat _,fun n t ht=>?_⟩;have hn:n<W.N:=by
  have:=(bE.1 ht).1;simpa [iC] using this
 have e:t=MT.new (bI (W.tx n) (W.rs n)):=by
  simp only[iC,List.map_map,List.getElem?_map,List.getElem?_range hn,Option.map_some,Function.comp_apply,bU] at ht;exact ht.symm
 subst e;obtain⟨mv, -⟩:=oM (W.rs n);refine⟨rfl,mv.out.symm,mv.fin.symm,Int.le_refl _,?_,fun c hc=>by simp[MT.new] at hc,fun _=>MI (ok.ctx n hn)⟩;show([]:List (Int×Int))=(aO.begin (W.rs n)).buf.map _;rw[mv.buf];rfl
theorem EC (rs:List (List Tx)) (m:AS) (n:Nat):(m.act rs n).clock<=m.clock+1:=by
 obtain⟨a,ha⟩:∃a,m.aM n=a:=⟨_,rfl⟩;have h0:m.clock<=m.clock+1:=by omega
 cases hp:a.pt with
 |look=>rw[qF ha hp];exact h0
 |rd=>rw[xV ha hp];exact h0
 |Bz=>rw[uo ha hp];split<;>exact h0
 |dat=>rw[uy ha hp];exact h0
 |ym=>rw[uz ha hp];split<;>exact h0
 |wr=>rw[xR ha hp];exact h0
 |full=>rw[yU ha hp];exact h0
 |ro=>rw[xL ha hp];exact h0
 |Eg=>rw[uB ha hp];split<;>exact h0
 |zw=>rw[tX ha hp];split<;>exact h0
 |qG=>rw[qJ ha hp];exact Int.le_refl _
 |Bc=>rw[uN ha hp];(repeat' split)<;>exact h0
 |BM=>rw[uP ha hp];exact h0
 |wb=>
  cases hc:a.log[a.i]? with
  |some c=>rw[xJ ha hp hc];exact h0
  |none=>
   unfold AS.act;rw[ha];simp only[hp,hc];exact h0
 |rel=>rw[uI ha hp];exact h0
 |DK=>rw[tY ha hp];exact h0
 |u6=>rw[uw ha hp];exact h0
 |out=>rw[uh ha hp];exact h0
 |halt=>rw[qM ha hp];exact h0
 |over=>rw[tu ha hp];exact h0
theorem AV (m:AS) (n:Nat):(m.flush n).clock=m.clock:=by
 unfold AS.flush;split<;>rfl
theorem y7 {mm:MM} {z:Int} (h:z<0):mm.step z=(false,mm)/\mm.flush z=(false,mm):=by
 unfold MM.step MM.flush MM.xq;rw[if_pos h];exact⟨rfl,rfl⟩
theorem zB.wf {W:zB} (ok:oH W) {n:Nat} (hn:n<W.N):∀l∈W.rs n,∀o∈l,1<=o.at_/\o.at_<=W.words:=fun l hl o ho=>by
 have:=(ok.ctx n hn).wf l hl o ho;rw[ok.wd n hn] at this;exact this
theorem TD (st:MM×Int) (a:Ee):(mV st a).2<=st.2+1:=by
 cases a with
 |step z=>show(if(st.1.step z).1=true then st.2+1 else st.2)<=st.2+1;split<;>omega
 |flush z=>show st.2<=st.2+1;omega
section
inductive qW:List Tx->List Ev->Int->Int->Prop
 |nil {row:List Tx} {z:Int}:qW row [] z z
 |rd {o:Tx} {row:List Tx} {e:Ev} {l:List Ev} {z y:Int}:o.kind=2->e.a=o.at_->e.k=2->qW row l (fq (z+e.b)) y->qW (o::row) (e::l) z y
 |wr {o:Tx} {row:List Tx} {e:Ev} {l:List Ev} {z y:Int}:o.kind≠2->e.a=o.at_->e.k=3->e.b=fq (z+o.v)->qW row l z y->qW (o::row) (e::l) z y
theorem qW.len {row:List Tx} {l:List Ev} {z y:Int} (h:qW row l z y):l.length<=row.length:=by
 induction h with
 |nil=>exact Nat.zero_le _
 |rd _ _ _ _ ih=>simp only[List.length_cons];omega
 |wr _ _ _ _ _ ih=>simp only[List.length_cons];omega
theorem qW.Xv {row:List Tx} {l:List Ev} {e:Ev} {o:Tx} {z y:Int} (h:qW row l z y) (ho:row[l.length]? =some o) (hk:o.kind=2) (h1:e.a=o.at_) (h2:e.k=2):qW row (l++[e]) z (fq (y+e.b)):=by
 induction h with
 |@nil row z=>
  cases row with
  |nil=>simp at ho
  |cons p row=>
   simp only[List.length_nil,List.getElem?_cons_zero,bU] at ho;subst ho;exact .rd hk h1 h2 .nil
 |rd q1 q2 q3 _ ih=>exact .rd q1 q2 q3 (ih (by simpa using ho))
 |wr q1 q2 q3 q4 _ ih=>exact .wr q1 q2 q3 q4 (ih (by simpa using ho))
theorem qW.XI {row:List Tx} {l:List Ev} {e:Ev} {o:Tx} {z y:Int} (h:qW row l z y) (ho:row[l.length]? =some o) (hk:o.kind≠2) (h1:e.a=o.at_) (h2:e.k=3) (h3:e.b=fq (y+o.v)):qW row (l++[e]) z y:=by
 induction h with
 |@nil row z=>
  cases row with
  |nil=>simp at ho
  |cons p row=>
   simp only[List.length_nil,List.getElem?_cons_zero,bU] at ho;subst ho;exact .wr hk h1 h2 h3 .nil
 |rd q1 q2 q3 _ ih=>exact .rd q1 q2 q3 (ih (by simpa using ho) h3)
 |wr q1 q2 q3 q4 _ ih=>exact .wr q1 q2 q3 q4 (ih (by simpa using ho) h3)
def EE (n:Nat) (x:bV):Bool:=x.th==(n:Int) && x.kind==1
def uX (l:List bV) (n:Nat):Nat:=(l.filter (EE n)).length
def Vs (l:List Ev):Int:=l.foldl (fun z e=>if e.k=2 then fq (z+e.b) else z) 0
def iK (l:List bV) (n:Nat):List Int:=(l.filter (EE n)).map (fun x=>Vs x.done)
theorem qW.sum {row:List Tx} {l:List Ev} {z y:Int} (h:qW row l z y):l.foldl (fun z e=>if e.k=2 then fq (z+e.b) else z) z=y:=by
 induction h with
 |nil=>rfl
 |rd _ _ h _ ih=>rw[List.foldl_cons,if_pos h];exact ih
 |wr _ _ h _ _ ih=>rw[List.foldl_cons,if_neg (by omega)];exact ih
def Cn (N:Nat) (rs:Nat->List (List Tx)) (l:List bV):Prop:=∀(i:Nat) x,l[i]? =some x->∃n row z,n<N/\x.th=(n:Int)/\(rs n)[uX (l.take i) n]? =some row/\qW row x.done 0 z/\(x.kind=1->x.done.length=row.length)
structure vH (rs:List (List Tx)) (l:List bV) (n:Nat) (a:aO) (opn:Option Nat):Prop where
 idle:(a.pt= .look\/a.pt= .halt)->uX l n=a.row/\a.out=iK l n
 look:a.pt= .look->a.row<rs.length
 le:a.row<=rs.length
 halt:a.pt= .halt->a.row=rs.length
 open_:a.pt.oQ=true->uX l n=a.row/\a.out=iK l n/\∃row j b,opn=some j/\l[j]? =some b/\rs[a.row]? =some row/\qW row b.done 0 a.sum/\b.done.length=a.op/\(match a.pt with
  |.rd|.Bz|.dat|.ym=>∃o,row[a.op]? =some o/\o.kind=2/\a.x=o.at_
  |.wr=>∃o,row[a.op]? =some o/\o.kind≠2/\a.x=o.at_/\a.v=fq (a.sum+o.v)
  |.full|.u6|.DK=>True
  |_=>a.op=row.length)
 done:(a.pt= .wb\/a.pt= .rel\/a.pt= .out)->uX l n=a.row+1/\iK l n=a.out++[a.sum]/\a.row<rs.length
 over:a.pt= .over->(a.fin=1/\uX l n=rs.length\/a.fin=6)/\a.out=iK l n
structure RInv (N:Nat) (rs:Nat->List (List Tx)) (m:AS) (s:HS):Prop where
 eu:nT m.evs 0 HS.init= .inl s
 rows:Cn N rs s.bu
 th:∀n,n<N->vH (rs n) s.bu n (m.aM n) (s.opn n)
variable {N n k M:Nat} {words C C':Int} {m m':AS} {a a':aO} {b:bV} {rs:Nat->List (List Tx)} {l:List bV} {x v:Int} {s s':HS} {cw:List bV}
theorem RN (l:List bV) (x:bV) (n:Nat) (h:x.kind=0):uX (l++[x]) n=uX l n/\iK (l++[x]) n=iK l n:=by
 have e:EE n x=false:=by simp[EE,h]
 unfold uX iK;rw[List.filter_append,List.filter_cons_of_neg (by simp[e]),List.filter_nil,List.append_nil];exact⟨rfl,rfl⟩
theorem rQ {p:bV->Bool} {f:bV->bV}:∀{l:List bV} {j:Nat} {b:bV},l[j]? =some b->p b=false->p (f b)=false->(l.modify j f).filter p=l.filter p:=by
 intro l;induction l with
 |nil=>intro j b h;simp at h
 |cons a l ih=>
  intro j b h h1 h2;cases j with
  |zero=>
   simp only[List.getElem?_cons_zero,bU] at h;subst h;simp[h1,h2]
  |succ j=>
   simp only[List.getElem?_cons_succ] at h;rw[List.modify_succ_cons,List.filter_cons,List.filter_cons,ih h h1 h2]
theorem tO {f:bV->bV} {l:List bV} {j:Nat} {b:bV} (hb:l[j]? =some b) (h1:b.kind=0) (h2:(f b).kind≠1) (n:Nat):uX (l.modify j f) n=uX l n/\iK (l.modify j f) n=iK l n:=by
 have e:=rQ (p:=EE n) (f:=f) hb (by simp[EE,h1]) (by simp[EE,h2]);unfold uX iK;rw[e];exact⟨rfl,rfl⟩
theorem Ef {p:bV->Bool} {f:bV->bV}:∀{l:List bV} {j:Nat} {b:bV},l[j]? =some b->p b=false->p (f b)=true->(∀(i:Nat) c,j<i->l[i]? =some c->p c=false)->(l.modify j f).filter p=l.filter p++[f b]:=by
 intro l;induction l with
 |nil=>intro j b h;simp at h
 |cons a l ih=>
  intro j b h h1 h2 h3;cases j with
  |zero=>
   simp only[List.getElem?_cons_zero,bU] at h;subst h;have e:l.filter p=[]:=by
    rw[List.filter_eq_nil_iff];intro c hc;obtain⟨i,hi⟩:=List.getElem?_of_mem hc;have:=h3 (i+1) c (by omega) (by simpa using hi);simp[this]
   simp[h1,h2,e]
  |succ j=>
   simp only[List.getElem?_cons_succ] at h;have e:=ih h h1 h2 (fun i c hi hc=>h3 (i+1) c (by omega) (by simpa using hc));rw[List.modify_succ_cons,List.filter_cons,List.filter_cons,e];split<;>rfl
theorem A8 {f:bV->bV} {l:List bV} {j i:Nat}:(l.modify j f).take i=(l.take i).modify j f:=by
 refine List.ext_getElem? fun k=>?_
 rw[List.getElem?_take,gW,gW,List.getElem?_take];split
 ·rfl
 ·rfl
theorem LG {f:bV->bV} {l:List bV} {j:Nat} (h:l.length<=j):l.modify j f=l:=by
 refine List.ext_getElem? fun k=>?_
 rw[gW];cases hk:l[k]? with
 |none=>rfl
 |some a=>
  have:=(bE.1 hk).1;simp[show ¬k=j by omega]
theorem Cn.modify {f:bV->bV} (h:Cn N rs s.bu) (hok:BN s k) {j n:Nat} (hj:s.opn n=some j) (hb:s.bu[j]? =some b) (hb0:b.kind=0) (hbt:b.th=(n:Int)) (hft:(f b).th=b.th)
  (hnew:∀row z,(rs n)[uX (s.bu.take j) n]? =some row->qW row b.done 0 z->∃y,qW row (f b).done 0 y/\((f b).kind=1->(f b).done.length=row.length)):Cn N rs (s.bu.modify j f):=by
 intro i x hx;rw[gW] at hx;cases hc:s.bu[i]? with
 |none=>rw[hc] at hx;cases hx
 |some c=>
  rw[hc] at hx;simp only[Option.map_some,bU] at hx;have hil:=(bE.1 hc).1;obtain⟨u,row,z,hu,h1,h2,h3,h4⟩:=h i c hc;have hcm:i<=j->uX ((s.bu.modify j f).take i) u=uX (s.bu.take i) u:=fun hle=>by
   rw[A8,LG (by rw[List.length_take];omega)]
  by_cases e:i=j
  ·subst e;rw[if_pos rfl] at hx;rw[hb] at hc;cases hc;subst hx;obtain rfl:u=n:=by omega
   obtain⟨y,g1,g2⟩:=hnew row z h2 h3;exact⟨u,row,y,hu,by rw[hft];exact h1,by rw[hcm (aR _)];exact h2,g1,g2⟩
  ·rw[if_neg e] at hx;subst hx;refine⟨u,row,z,hu,h1,?_,h3,h4⟩;rcases Nat.lt_or_ge i j with q|q
   ·rw[hcm (by omega)];exact h2
   ·have hji:j<i:=by omega
    have hne:u≠n:=fun e2=>by
     subst e2;have:=(hok.order j i b c hji hb hc).2 (by rw[hbt,h1]);obtain⟨b',hb', -,hf⟩:=hok.opn u j hj;rw[hb] at hb';cases hb';omega
    rw[A8];have hbi:(s.bu.take i)[j]? =some b:=by rw[List.getElem?_take,if_pos hji];exact hb
    have e3:=rQ (p:=EE u) (f:=f) hbi (by simp[EE,hb0]) (by simp[EE,hft,hbt];omega);unfold uX at h2⊢;rw[e3];exact h2
theorem vH.other {XV:Option Nat} {l l':List bV} {rs:List (List Tx)} (h:vH rs l n a XV) (h1:uX l' n=uX l n) (h2:iK l' n=iK l n) (h3:∀j,XV=some j->l'[j]? =l[j]?):vH rs l' n a XV:=
 ⟨fun q=>by rw[h1,h2];exact h.idle q,h.look,h.le,h.halt,fun q=>by
  rw[h1,h2];obtain⟨q1,q2,row,j,b,q3,q4,q5⟩:=h.open_ q;exact⟨q1,q2,row,j,b,q3,by rw[h3 j q3];exact q4,q5⟩,fun q=>by rw[h1,h2];exact h.done q,fun q=>by rw[h1,h2];exact h.over q⟩
theorem Ar (hok:BN s k) {j n:Nat} (hj:s.opn n=some j) (hb:s.bu[j]? =some b):∀(i:Nat) c,j<i->s.bu[i]? =some c->c.th≠(n:Int):=fun i c hi hc e=>by
 obtain⟨b',hb',h1,h2⟩:=hok.opn n j hj;rw[hb] at hb';cases hb';have:=(hok.order j i b c hi hb hc).2 (by rw[h1,e]);omega
theorem yu (hok:BN s k) {j n:Nat} (hj:s.opn n=some j) (hb:s.bu[j]? =some b) (h0:b.kind=0):uX (s.bu.take j) n=uX s.bu n:=by
 have e:s.bu=s.bu.take j++s.bu.drop j:=(List.take_append_drop j s.bu).symm;have h2:(s.bu.drop j).filter (EE n)=[]:=by
  rw[List.filter_eq_nil_iff];intro c hc;obtain⟨i,hi⟩:=List.getElem?_of_mem hc;rw[List.getElem?_drop] at hi;rcases Nat.eq_zero_or_pos i with rfl|hp
  ·rw[Nat.add_zero,hb] at hi;cases hi;simp[EE,h0]
  ·have:=Ar hok hj hb (j+i) c (by omega) hi;simp[EE,this]
 unfold uX
 conv=>rhs;rw[e]
 rw[List.filter_append,h2,List.append_nil]
theorem BU {f:bV->bV} (hok:BN s k) {j n:Nat} (hj:s.opn n=some j) (hb:s.bu[j]? =some b) (h0:b.kind=0) (hbt:b.th=(n:Int)) (hft:(f b).th=b.th) (hfk:(f b).kind=1):iK (s.bu.modify j f) n=iK s.bu n++[Vs (f b).done]/\uX (s.bu.modify j f) n=uX s.bu n+1/\∀u,u≠n->uX (s.bu.modify j f) u=uX s.bu u/\iK (s.bu.modify j f) u=iK s.bu u:=by
 have e:=Ef (p:=EE n) (f:=f) hb (by simp[EE,h0]) (by simp[EE,hft,hbt,hfk]) (fun i c hi hc=>by
  have:=Ar hok hj hb i c hi hc;simp[EE,this])
 refine⟨by unfold iK;rw[e,List.map_append];rfl,by unfold uX;rw[e,List.length_append];rfl,fun u hu=>?_⟩;have e2:=rQ (p:=EE u) (f:=f) hb (by simp[EE,h0]) (by simp[EE,hft,hbt];omega);unfold uX iK;rw[e2];exact⟨rfl,rfl⟩
def uR (row:List Tx) (a:aO):Prop:=match a.pt with
 |.rd|.Bz|.dat|.ym=>∃o,row[a.op]? =some o/\o.kind=2/\a.x=o.at_
 |.wr=>∃o,row[a.op]? =some o/\o.kind≠2/\a.x=o.at_/\a.v=fq (a.sum+o.v)
 |.full|.u6|.DK=>True
 |_=>a.op=row.length
theorem xW {row:List Tx} (h:a.op<=row.length):uR row (a.bL row):=by
 unfold aO.bL;cases ho:row[a.op]? with
 |none=>
  have:row.length<=a.op:=by
   rcases Nat.lt_or_ge a.op row.length with q|q
   ·rw[dZ q] at ho;cases ho
   ·exact q
  have e:a.op=row.length:=by omega
  simp only;split
  ·exact e
  ·unfold aO.cu;split<;>exact e
 |some o=>
  simp only;split
  ·rename_i hk;split
   ·exact⟨o,ho,hk,rfl⟩
   ·exact⟨o,ho,hk,rfl⟩
  ·rename_i hk;split
   ·exact⟨o,ho,hk,rfl,rfl⟩
   ·trivial
theorem vH.at {rs:List (List Tx)} {opn:Option Nat} {row:List Tx} {j:Nat} (zP:a.pt.oQ=true) (h1:uX l n=a.row) (h2:a.out=iK l n) (hj:opn=some j) (hb:l[j]? =some b) (hr:rs[a.row]? =some row) (hf:qW row b.done 0 a.sum) (hl:b.done.length=a.op) (hp:uR row a):vH rs l n a opn:=by
 have hlt:=(bE.1 hr).1;have ne:∀p:Pt,p.oQ=false->a.pt≠p:=fun p hp e=>by rw[e,hp] at zP;cases zP
 exact⟨fun q=>q.elim (fun e=>absurd e (ne _ rfl)) (fun e=>absurd e (ne _ rfl)),fun e=>absurd e (ne _ rfl),Nat.le_of_lt hlt,fun e=>absurd e (ne _ rfl),fun _=>⟨h1,h2,row,j,b,hj,hb,hr,hf,hl,hp⟩,fun q=>q.elim (fun e=>absurd e (ne _ rfl)) (fun q=>q.elim (fun e=>absurd e (ne _ rfl)) (fun e=>absurd e (ne _ rfl))),fun e=>absurd e (ne _ rfl)⟩
theorem vH.fine {rs:List (List Tx)} {opn:Option Nat} (hp:a.pt= .wb\/a.pt= .rel\/a.pt= .out) (h1:uX l n=a.row+1) (h2:iK l n=a.out++[a.sum]) (h3:a.row<rs.length):vH rs l n a opn:=by
 refine⟨fun q=>?_,fun q=>?_,Nat.le_of_lt h3,fun q=>?_,fun q=>?_,fun _=>⟨h1,h2,h3⟩,fun q=>?_⟩<;>rcases hp with e|e|e<;>rw[e] at q<;>first|(rcases q with q|q<;>cases q)|cases q
theorem vH.rest {rs:List (List Tx)} {opn:Option Nat} (hp:a.pt= .look/\a.row<rs.length\/a.pt= .halt/\a.row=rs.length) (h1:uX l n=a.row) (h2:a.out=iK l n):vH rs l n a opn:=by
 refine⟨fun _=>⟨h1,h2⟩,fun q=>?_,by omega,fun q=>?_,fun q=>?_,fun q=>?_,fun q=>?_⟩<;>rcases hp with⟨e,h3⟩|⟨e,h3⟩<;>rw[e] at q<;>first|exact h3|(rcases q with q|q|q<;>cases q)|cases q
theorem vH.gone {rs:List (List Tx)} {opn:Option Nat} (hp:a.pt= .over) (h0:a.row<=rs.length) (h1:a.fin=1/\uX l n=rs.length\/a.fin=6) (h2:a.out=iK l n):vH rs l n a opn:=by
 refine⟨fun q=>?_,fun q=>?_,h0,fun q=>?_,fun q=>?_,fun q=>?_,fun _=>⟨h1,h2⟩⟩<;>rw[hp] at q<;>first|(rcases q with q|q|q<;>cases q)|(rcases q with q|q<;>cases q)|cases q
theorem RInv.quiet (R:RInv N rs m s) (hev:m'.evs=m.evs) (hoth:∀k,k≠n->m'.aM k=m.aM k) (h:n<N->vH (rs n) s.bu n (m'.aM n) (s.opn n)):RInv N rs m' s:=
 ⟨by rw[hev];exact R.eu,R.rows,fun k hk=>by
  by_cases e:k=n
  ·subst e;exact h hk
  ·rw[hoth k e];exact R.th k hk⟩
theorem RInv.event {e:Ev} (R:RInv N rs m s) (hev:m'.evs=m.evs++[e]) (hs:je s e m.evs.length=some s') (hoth:∀k,k≠n->m'.aM k=m.aM k) (hrows:Cn N rs s'.bu) (hop:∀k,k≠n->s'.opn k=s.opn k) (hat:∀k j,k≠n->s.opn k=some j->s'.bu[j]? =s.bu[j]?)
  (hcm:∀k,k≠n->uX s'.bu k=uX s.bu k/\iK s'.bu k=iK s.bu k) (h:n<N->vH (rs n) s'.bu n (m'.aM n) (s'.opn n)):RInv N rs m' s':=by
 refine⟨?_,hrows,fun k hk=>?_⟩
 ·rw[hev,Am,R.eu];simp only[Nat.zero_add,nT,hs]
 ·by_cases e:k=n
  ·subst e;exact h hk
  ·rw[hoth k e,hop k e];exact(R.th k hk).other (hcm k e).1 (hcm k e).2 (fun j hj=>hat k j e hj)
theorem RInv.flush (R:RInv N rs m s) (n:Nat):RInv N rs (m.flush n) s:=by
 have key:∀(m':AS) (r:List fF),m'.evs=m.evs->(∀k,m'.aM k=if k=n then {m.aM n with buf:=r} else m.aM k)->RInv N rs m' s:=fun m' r h1 h2=>by
  refine R.quiet (n:=n) h1 (fun k hk=>by rw[h2,if_neg hk]) (fun hn=>?_);have h:=R.th n hn;rw[h2,if_pos rfl];exact⟨h.idle,h.look,h.le,h.halt,h.open_,h.done,h.over⟩
 unfold AS.flush;split
 ·exact R
 ·exact key _ _ rfl (fun k=>rfl)
 ·exact key _ _ rfl (fun k=>rfl)
end
end Go.Proofs.YtopdcjimpdalpaaGreat

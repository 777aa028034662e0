import Derived.Test.YtopdcjimpdalpaaGreatR38
import Derived.Deep.MidRow
import Derived.Deep.CutRange
import Derived.Deep.RegionHeld3
import Derived.Deep.RegionLawGrows
import Derived.Deep.RegionLaw
namespace Go.Proofs.YtopdcjimpdalpaaGreat
open Go.RowKit
set_option linter.all false
set_option maxHeartbeats 4000000
set_option maxRecDepth 100000
section
variable {w w':World} {base:Nat}
theorem RB (w:World) (p:dB):
  Calls Tryz.prog 33 #[.agg #[.int .u8 p.kind,.int .i64 p.th,.int .i64 p.n]] w fun e w'=>e= .returned (.bool (!nO p))/\Below w.heap.size w w':=by
 have hv:(!nO p)=(decide (p.kind<=2) && decide (p.n>=0)):=by
  unfold nO;rw[Bool.eq_iff_iff];simp
 by_cases h1:p.kind<=2
 ·by_cases h2:p.n>=0
  ·have hr:(!nO p)=true:=by rw[hv];simp[h1];omega
   have HR:=ag hr;clear hr hv;go_in;go_wp2_with fail;go_ret;rw[HR.out];exact⟨rfl,(au _ _).alloc (aB _) _⟩
  ·have hr:(!nO p)=false:=by rw[hv];simp;omega
   have HR:=ag hr;clear hr hv;go_in;go_wp2_with fail;go_ret;rw[HR.out];exact⟨rfl,(au _ _).alloc (aB _) _⟩
 ·have hr:(!nO p)=false:=by rw[hv];simp;omega
  have HR:=ag hr;clear hr hv;go_in;go_wp2_with fail;go_ret;rw[HR.out];exact⟨rfl,(au _ _).alloc (aB _) _⟩
theorem R4 (w:World) (p:dB) (hn:0<=p.n):
  Calls Tryz.prog 34 #[.agg #[.int .u8 p.kind,.int .i64 p.th,.int .i64 p.n],.int .i64 1048576] w fun e w'=>e= .returned (.int .i64 (min (pF p) 1048577))/\Below w.heap.size w w':=by
 go_in;by_cases hk:p.kind=2
 ·go_wp2_with fail;all_goals
   go_ret;refine⟨?_,(au _ _).alloc (aB _) _⟩;simp[pF,wrap64,hk] at*;omega
 ·go_wp2_with fail;all_goals
   go_ret;refine⟨?_,(au _ _).alloc (aB _) _⟩;simp[pF,hk] at*;omega
theorem Br {ao:Option Addr} {cap:Nat} {l:List dB} (h:dH fU w 3 (.slice ao l.length cap) l) (hm:l.length<=9000000000000):
  Calls Tryz.prog 15 #[.slice ao l.length cap] w fun e w'=>e= .returned (.tuple #[.int .i64 (dK l).1,.int .i64 (dK l).2])/\Below w.heap.size w w':=by
 have H:=ag h;clear h;go_in;by_cases hb:65536<l.length
 ·go_wp2_with fail
  go_ret2
  unfold dK;rw[if_pos hb];exact⟨rfl,au _ _⟩
 ·have h1:¬((l.length:Int)>65536):=by omega
  go_wp2_with fail;go_loopw [4] (fun i w'=>∃k:Nat,k<=l.length/\i= .int .i64 (k:Int)/\Hid (Below w.heap.size w w')/\Hid ((l.take k).any nO=false)) (fun i _=>((l.length:Int) - intOf i).toNat)
  case atStart=>exact⟨0,by omega,rfl,ag (au _ _),ag rfl⟩
  case round=>
   obtain⟨k,hk,rfl,HB,hall⟩:=hrel;by_cases hlt:k<l.length
   ·obtain⟨x,hx⟩:=bE hlt;obtain⟨b1,o1,rfl,hs1,hc1⟩:=dH.at qN (Rd.below H.out HB.out) hx;have x0:=hc1 0 _ rfl;have x1:=hc1 1 _ rfl;have x2:=hc1 2 _ rfl;simp only[Nat.add_zero] at x0;clear hc1 hs1;have HX:=ag hx;clear hx;go_wp2_with fail;refine(RB _ x).mono ?_;rintro e w2 ⟨rfl,hb2⟩;have HB2:=ag (fe HB.out hb2);clear hb2;by_cases hbad:nO x=true
    ·have hv:dK l=(0,1):=by unfold dK;rw[if_neg hb,if_pos (List.any_eq_true.2 ⟨x,bC HX.out,hbad⟩)]
     have HV:=ag hv;rw[hbad];clear hv hall hbad;go_wp2_with fail
     go_ret2
     rw[HV.out];exact⟨rfl,HB2.out⟩
    ·have TF:nO x=false:=by simpa using hbad
     have HBAD:=ag TF;rw[TF];clear hbad TF;go_wp2_with fail;refine⟨⟨k+1,by omega,by go_num,HB2,ag ?_⟩,by simp[intOf];omega⟩;rw[bU HX.out,List.any_append,hall.out];simpa using HBAD.out
   ·obtain rfl:k=l.length:=by omega
    have Ea:=hall.out;rw[List.take_length] at Ea;have HA:=ag Ea;clear hall Ea;obtain⟨w1,rfl⟩:∃w1,w1=wr:=⟨_,rfl⟩;go_wp2_with fail;go_loopw [5,6] (fun nv i w'=>∃k:Nat,k<=l.length/\i= .int .i64 (k:Int)/\nv= .int .i64 (total (l.take k))/\total (l.take k)<=1048576/\Hid (Below w.heap.size w w')) (fun nv i _=>((l.length:Int) - intOf i).toNat)
    case atStart=>exact⟨0,by omega,rfl,rfl,by simp[total],HB⟩
    case round=>
     obtain⟨k,hk,rfl,rfl,htot,HB⟩:=hrel;by_cases hlt:k<l.length
     ·obtain⟨x,hx⟩:=bE hlt;obtain⟨b1,o1,rfl,hs1,hc1⟩:=dH.at qN (Rd.below H.out HB.out) hx;have x0:=hc1 0 _ rfl;have x1:=hc1 1 _ rfl;have x2:=hc1 2 _ rfl;simp only[Nat.add_zero] at x0;have hbx:nO x=false:=by
       have:=List.any_eq_false.1 HA.out x (bC hx);simpa using this
      have Zc:0<=x.n:=by unfold nO at hbx;simp at hbx;omega
      have hp0:=zD hbx;have hp1:=OM x;have ht0:0<=total (l.take k):=oI (by
       refine List.any_eq_false.2 fun y hy=>?_
       exact List.any_eq_false.1 HA.out y (List.mem_of_mem_take hy))
      have hsn:total (l.take (k+1))=total (l.take k)+pF x:=by rw[bU hx,nM]
      have hle:total (l.take (k+1))<=total l:=by
       have h1:=xB (l.take (k+1)) (l.drop (k+1));rw[List.take_append_drop] at h1;have:0<=total (l.drop (k+1)):=oI (by
        refine List.any_eq_false.2 fun y hy=>?_
        exact List.any_eq_false.1 HA.out y (List.mem_of_mem_drop hy))
       omega
      have WS:=ag hle;have HX:=ag hx;clear hc1 hs1 hx hbx hle;go_wp2_with fail;refine(R4 _ x Zc).mono ?_;rintro e w2 ⟨rfl,hb2⟩;have HB2:=ag (fe HB.out hb2);clear hb2;have zw:=ag hsn;clear hsn;generalize hT:total (l.take k)=T at*;generalize hP:pF x=pl at*;obtain⟨m,hm⟩:∃m,m=min pl 1048577:=⟨_,rfl⟩;rw[<-hm];have hm0:0<=m:=by omega
      have hm1:m<=1048577:=by omega
      have HM:=ag hm;clear hT hP hm;by_cases hgt:T+m>1048576
      ·go_wp2_with fail
       go_ret2
       have hv:dK l=(0,3):=by unfold dK;rw[if_neg hb,if_neg (by rw[HA.out];decide),if_pos (by have:=WS.out;have:=zw.out;have:=HM.out;omega)]
       rw[hv];exact⟨rfl,HB2.out⟩
      ·go_wp2_with fail;exact⟨⟨k+1,by omega,by go_num,by rw[zw.out,show m=pl from by have:=HM.out;omega],by have:=zw.out;have:=HM.out;omega,HB2⟩,by simp[intOf];omega⟩
     ·obtain rfl:k=l.length:=by omega
      go_wp2_with fail
      go_ret2
      rw[List.take_length] at htot⊢;refine⟨?_,HB.out⟩;have hv:dK l=(total l,0):=by unfold dK;rw[if_neg hb,if_neg (by rw[HA.out];decide),if_neg (by omega)]
      rw[hv];rfl
end
section
variable {w w':World} {base b N:Nat} {mm:MM}
def rD (th:Int) (s:MM×Int):MM×Int:=((s.1.step th).2,if(s.1.step th).1=true then s.2+1 else s.2)
def o6 (th:Int) (s:MM×Int):MM×Int:=((s.1.flush th).2,s.2)
def jI (p:dB) (s:MM×Int):MM×Int:=
 if p.kind=1 then o6 p.th s else if p.kind=0 then rD p.th s else o6 p.th (rD p.th s)
def mW (p:dB):Nat->MM×Int->MM×Int
 |0,s=>s
 |k+1,s=>jI p (mW p k s)
def rO (l:List dB) (s:MM×Int):MM×Int:=l.foldl (fun s p=>mW p p.n.toNat s) s
theorem Nv (l:List dB) (p:dB) (s:MM×Int):rO (l++[p]) s=mW p p.n.toNat (rO l s):=by simp[rO]
theorem Wh (th:Int) (s:MM×Int):s.2<=(rD th s).2/\(rD th s).2<=s.2+1:=by
 unfold rD;simp only;split<;>omega
theorem ni (p:dB) (s:MM×Int):s.2<=(jI p s).2/\(jI p s).2<=s.2+1:=by
 have:=Wh p.th s;unfold jI o6;split
 ·simp only;omega
 ·split
  ·exact this
  ·exact this
theorem nk.mono {M:Nat} (h:nk w base b mm N) (hN:N<=M):nk w base b mm M:=by
 obtain⟨own,xs,mv,tv,ev,h1,h2⟩:=h;exact⟨own,xs,mv,tv,ev,h1,h2.mono hN⟩
theorem qJ.acJ {P:List Nat} (h:qJ w base b mm N P):qJ w base b mm (N+1) P:=by
 obtain⟨own,xs,mv,tv,ev,h1,h2,h3⟩:=h;exact⟨own,xs,mv,tv,ev,h1,h2.mono (by omega),h3⟩
theorem Ia {w:World} {a q o:Nat} {v:Value} (h:w.cell? ⟨a,o,none⟩=some v) (hne:a≠q) (u0 u1 u2:Value):(((w.setCell ⟨q,0,none⟩ u0).setCell ⟨q,1,none⟩ u1).setCell ⟨q,2,none⟩ u2).cell? ⟨a,o,none⟩=some v:=by
 rw[World.cell?_of_block (w:=w) (((dm _ _ _ _ hne).trans (dm _ _ _ _ hne)).trans (dm _ _ _ _ hne))];exact h
structure yf (w:World) (base:Nat) (v:Value) (ls:List SX) (ao:Option Addr) (cap:Nat) (evs:List Ev):Prop where
 row:w.ownsRow base 81 2 v ls.length (ls.flatMap encS)
 each:∀s∈ls,w.ownsRow base 2 1 s.v s.out.length (s.out.flatMap encI)
 evs:w.ownsRow base 127 4 (.slice ao evs.length cap) evs.length (evs.flatMap mV)
theorem yf.seen {base:Nat} {v:Value} {ls:List SX} {ao:Option Addr} {cap:Nat} {evs:List Ev} (h:yf w base v ls ao cap evs):Bb w v ls:=⟨Rd.gu h.row,fun s hs=>Rd.gu (h.each s hs)⟩
theorem yf.keep {w':World} {base:Nat} {v:Value} {ls:List SX} {ao:Option Addr} {cap:Nat} {evs:List Ev} (h:yf w base v ls ao cap evs) (hk:∀g,base<=g->g<w.heap.size->w'.heap[g]? =w.heap[g]?):yf w' base v ls ao cap evs:=
 ⟨aP h.row fun g hg hl=>hk g (bO h.row hg).1 hl,fun s hs=>aP (h.each s hs) fun g hg hl=>hk g (bO (h.each s hs) hg).1 hl,aP h.evs fun g hg hl=>hk g (bO h.evs hg).1 hl⟩
theorem yf.none {base:Nat}:yf w base (.slice none 0 0) [] none 0 []:=⟨World.ownsRow_nil _ _ _ _,fun s hs=>absurd hs (by simp),World.ownsRow_nil _ _ _ _⟩
def adT (S:MM×Int) (w:World) (e:Ending) (w':World):Prop:=
 ∃v ls ao cap,e= .returned (.tuple #[.agg #[v,.slice ao S.1.evs.length cap,.int .i64 S.2],.int .i64 0])/\yf w' w.heap.size v ls ao cap S.1.evs/\ls.map (fun s=>(s.out,s.fin))=S.1.aT.map (fun t=>(t.out,t.fin))/\Below w.heap.size w w'
theorem Wl {ca oL:Option Addr} {fo h_:Nat} {l:List (Value×List bR)} {cs:List (Int×Int)} (h:mX w (.slice ca l.length fo) l) (hc:dH dQ w 2 (.slice oL cs.length h_) cs) (mem:Int) (hl:l.length<=6000000000000) (hcl:cs.length<=9000000000000) (hol:∀p∈l,p.2.length<=9000000000000) (hk:cB mem l cs=0)
  {so:Option Addr} {sc:Nat} {sl:List dB} (hs:dH fU w 3 (.slice so sl.length sc) sl) (hsn:∀p∈sl,0<=p.kind/\(-9223372036854775808<=p.n/\p.n<=9223372036854775807)) (hlen:(dK sl).2=0) (hmk:qz 0 (gF mem (l.map (·.2)) cs)):
  Calls Tryz.prog 42 #[.agg #[.slice ca l.length fo,.int .i64 mem,.slice oL cs.length h_],.slice so sl.length sc] w (adT (rO sl (gF mem (l.map (·.2)) cs,0)) w):=by
 have H:=ag h;have HC:=ag hc;have HL:=ag hl;have Cb:=ag hcl;have EW:=ag hol;have HK:=ag hk;have HS:=ag hs;have EU:=ag hsn;have HLEN:=ag (vk hlen);have WS:=ag hlen;have HMK:=ag hmk;clear hmk;clear h hc hl hcl hol hk hs hsn hlen;go_in;have hb0:Below w.heap.size w ((w.alloc (.cells #[.slice ca l.length fo,.int .i64 mem,.slice oL cs.length h_] 30)).alloc (.cells #[.slice none 0 0,.slice none 0 0,.int .i64 0] 66)):=((au _ _).alloc (aB _) _).alloc (by simp) _;have HB0:=ag hb0;clear hb0;go_wp2_with fail;refine(KU (H.out.below HB0.out) (Rd.below HC.out HB0.out) mem HL.out Cb.out EW.out HK.out).mono ?_;rintro e w1 ⟨b,own,xs,mv,tv,ev,rfl,hr,hb⟩;have HR:=ag (nk.of hr HMK.out);have HB1:=ag (fe HB0.out hb);have HT1:=ag (blk hb (iT w (.cells #[.slice ca l.length fo,.int .i64 mem,.slice oL cs.length h_] 30) (.cells #[.slice none 0 0,.slice none 0 0,.int .i64 0] 66)));clear hr hb;go_wp2_with fail;refine(Br (Rd.below HS.out HB1.out) (by have:=HLEN.out.1;omega)).mono ?_;rintro e w2 ⟨rfl,hb⟩;rw[WS.out];have HR2:=ag (HR.out.below hb);have HB2:=ag (fe HB1.out hb);have HT2:=ag (blk hb HT1.out);clear hb;obtain⟨B,hB⟩:∃B,B=((w.alloc (.cells #[.slice ca l.length fo,.int .i64 mem,.slice oL cs.length h_] 30)).alloc (.cells #[.slice none 0 0,.slice none 0 0,.int .i64 0] 66)).heap.size:=⟨_,rfl⟩;have HR3:Hid (nk w2 B b (gF mem (l.map (·.2)) cs) 0):=ag (by rw[hB];exact HR2.out);have Pn:=ag (show w.heap.size+2=B from by rw[hB];simp);clear hB;go_wp2_with fail;generalize hM:gF mem (l.map (·.2)) cs=M0 at*;go_loopw [8,9] (fun st i w'=>∃k:Nat,k<=sl.length/\i= .int .i64 (k:Int)/\st= .int .i64 (rO (sl.take k) (M0,0)).2/\Hid (∃T:Nat,(T:Int)<=total (sl.take k)/\qJ w' B b (rO (sl.take k) (M0,0)).1 T []/\0<=(rO (sl.take k) (M0,0)).2/\(rO (sl.take k) (M0,0)).2<=T)/\Hid (Below B w2 w')) (fun st i _=>((sl.length:Int) - intOf i).toNat)
 case atStart=>exact⟨0,by omega,rfl,rfl,ag ⟨0,by simp[total],qJ.zO HR3.out,by simp[rO],by simp[rO]⟩,ag (au _ _)⟩
 case round=>
  obtain⟨k,hk,rfl,rfl,HT,HW⟩:=hrel;have hsl:=HLEN.out.1;by_cases hlt:k<sl.length
  ·obtain⟨p,hp⟩:=bE hlt;have hbw:Below w.heap.size w wr:=HB2.out.trans (HW.out.mono (by have:=Pn.out;omega));obtain⟨b1,o1,e1,hs1,hc1⟩:=dH.at qN (Rd.below HS.out hbw) hp;subst e1;have x0:=hc1 0 _ rfl;have x1:=hc1 1 _ rfl;have x2:=hc1 2 _ rfl;simp only[Nat.add_zero] at x0;have hbx:nO p=false:=by
    have:=List.any_eq_false.1 HLEN.out.2.1 p (bC hp);simpa using this
   have hp2:p.kind<=2/\0<=p.n:=by unfold nO at hbx;simp at hbx;omega
   have hp0:=(EU.out p (bC hp)).1;have HP:=ag hp;have abh:=ag hbw;generalize hS:rO (sl.take k) (M0,0)=S at*;clear hc1 hs1 hbx hp hbw;obtain⟨w3,rfl⟩:∃x,x=wr:=⟨_,rfl⟩;obtain⟨T,hT,hQ,hs0,EK⟩:=HT.out;have hpn:p.n<=1048576/\total (sl.take k)+p.n<=1048576:=by
    have h1:=xB (sl.take k) (sl.drop k);rw[List.take_append_drop] at h1;have h2:sl.drop k=p::sl.drop (k+1):=by
     obtain⟨hl,he⟩:=bu.1 HP.out;rw[<-he];exact List.drop_eq_getElem_cons hl
    have h3:total (sl.drop k)=pF p+total (sl.drop (k+1)):=by rw[h2];simp[total]
    have h4:0<=total (sl.drop (k+1)):=oI (List.any_eq_false.2 fun y hy=>List.any_eq_false.1 HLEN.out.2.1 y (List.mem_of_mem_drop hy));have h5:0<=total (sl.take k):=oI (List.any_eq_false.2 fun y hy=>List.any_eq_false.1 HLEN.out.2.1 y (List.mem_of_mem_take hy));have h6:=HLEN.out.2.2.1;have h7:min p.n 1048577<=pF p:=by unfold pF;split<;>omega
    omega
   have hstep:total (sl.take k)+p.n<=total (sl.take (k+1)):=by
    rw[bU HP.out,nM];have h7:min p.n 1048577<=pF p:=by unfold pF;split<;>omega
    omega
   have adK:=ag hstep;have ajX:=hpn.1;have HPN:=ag hpn.2;have HI0:Hid (∃T:Nat,(T:Int)<=total (sl.take k)+(0:Nat)/\qJ (w3.alloc (.cells (fU p).toArray 42)) B b (mW p 0 S).1 T [w3.heap.size]/\0<=(mW p 0 S).2/\(mW p 0 S).2<=T):=ag ⟨T,by simpa using hT,hQ.add _,hs0,EK⟩;have HI1:Hid (Below B w2 (w3.alloc (.cells (fU p).toArray 42))/\(w3.alloc (.cells (fU p).toArray 42)).heap[w3.heap.size]? =some (.cells (fU p).toArray 42 (0,0))):=ag ⟨HW.out.alloc hQ.live.fQ _,aj _ _⟩;clear hT hQ hs0 EK hstep hpn;go_wp2_with fail;go_loopw [8,11] (fun st j w'=>∃m:Nat,(m:Int)<=p.n/\j= .int .i64 (m:Int)/\st= .int .i64 (mW p m S).2/\Hid (∃T:Nat,(T:Int)<=total (sl.take k)+(m:Nat)/\qJ w' B b (mW p m S).1 T [w3.heap.size]/\0<=(mW p m S).2/\(mW p m S).2<=T)/\Hid (Below B w2 w'/\w'.heap[w3.heap.size]? =some (.cells (fU p).toArray 42 (0,0)))) (fun st j _=>(p.n - intOf j).toNat)
   case atStart=>exact⟨0,by have:=hp2.2;omega,rfl,rfl,HI0,HI1⟩
   case round=>
    obtain⟨m,hm,rfl,rfl,HTI,WQ⟩:=hrel;obtain⟨T,hT,hQ,hs0,EK⟩:=HTI.out;have q0:wr.cell? ⟨w3.heap.size,0,none⟩=some (.int .u8 p.kind):=af WQ.out.2 rfl;have q1:wr.cell? ⟨w3.heap.size,1,none⟩=some (.int .i64 p.th):=af WQ.out.2 rfl;have q2:wr.cell? ⟨w3.heap.size,2,none⟩=some (.int .i64 p.n):=af WQ.out.2 rfl;have hnx:mW p (m+1) S=jI p (mW p m S):=rfl;generalize hRe:mW p m S=R at*;have HRE:=ag hRe;clear hRe;have ET:=ag hnx;have HQ:=ag hQ;have Y6:=ag hT;have hR9:R.2<=2000000:=by have:=HPN.out;omega
    clear hnx hQ hT HTI;by_cases hlm:(m:Int)<p.n
    ·by_cases hkk:p.kind=1
     ·rw[hkk] at q0;have HKK:=ag hkk;clear hkk;go_wp2_with fail;refine(Dp HQ.out p.th).mono ?_;rintro r w5 ⟨rfl,hq,hbq,hpq⟩;have YH:=ag hq;have pO:=ag (WQ.out.1.trans hbq);have Jc:=ag ((hpq w3.heap.size (by simp)).trans WQ.out.2);have q0:w5.cell? ⟨w3.heap.size,0,none⟩=some (.int .u8 1):=by rw[<-HKK.out];exact af Jc.out rfl
      have q1:w5.cell? ⟨w3.heap.size,1,none⟩=some (.int .i64 p.th):=af Jc.out rfl;have q2:w5.cell? ⟨w3.heap.size,2,none⟩=some (.int .i64 p.n):=af Jc.out rfl;clear hq hbq hpq;go_wp2_with fail;have af1:=ag (qJ.acJ YH.out);exact⟨⟨m+1,by omega,by go_num,by rw[ET.out];simp[jI,HKK.out,o6,rD],ag ⟨T+1,by have:=Y6.out;omega,by rw[ET.out];simpa [jI,HKK.out,o6,rD] using(af1).out,by rw[ET.out];have:=ni p R;omega,by rw[ET.out];have:=ni p R;omega⟩,ag ⟨pO.out,Jc.out⟩⟩,by simp[intOf];omega⟩
     ·by_cases hk0:p.kind=0
      ·have hkk:=hk0;clear hk0;rw[hkk] at q0;have HKK:=ag hkk;clear hkk;go_wp2_with fail;refine(OH HQ.out (by have:=Y6.out;have:=HPN.out;omega) p.th).mono ?_;rintro r w5 ⟨rfl,hq,hbq,hpq⟩;have YH:=ag hq;have pO:=ag (WQ.out.1.trans hbq);have Jc:=ag ((hpq w3.heap.size (by simp)).trans WQ.out.2);have q0:w5.cell? ⟨w3.heap.size,0,none⟩=some (.int .u8 0):=by rw[<-HKK.out];exact af Jc.out rfl
       have q1:w5.cell? ⟨w3.heap.size,1,none⟩=some (.int .i64 p.th):=af Jc.out rfl;have q2:w5.cell? ⟨w3.heap.size,2,none⟩=some (.int .i64 p.n):=af Jc.out rfl;clear hq hbq hpq;cases hsb:(R.1.step p.th).1 with
       |true=>
        have Sz:=ag hsb;clear hsb;go_wp2_with fail;exact⟨⟨m+1,by omega,by go_num,by rw[ET.out];simp[jI,HKK.out,o6,rD,Sz.out],ag ⟨T+1,by have:=Y6.out;omega,by rw[ET.out];simpa [jI,HKK.out,o6,rD] using YH.out,by rw[ET.out];have:=ni p R;omega,by rw[ET.out];have:=ni p R;omega⟩,ag ⟨pO.out,Jc.out⟩⟩,by simp[intOf];omega⟩
       |false=>
        have Sz:=ag hsb;clear hsb;go_wp2_with fail;exact⟨⟨m+1,by omega,by go_num,by rw[ET.out];simp[jI,HKK.out,o6,rD,Sz.out],ag ⟨T+1,by have:=Y6.out;omega,by rw[ET.out];simpa [jI,HKK.out,o6,rD] using YH.out,by rw[ET.out];have:=ni p R;omega,by rw[ET.out];have:=ni p R;omega⟩,ag ⟨pO.out,Jc.out⟩⟩,by simp[intOf];omega⟩
      ·have hkk:p.kind=2:=by omega
       rw[hkk] at q0;have HKK:=ag hkk;clear hkk;go_wp2_with fail;refine(OH HQ.out (by have:=Y6.out;have:=HPN.out;omega) p.th).mono ?_;rintro r w5 ⟨rfl,hq,hbq,hpq⟩;have YH:=ag hq;have pO:=ag (WQ.out.1.trans hbq);have Jc:=ag ((hpq w3.heap.size (by simp)).trans WQ.out.2);have q0:w5.cell? ⟨w3.heap.size,0,none⟩=some (.int .u8 2):=by rw[<-HKK.out];exact af Jc.out rfl
       have q1:w5.cell? ⟨w3.heap.size,1,none⟩=some (.int .i64 p.th):=af Jc.out rfl;have q2:w5.cell? ⟨w3.heap.size,2,none⟩=some (.int .i64 p.n):=af Jc.out rfl;clear hq hbq hpq;cases hsb:(R.1.step p.th).1 with
       |true=>
        have Sz:=ag hsb;clear hsb;go_wp2_with fail;refine(Dp YH.out p.th).mono ?_;rintro r w6 ⟨rfl,hq,hbq,hpq⟩;have HQ6:=ag hq;have x8:=ag (pO.out.trans hbq);have Y1:=ag ((hpq w3.heap.size (by simp)).trans Jc.out);have q0:w6.cell? ⟨w3.heap.size,0,none⟩=some (.int .u8 2):=by rw[<-HKK.out];exact af Y1.out rfl
        have q1:w6.cell? ⟨w3.heap.size,1,none⟩=some (.int .i64 p.th):=af Y1.out rfl;have q2:w6.cell? ⟨w3.heap.size,2,none⟩=some (.int .i64 p.n):=af Y1.out rfl;clear hq hbq hpq;go_wp2_with fail;exact⟨⟨m+1,by omega,by go_num,by rw[ET.out];simp[jI,HKK.out,o6,rD,Sz.out],ag ⟨T+1,by have:=Y6.out;omega,by rw[ET.out];simpa [jI,HKK.out,o6,rD] using HQ6.out,by rw[ET.out];have:=ni p R;omega,by rw[ET.out];have:=ni p R;omega⟩,ag ⟨x8.out,Y1.out⟩⟩,by simp[intOf];omega⟩
       |false=>
        have Sz:=ag hsb;clear hsb;go_wp2_with fail;refine(Dp YH.out p.th).mono ?_;rintro r w6 ⟨rfl,hq,hbq,hpq⟩;have HQ6:=ag hq;have x8:=ag (pO.out.trans hbq);have Y1:=ag ((hpq w3.heap.size (by simp)).trans Jc.out);have q0:w6.cell? ⟨w3.heap.size,0,none⟩=some (.int .u8 2):=by rw[<-HKK.out];exact af Y1.out rfl
        have q1:w6.cell? ⟨w3.heap.size,1,none⟩=some (.int .i64 p.th):=af Y1.out rfl;have q2:w6.cell? ⟨w3.heap.size,2,none⟩=some (.int .i64 p.n):=af Y1.out rfl;clear hq hbq hpq;go_wp2_with fail;exact⟨⟨m+1,by omega,by go_num,by rw[ET.out];simp[jI,HKK.out,o6,rD,Sz.out],ag ⟨T+1,by have:=Y6.out;omega,by rw[ET.out];simpa [jI,HKK.out,o6,rD] using HQ6.out,by rw[ET.out];have:=ni p R;omega,by rw[ET.out];have:=ni p R;omega⟩,ag ⟨x8.out,Y1.out⟩⟩,by simp[intOf];omega⟩
    ·have hmm:(m:Int)=p.n:=by omega
     have Qj:=ag (show rO (sl.take (k+1)) (M0,0)=R from by
      rw[bU HP.out,Nv,hS,show p.n.toNat=m from by omega];exact HRE.out)
     have Lt:=ag hmm;clear hmm;go_wp2_with fail;exact⟨⟨k+1,by omega,by go_num,by rw[Qj.out],ag ⟨T,by have:=Y6.out;have:=adK.out;have:=Lt.out;omega,by rw[Qj.out];exact qJ.zO HQ.out.live,by rw[Qj.out];exact hs0,by rw[Qj.out];exact EK⟩,ag WQ.out.1⟩,by simp[intOf];omega⟩
  ·obtain rfl:k=sl.length:=by omega
   rw[List.take_length] at HT;obtain⟨T,hT,hQ,hs0,EK⟩:=HT.out;obtain⟨w3,rfl⟩:∃x,x=wr:=⟨_,rfl⟩;rw[List.take_length];generalize hS:rO sl (M0,0)=S at*;obtain⟨eo,ec,hev,hown⟩:=hQ.live.events;have HQL:=ag hQ.live;have HOWN:=ag hown;have hT3:w3.heap[w.heap.size+1]? =some (.cells #[.slice none 0 0,.slice none 0 0,.int .i64 0] 66 (0,0)):=by
    rw[HW.out.block _ (by have:=Pn.out;omega)];simpa using HT2.out
   have HT3:=ag hT3;have abh:=ag (HB2.out.trans (HW.out.mono (by have:=Pn.out;omega)));have hbe:b≠w.heap.size+1:=by
    obtain⟨own,xs,mv,tv,ev,h1, -, -⟩:=hQ;have:=h1.bT.1;have:=Pn.out;omega
   clear hT hQ hs0 EK hown hT3 HT;go_wp2_with fail;go_region_held3 (fun w'=>w'.cell? ⟨b,2,none⟩=some (.slice eo S.1.evs.length ec)) (first|exact hev|exact cell_later x8.out hev|(simp only[World.cell?_drew];assumption)|exact Ia (cell_later x8.out hev) hbe _ _ _) (first|(go_at_call 74;refine(Yc (HQL.out.below (au w3.heap.size w3).drew)).mono ?_;rintro e w6 ⟨v,ls,rfl,hsa,hse,hms,hb6⟩;obtain⟨sa,sn,rfl⟩:=aS hsa;have x8:=ag ((au w3.heap.size w3).drew.trans hb6);have XX:=ag hsa;have XT:=ag hse;have OE:=ag hms;have hz:=blk x8.out HT3.out;have z0:w6.cell? ⟨w.heap.size+1,0,none⟩=some (.slice none 0 0):=af hz rfl;have z1:w6.cell? ⟨w.heap.size+1,1,none⟩=some (.slice none 0 0):=af hz rfl;have z2:w6.cell? ⟨w.heap.size+1,2,none⟩=some (.int .i64 0):=af hz rfl;have zf0:w6.frozen? ⟨w.heap.size+1,0,none⟩=false:=ah hz;have zf1:w6.frozen? ⟨w.heap.size+1,1,none⟩=false:=ah hz;have zf2:w6.frozen? ⟨w.heap.size+1,2,none⟩=false:=ah hz;have HZ:=ag hz;clear hsa hse hms hb6 hz;dsimp only))
   go_wp2_with fail;have hr3:=ai (o:=2) (.int .i64 S.2) (ai (o:=1) (.slice eo S.1.evs.length ec) (ai (o:=0) (.slice sa ls.length sn) HZ.out));have hq:∀g,g≠w.heap.size+1->(((w6.setCell ⟨w.heap.size+1,0,none⟩ (.slice sa ls.length sn)).setCell ⟨w.heap.size+1,1,none⟩ (.slice eo S.1.evs.length ec)).setCell ⟨w.heap.size+1,2,none⟩ (.int .i64 S.2)).heap[g]? =w6.heap[g]?:=fun g hg=>((dm _ _ _ _ hg).trans (dm _ _ _ _ hg)).trans (dm _ _ _ _ hg)
   have hbf:Below w.heap.size w (((w6.setCell ⟨w.heap.size+1,0,none⟩ (.slice sa ls.length sn)).setCell ⟨w.heap.size+1,1,none⟩ (.slice eo S.1.evs.length ec)).setCell ⟨w.heap.size+1,2,none⟩ (.int .i64 S.2)):=
    (((fe abh.out x8.out).setCell (by simp) _).setCell (by simp) _).setCell (by simp) _
   refine bodyPost_ret (v:=.tuple #[.agg #[.slice sa ls.length sn,.slice eo S.1.evs.length ec,.int .i64 S.2],.int .i64 0]) ?_ rfl ?_
   ·have c0:=af (o:=0) hr3 rfl;have c1:=af (o:=1) hr3 rfl;have c2:=af (o:=2) hr3 rfl;simp[results,Tryz.results42,go_sem,c0,c1,c2]
   ·unfold adT;rw[hM,hS];have hw3:=abh.out.size;have hBW:=Pn.out;refine⟨_,ls,eo,ec,rfl,⟨?_,?_,?_⟩,OE.out,hbf⟩
    ·exact bY (aP XX.out fun g hg hl=>hq g (by have h1:=(bO XX.out hg).1;have h2:=lt_of_block HT3.out;have h3:w3.drew.heap.size=w3.heap.size:=rfl;omega)) (by have h3:w3.drew.heap.size=w3.heap.size:=rfl;omega)
    ·exact fun s hs=>bY (aP (XT.out s hs) fun g hg hl=>hq g (by have h1:=(bO (XT.out s hs) hg).1;omega)) (by omega)
    ·exact bY (aP HOWN.out fun g hg hl=>(hq g (by have h1:=(bO HOWN.out hg).1;omega)).trans (x8.out.block g hl)) (by omega)
end
section
variable {w w':World} {base b N:Nat} {mm:MM}
theorem Xw {ca oL:Option Addr} {fo h_:Nat} {l:List (Value×List bR)} {cs:List (Int×Int)} (h:mX w (.slice ca l.length fo) l) (hc:dH dQ w 2 (.slice oL cs.length h_) cs) (mem:Int) (hl:l.length<=6000000000000) (hcl:cs.length<=9000000000000) (hol:∀p∈l,p.2.length<=9000000000000)
  {so:Option Addr} {sc:Nat} {sl:List dB} (hs:dH fU w 3 (.slice so sl.length sc) sl) (hm:sl.length<=9000000000000) (he:tZ mem l cs sl≠0):
  Calls Tryz.prog 42 #[.agg #[.slice ca l.length fo,.int .i64 mem,.slice oL cs.length h_],.slice so sl.length sc] w fun e w'=>
   e= .returned (.tuple #[.agg #[.slice none 0 0,.slice none 0 0,.int .i64 0],.int .i64 (tZ mem l cs sl)])/\Below w.heap.size w w':=by
 have H:=ag h;have HC:=ag hc;have HL:=ag hl;have Cb:=ag hcl;have EW:=ag hol;have HS:=ag hs;have HM:=ag hm;have HE:=ag he;clear h hc hl hcl hol hs hm he;go_in;have hb0:Below w.heap.size w ((w.alloc (.cells #[.slice ca l.length fo,.int .i64 mem,.slice oL cs.length h_] 30)).alloc (.cells #[.slice none 0 0,.slice none 0 0,.int .i64 0] 66)):=((au _ _).alloc (aB _) _).alloc (by simp) _;have htr:=iT w (.cells #[.slice ca l.length fo,.int .i64 mem,.slice oL cs.length h_] 30) (.cells #[.slice none 0 0,.slice none 0 0,.int .i64 0] 66);have H0:=ag (H.out.below hb0);have CY:=ag (Rd.below HC.out hb0);have HB0:=ag hb0;have ZQ:=ag htr;clear hb0 htr;by_cases hk:cB mem l cs=0
 ·go_wp2_with fail;refine(KU H0.out CY.out mem HL.out Cb.out EW.out hk).mono ?_;rintro e w1 ⟨b,own,xs,mv,tv,ev,rfl,hr,hb⟩;have HB:=ag (Iz (au w.heap.size w) hb);have HT1:=ag (blk hb ZQ.out);have hr:tZ mem l cs sl=(dK sl).2:=by unfold tZ;rw[if_neg (by simpa using hk)]
  have he2:(dK sl).2≠0:=by rw[<-hr];exact HE.out
  have HRR:=ag hr;clear hb ZQ hk hr;go_wp2_with fail;refine(Br (Rd.below HS.out HB.out) HM.out).mono ?_;rintro e w2 ⟨rfl,hb⟩;have hbr:=blk hb HT1.out;have fr0:=ah (o:=0) hbr;have fr1:=ah (o:=1) hbr;have fr2:=ah (o:=2) hbr;have rr0:=af (o:=0) hbr rfl;have rr1:=af (o:=1) hbr rfl;have rr2:=af (o:=2) hbr rfl;have HB2:=ag (fe HB.out hb);have rV:=ag hbr;clear hb HT1 HB hbr;generalize(dK sl).1=n1 at*;generalize(dK sl).2=er at*;have heq:(er==0)=false:=by simpa using he2
  go_wp2_with fail;have hr3:=ai (o:=2) (.int .i64 0) (ai (o:=1) (.slice none 0 0) (ai (o:=0) (.slice none 0 0) rV.out));refine bodyPost_ret (v:=.tuple #[.agg #[.slice none 0 0,.slice none 0 0,.int .i64 0],.int .i64 er]) ?_ rfl ?_
  ·have c0:=af (o:=0) hr3 rfl;have c1:=af (o:=1) hr3 rfl;have c2:=af (o:=2) hr3 rfl;simp[results,Tryz.results42,go_sem,c0,c1,c2]
  ·rw[HRR.out];exact⟨rfl,((HB2.out.setCell (by simp) _).setCell (by simp) _).setCell (by simp) _⟩
 ·go_wp2_with fail;refine(Y0 H0.out CY.out mem HL.out Cb.out EW.out hk).mono ?_;rintro e w1 ⟨rfl,hb⟩;have hbr:=blk hb ZQ.out;have fr0:=ah (o:=0) hbr;have fr1:=ah (o:=1) hbr;have fr2:=ah (o:=2) hbr;have rr0:=af (o:=0) hbr rfl;have rr1:=af (o:=1) hbr rfl;have rr2:=af (o:=2) hbr rfl;have HB2:=ag (Iz (au w.heap.size w) hb);have rV:=ag hbr;have hr:tZ mem l cs sl=cB mem l cs:=by unfold tZ;rw[if_pos hk]
  have HRR:=ag hr;clear hb hbr hr ZQ HE;generalize cB mem l cs=er at*;have heq:(er==0)=false:=by simpa using hk
  go_wp2_with fail;have hr3:=ai (o:=2) (.int .i64 0) (ai (o:=1) (.slice none 0 0) (ai (o:=0) (.slice none 0 0) rV.out));refine bodyPost_ret (v:=.tuple #[.agg #[.slice none 0 0,.slice none 0 0,.int .i64 0],.int .i64 er]) ?_ rfl ?_
  ·have c0:=af (o:=0) hr3 rfl;have c1:=af (o:=1) hr3 rfl;have c2:=af (o:=2) hr3 rfl;simp[results,Tryz.results42,go_sem,c0,c1,c2]
  ·rw[HRR.out];exact⟨rfl,((HB2.out.setCell (by simp) _).setCell (by simp) _).setCell (by simp) _⟩
theorem TM {p:dB} (h:0<=p.kind/\p.kind<=2) (s:MM×Int):jI p s=a_ s (jB p):=by
 unfold jI jB;rcases(by omega:p.kind=0\/p.kind=1\/p.kind=2) with e|e|e<;>rw[e]<;>rfl
theorem Gz {p:dB} (h:0<=p.kind/\p.kind<=2) (s:MM×Int):∀k,mW p k s=a_ s (bP p k)
 |0=>rfl
 |k+1=>by rw[mW,bP,iU,Gz h s k,TM h]
theorem Wd (l:List dB):(∀p∈l,0<=p.kind/\p.kind<=2)->∀s:MM×Int,rO l s=a_ s (gy l):=by
 induction l with
 |nil=>intro _ s;rfl
 |cons p l ih=>
  intro h s;show rO l (mW p p.n.toNat s)=_;rw[ih (fun q hq=>h q (List.mem_cons_of_mem _ hq)),Gz (h p (by simp))];show _=a_ s (tL p++gy l);rw[iU];rfl
structure YJ where
 seen:List (List Int×Int)
 evs:List Ev
 steps:Int
 code:Int
def II (mem:Int) (l:List (List bR)) (cs:List (Int×Int)) (e:Int) (sc:List dB):YJ:=
 if e=0 then⟨(a_ (gF mem l cs,0) (gy sc)).1.aT.map (fun t=>(t.out,t.fin)),(a_ (gF mem l cs,0) (gy sc)).1.evs,(a_ (gF mem l cs,0) (gy sc)).2,0⟩
 else⟨[],[],0,e⟩
structure Cw (w:World) (v:YJ) (ao:Option Addr) (ac:Nat) (ls:List SX) (eo:Option Addr) (ec:Nat):Prop where
 seen:Bb w (.slice ao ls.length ac) ls
 same:ls.map (fun s=>(s.out,s.fin))=v.seen
 evs:dH mV w 4 (.slice eo v.evs.length ec) v.evs
theorem Cw.below {v:YJ} {ao eo:Option Addr} {ac ec:Nat} {ls:List SX} (h:Cw w v ao ac ls eo ec) (hb:Below w.heap.size w w'):Cw w' v ao ac ls eo ec:=⟨h.seen.below hb,h.same,Rd.below h.evs hb⟩
def adM (v:YJ) (w:World) (e:Ending) (w':World):Prop:=
 ∃ao ac ls eo ec,e= .returned (.tuple #[.agg #[.slice ao ls.length ac,.slice eo v.evs.length ec,.int .i64 v.steps],.int .i64 v.code])/\Cw w' v ao ac ls eo ec/\yf w' w.heap.size (.slice ao ls.length ac) ls eo ec v.evs/\Below w.heap.size w w'
theorem ac8 {ca oL sa:Option Addr} {fo h_ yG:Nat} {l:List (Value×List bR)} {cs:List (Int×Int)} {sc:List dB} (h:mX w (.slice ca l.length fo) l) (hc:dH dQ w 2 (.slice oL cs.length h_) cs) (mem:Int) (hl:l.length<=6000000000000) (hcl:cs.length<=9000000000000) (hol:∀p∈l,p.2.length<=9000000000000)
  (hs:dH fU w 3 (.slice sa sc.length yG) sc) (hm:sc.length<=9000000000000) (hn:∀p∈sc,0<=p.kind/\(-9223372036854775808<=p.n/\p.n<=9223372036854775807)):
  Calls Tryz.prog 42 #[.agg #[.slice ca l.length fo,.int .i64 mem,.slice oL cs.length h_],.slice sa sc.length yG] w (adM (II mem (l.map (·.2)) cs (tZ mem l cs sc) sc) w):=by
 by_cases he:tZ mem l cs sc=0
 ·have hk:cB mem l cs=0:=by
   unfold tZ at he;split at he
   ·assumption
   ·rename_i hc;simpa using hc
  have h2:(dK sc).2=0:=by
   unfold tZ at he;rw[if_neg (by simpa using hk)] at he;exact he
  refine(Wl h hc mem hl hcl hol hk hs hn h2 (Hz h hk)).mono ?_;rintro e w1 ⟨v,ls,ao,cap,rfl,hown,hms,hb⟩;have hk2:∀p∈sc,0<=p.kind/\p.kind<=2:=fun p hp=>by
   have h9:=List.any_eq_false.1 (vk h2).2.1 p hp;have h8:=(hn p hp).1;unfold nO at h9;simp at h9;omega
  rw[Wd sc hk2] at hms hown⊢;unfold II;rw[if_pos he];obtain⟨sa,sn,rfl⟩:=hown.seen.rows.shape;exact⟨sa,sn,ls,ao,cap,rfl,⟨hown.seen,hms,Rd.gu hown.evs⟩,hown,hb⟩
 ·refine(Xw h hc mem hl hcl hol hs hm he).mono ?_;rintro e w1 ⟨rfl,hb⟩;unfold II;rw[if_neg he];exact⟨none,0,[],none,0,rfl,⟨⟨Rd.nil _ 2,fun s hs=>absurd hs (by simp)⟩,rfl,Rd.nil _ 4⟩,yf.none,hb⟩
end
def iB (x:Ev):List Value:=[.int .i64 x.th,.int .u8 x.k,.int .i64 x.a,.int .i64 x.b]
theorem lS:∀a,(iB a).length=4:=fun _=>rfl
def fZ (a:bJ) (dv:Value):List Value:=[.int .i64 a.th,.int .u8 a.kind,.int .i64 a.dN,.int .i64 a.fin,.int .i64 a.clock,.int .i64 a.place,.bool a.writer,dv]
theorem YW:(Tryz.prog.info? 127).map (fun i=>(i.zero,i.size,i.bytes))=some (some (.agg #[.int .i64 0,.int .u8 0,.int .i64 0,.int .i64 0]),4,32):=by kernel_rfl
def Ud (w:World) (base g:Nat) (dv:Value) (a:bJ):Prop:=
 w.heap[g]? =some (.cells (fZ a dv).toArray 76 (0,0))/\base<=g/\w.ownsRow base 127 4 dv a.done.length (a.done.flatMap iB)
structure EH where
 lv:Value
 num:Int
 len:Nat
def JC (n:Int):List Value:=[.int .i64 (-1000 - n),.int .u8 0,.int .i64 0,.int .i64 0,.int .i64 0,.int .i64 0,.bool false,.slice none 0 0]
def IB (k:Nat) (n:Int):List Value:=(List.replicate k (JC n)).flatten
def sP (w:World) (base:Nat) (e:EH):Prop:=w.ownsRow base 76 8 e.lv e.len (IB e.len e.num)
theorem sP.keep {w w':World} {base:Nat} {e:EH} (h:sP w base e) (hk:∀g,e.lv.ownBlock=some g->g<w.heap.size->w'.heap[g]? =w.heap[g]?):sP w' base e:=aP h hk
theorem oP {t:TypeId} {f:Nat×Nat} (b:Nat) (B:List Value):∀(vs mid A:List Value) (o:Nat) (w:World),w.heap[b]? =some (.cells (A++mid++B).toArray t f)->A.length=o->mid.length=vs.length->
  (w.setCells b o vs).heap[b]? =some (.cells (A++vs++B).toArray t f)
 |[],mid,A,o,w,h,_,hm=>by
  have:mid=[]:=List.eq_nil_of_length_eq_zero (by simpa using hm);subst this;exact h
 |v::r,[],A,o,w,h,_,hm=>by simp at hm
 |v::r,u::mid,A,o,w,h,hA,hm=>by
  have h1:=ai (o:=o) v h;have e1:((A++u::mid++B).toArray.setIfInBounds o v)=(A++[v]++mid++B).toArray:=by
   subst hA;simp[List.setIfInBounds_toArray,List.set_append]
  rw[e1] at h1;have:=oP b B r mid (A++[v]) (o+1) (w.setCell ⟨b,o,none⟩ v) h1 (by simp[hA]) (by simpa using hm);simpa [World.setCells] using this
theorem bz.jL {S:Nat->Prop} {a:World} {b:Nat} (hS:S b):∀(vs:List Value) (o:Nat) {w:World},bz S a w->bz S a (w.setCells b o vs)
 |[],_,_,h=>h
 |v::r,o,w,h=>by
  rw[World.setCells];exact bz.jL hS r (o+1) (h.setCell (p:=⟨b,o,none⟩) (.inl hS) v)
theorem ny (b:Nat):∀(vs:List Value) (o:Nat) (w:World),(w.setCells b o vs).heap.size=w.heap.size
 |[],_,_=>rfl
 |v::r,o,w=>by rw[World.setCells,ny b r];simp[World.setCell]
theorem xV {w:World} {base:Nat} {g n cap j:Nat} {cs vs:List Value} (h:w.ownsRow base 76 8 (.slice (some ⟨g,0,none⟩) n cap) n cs) (hv:vs.length=8) (hj:j<n):
  (w.setCells g (j*8) vs).ownsRow base 76 8 (.slice (some ⟨g,0,none⟩) n cap) n (cs.take (j*8)++vs++cs.drop (j*8+8)):=by
 rcases h.2 with⟨hv',_⟩|⟨g',cap',cur,hv',hb,hg,hc,hm,hs,ht⟩
 ·simp at hv'
 ·simp only[Value.slice.injEq,bH,Addr.mk.injEq,and_true,true_and] at hv';obtain⟨rfl,rfl⟩:=hv';have hl:=h.1;have hcl:cur.toList.length=cap*8:=by simpa using hs
  have hle:n*8<=cap*8:=Nat.mul_le_mul_right _ hc;have hjn:j*8+8<=n*8:=by omega
  have e1:cur.toList=cs.take (j*8)++(cs.drop (j*8)).take 8++(cs.drop (j*8+8)++cur.toList.drop (n*8)):=by
   conv=>lhs;rw[<-List.take_append_drop (n*8) cur.toList,ht]
   rw[<-List.append_assoc];congr 1
   rw[List.append_assoc]
   conv=>lhs;rw[<-List.take_append_drop (j*8) cs]
   congr 1
   rw[<-List.drop_drop];exact(List.take_append_drop 8 (cs.drop (j*8))).symm
  have e2:=oP g (cs.drop (j*8+8)++cur.toList.drop (n*8)) vs ((cs.drop (j*8)).take 8) (cs.take (j*8)) (j*8) w (by rw[<-e1];exact hg) (by rw[List.length_take,hl];omega) (by rw[List.length_take,List.length_drop,hl,hv];omega);refine⟨?_,.inr ⟨g,cap,_,rfl,hb,e2,hc,hm,?_,?_⟩⟩
  ·simp[hl,hv];omega
  ·simp only[List.size_toArray,List.length_append,List.length_take,List.length_drop,hl,hv,hcl];omega
  ·rw[<-List.append_assoc];exact List.take_left' (by simp only[List.length_append,List.length_take,List.length_drop,hl,hv];omega)
theorem mq {w:World} {b k:Nat} (hk:k≠b):∀(vs:List Value) (o:Nat),(w.setCells b o vs).heap[k]? =w.heap[k]?:=fun vs o=>by
 rcases Nat.lt_or_ge k w.heap.size with h|h
 ·exact(bz.jL (S:=fun j=>j=b) rfl vs o (bz.refl _ w)).block k h hk
 ·rw[Array.getElem?_eq_none h,Array.getElem?_eq_none (by rw[ny];exact h)]
def Dw (s:HS) (x:Ev):Bool:=
 decide (x.th<0\/4<=x.th)||decide (x.k<1\/11<x.k)||s.ended x.th.toNat||(decide (x.k≠11) && ((s.opn x.th.toNat).isSome !=decide (2<=x.k/\x.k<=8)))
theorem DR (s:HS) (x:Ev) (i:Nat):(Dw s x=true↔fC s x i=none):=by
 unfold Dw fC;by_cases h1:x.th<0\/4<=x.th
 ·simp[h1]
 rw[if_neg h1,decide_eq_false h1];by_cases h2:s.ended x.th.toNat=true
 ·simp[h2]
 rw[if_neg h2];have h2':s.ended x.th.toNat=false:=by simpa using h2
 rw[h2'];cases ho:s.opn x.th.toNat with
 |none=>
  simp only[Option.isSome_none,Bool.false_or,Bool.or_false];by_cases c1:x.k=1
  ·simp[c1]
  by_cases c9:x.k=9
  ·simp[c9]
  by_cases c10:x.k=10
  ·simp[c10]
  by_cases c11:x.k=11
  ·simp[c11]
  rw[if_neg c1,if_neg c9,if_neg (by omega)];simp;omega
 |some j=>
  simp only[Option.isSome_some,Bool.false_or,Bool.or_false];by_cases c1:2<=x.k/\x.k<=6
  ·rw[if_pos c1];simp;omega
  by_cases c7:x.k=7
  ·simp[c7]
  by_cases c8:x.k=8
  ·simp[c8]
  by_cases c11:x.k=11
  ·simp[c11]
  rw[if_neg c1,if_neg c7,if_neg c8,if_neg c11];simp;omega
theorem Oz {t:Nat} (h:t<4):t=0\/t=1\/t=2\/t=3:=by omega
def iq:Option Nat->Int
 |none=> -1
 |some j=>j
def iX (s:HS):List Value:=
 [.int .i64 (iq (s.opn 0)),.int .i64 (iq (s.opn 1)),.int .i64 (iq (s.opn 2)),.int .i64 (iq (s.opn 3)),.bool (s.ended 0),.bool (s.ended 1),.bool (s.ended 2),.bool (s.ended 3)]
theorem cK (s:HS) {t:Nat} (h:t<4):(iX s).toArray[t]? =some (.int .i64 (iq (s.opn t))):=by
 rcases Oz h with rfl|rfl|rfl|rfl<;>rfl
theorem gJ (s:HS) {t:Nat} (h:t<4):(iX s).toArray[4+t]? =some (.bool (s.ended t)):=by
 rcases Oz h with rfl|rfl|rfl|rfl<;>rfl
theorem mM (s:HS) {t:Nat} (h:t<4) (o:Option Nat) (l:List bJ):(iX s).toArray.setIfInBounds t (.int .i64 (iq o))=(iX ⟨l,upd s.opn t o,s.ended⟩).toArray:=by
 rcases Oz h with rfl|rfl|rfl|rfl<;>rfl
theorem nL (s:HS) {t:Nat} (h:t<4) (b:Bool) (l:List bJ):(iX s).toArray.setIfInBounds (4+t) (.bool b)=(iX ⟨l,s.opn,upd s.ended t b⟩).toArray:=by
 rcases Oz h with rfl|rfl|rfl|rfl<;>rfl
def ym (p:bJ×Value):List Value:=fZ p.1 p.2
theorem o8:∀p,(ym p).length=8:=fun _=>rfl
structure lC (w:World) (base bs:Nat) (v:Value) (ps:List (bJ×Value)) (s:HS):Prop where
 st:w.heap[bs]? =some (.cells (iX s).toArray 159 (0,0))
 fst:ps.map Prod.fst=s.aU
 row:w.ownsRow base 76 8 v ps.length (ps.flatMap ym)
 own:∀(j:Nat) p,ps[j]? =some p->w.ownsRow base 127 4 p.2 p.1.done.length (p.1.done.flatMap iB)
 bb:bs<base
 ne:∀(j g:Nat) p,ps[j]? =some p->p.2.ownBlock=some g->v.ownBlock≠some g
 lg:∀(i j g:Nat) p q,i≠j->ps[i]? =some p->ps[j]? =some q->p.2.ownBlock=some g->q.2.ownBlock≠some g
def Gh (bs:Nat) (v:Value) (ps:List (bJ×Value)) (k:Nat):Prop:=k=bs\/v.ownBlock=some k\/∃(j:Nat) (p:bJ×Value),ps[j]? =some p/\p.2.ownBlock=some k
def kU (w w':World) (base bs:Nat) (v:Value) (ps:List (bJ×Value)) (s':HS) (v':Value):Prop:=
 ∃ps',lC w' base bs v' ps' s'/\bz (Gh bs v ps) w w'/\∀k,Gh bs v' ps' k->Gh bs v ps k\/w.heap.size<=k
theorem lC.below {w w':World} {base bs:Nat} {v:Value} {ps:List (bJ×Value)} {s:HS} (h:lC w base bs v ps s) (hb:Below w.heap.size w w'):lC w' base bs v ps s:=
 ⟨blk hb h.st,h.fst,aP h.row (fun g _ hg=>hb.block g hg),fun j p hp=>aP (h.own j p hp) (fun g _ hg=>hb.block g hg),h.bb,h.ne,h.lg⟩
theorem lC.stand {w w':World} {base bs:Nat} {v:Value} {ps:List (bJ×Value)} {s s':HS} (h:lC w base bs v ps s) (hc:bz (fun k=>k=bs) w w') (hs:w'.heap[bs]? =some (.cells (iX s').toArray 159 (0,0))) (ha:s'.aU=s.aU):
  kU w w' base bs v ps s' v:=
 ⟨ps,⟨hs,by rw[ha];exact h.fst,aX h.row hc (fun g hg e=>by have:=bO h.row hg;have:=h.bb;omega),fun j p hp=>aX (h.own j p hp) hc (fun g hg e=>by have:=bO (h.own j p hp) hg;have:=h.bb;omega),h.bb,h.ne,h.lg⟩,
  ⟨hc.os,hc.tape,hc.output,hc.size,fun k hk hn=>hc.block k hk (fun e=>hn (.inl e))⟩,fun k hk=>.inl hk⟩
theorem Iw {α:Type} {enc:α->List Value} {sz:Nat} (he:∀a,(enc a).length=sz):∀(l:List α) (k:Nat) (y:α),k<l.length->(l.set k y).flatMap enc=(l.flatMap enc).take (k*sz)++enc y++(l.flatMap enc).drop (k*sz+sz)
 |[],k,y,h=>by simp at h
 |a::l,0,y,_=>by
  have h1:=he a;rw[List.set_cons_zero,List.flatMap_cons,List.flatMap_cons,Nat.zero_mul,List.take_zero,List.nil_append,Nat.zero_add,<-h1,List.drop_left]
 |a::l,k+1,y,h=>by
  have h1:=he a;have ih:=Iw he l k y (by simpa using h);rw[List.set_cons_succ,List.flatMap_cons,List.flatMap_cons,ih];have e1:(k+1)*sz=(enc a).length+k*sz:=by rw[h1,Nat.add_mul];omega
  rw[e1,List.take_length_add_append,Nat.add_assoc,List.drop_length_add_append];simp
theorem setAt {α:Type} {l:List α} {k i:Nat} {y z:α} (h:(l.set k y)[i]? =some z):i=k/\z=y\/i≠k/\l[i]? =some z:=by
 rw[List.getElem?_set] at h;split at h
 ·rename_i q;split at h
  ·cases h;exact .inl ⟨q.symm,rfl⟩
  ·cases h
 ·rename_i q;exact .inr ⟨fun e=>q e.symm,h⟩
theorem DI {α:Type} {l:List α} {i:Nat} {y z:α} (h:(l++[y])[i]? =some z):i=l.length/\z=y\/l[i]? =some z:=by
 rcases Nat.lt_or_ge i l.length with h1|h1
 ·rw[List.getElem?_append_left h1] at h;exact .inr h
 ·rw[List.getElem?_append_right h1] at h;have:=(bu.1 h).1;simp at this;obtain rfl:i=l.length:=by omega
  simp at h;exact .inl ⟨rfl,h.symm⟩
theorem wO {ps:List (bJ×Value)} {aU:List bJ} {k:Nat} {p:bJ×Value} {f:bJ->bJ} {v:Value} (h:ps.map Prod.fst=aU) (hk:ps[k]? =some p):(ps.set k (f p.1,v)).map Prod.fst=aU.modify k f:=by
 subst h;rw[List.map_set];apply List.ext_getElem?;intro i;rw[List.getElem?_set,List.getElem?_modify];have hlt:=(bu.1 hk).1;by_cases e:k=i
 ·subst e;rw[if_pos rfl,if_pos (by simpa using hlt)];simp[hk]
 ·rw[if_neg e];simp[e]
theorem lC.begin {w w1 w2:World} {base bs:Nat} {v v':Value} {ps:List (bJ×Value)} {s s':HS} {a:bJ} (h:lC w base bs v ps s) (hc1:bz (fun k=>k=bs) w w1) (hs1:w1.heap[bs]? =some (.cells (iX s').toArray 159 (0,0)))
  (hg:w1.grownBy w2 v.ownBlock) (hrow:w2.ownsRow base 76 8 v' (ps.length+1) (ps.flatMap ym++fZ a (.slice none 0 0))) (hf:∀g,v'.ownBlock=some g->v.ownBlock=some g\/w.heap.size<=g) (ha:s'.aU=s.aU++[a]) (hd:a.done=[]):
  kU w w2 base bs v ps s' v':=by
 have hbb:=h.bb;have hc2:bz (fun k=>v.ownBlock=some k) w1 w2:=(bz.refl _ w1).grown hg (fun k hk=>.inl hk);have hvb:∀g,v.ownBlock=some g->base<=g:=fun g hg=>(bO h.row hg).1
 have hkeep:∀(j:Nat) p,ps[j]? =some p->∀g,p.2.ownBlock=some g->g<w.heap.size->w2.heap[g]? =w.heap[g]?:=fun j p hp g hg hl=>by
  rw[hc2.block g (Nat.lt_of_lt_of_le hl hc1.size) (fun e=>h.ne j g p hp hg e),hc1.block g hl (fun e=>by have:=bO (h.own j p hp) hg;omega)]
 refine⟨ps++[(a,.slice none 0 0)],⟨dG hc2 hs1 (fun e=>by have:=hvb _ e;omega),?_,?_,fun j p hp=>?_,hbb,fun j g p hp hg2 e=>?_,fun i j g p q hij hp hq hg2 e=>?_⟩,?_,fun k hk=>?_⟩
 ·rw[List.map_append,h.fst,ha];rfl
 ·rw[List.length_append,mJ];exact hrow
 ·rcases DI hp with⟨_,rfl⟩|hp
  ·rw[hd];exact World.ownsRow_nil _ _ _ _
  ·exact aP (h.own j p hp) fun g hg2 hl=>hkeep j p hp g hg2 hl
 ·rcases DI hp with⟨_,rfl⟩|hp
  ·simp[Value.ownBlock] at hg2
  ·rcases hf g e with e|e
   ·exact h.ne j g p hp hg2 e
   ·have:=bO (h.own j p hp) hg2;omega
 ·rcases DI hp with⟨_,rfl⟩|hp
  ·simp[Value.ownBlock] at hg2
  ·rcases DI hq with⟨_,rfl⟩|hq
   ·simp[Value.ownBlock] at e
   ·exact h.lg i j g p q hij hp hq hg2 e
 ·exact(bz.dY (S:=Gh bs v ps) (T:=fun k=>v.ownBlock=some k) ⟨hc1.os,hc1.tape,hc1.output,hc1.size,fun k hk hn=>hc1.block k hk (fun e=>hn (.inl e))⟩ hc2 (fun k _ hk=>.inr (.inl hk)))
 ·rcases hk with rfl|hk|⟨j,p,hp,hg2⟩
  ·exact .inl (.inl rfl)
  ·exact(hf k hk).imp (fun e=>.inr (.inl e)) id
  ·rcases DI hp with⟨_,rfl⟩|hp
   ·simp[Value.ownBlock] at hg2
   ·exact .inl (.inr (.inr ⟨j,p,hp,hg2⟩))
theorem lC.abf {w w1 w2:World} {base bs g n c k:Nat} {Yi:Value} {ps:List (bJ×Value)} {s s':HS} {p:bJ×Value} {x:Ev} (h:lC w base bs (.slice (some ⟨g,0,none⟩) n c) ps s) (hk:ps[k]? =some p) (hn:n=ps.length)
  (hc1:bz (fun _=>False) w w1) (hg:w1.grownBy w2 p.2.ownBlock) (hown:w2.ownsRow base 127 4 Yi (p.1.done.length+1) (p.1.done.flatMap iB++iB x)) (hf:∀g,Yi.ownBlock=some g->p.2.ownBlock=some g\/w.heap.size<=g)
  (ha:s'.aU=s.aU.modify k (more x)) (hs:iX s'=iX s):kU w (w2.setCell ⟨g,k*8+7,none⟩ Yi) base bs (.slice (some ⟨g,0,none⟩) n c) ps s' (.slice (some ⟨g,0,none⟩) n c):=by
 subst hn;have hbb:=h.bb;have hc2:bz (fun j=>p.2.ownBlock=some j) w1 w2:=(bz.refl _ w1).grown hg (fun j hj=>.inl hj);have Xu:bz (fun j=>p.2.ownBlock=some j) w w2:=bz.dY ⟨hc1.os,hc1.tape,hc1.output,hc1.size,fun j hj hn=>hc1.block j hj id⟩ hc2 (fun _ _ hj=>hj);have hgb:=bO h.row (g:=g) rfl;have hpg:∀d,p.2.ownBlock=some d->d≠g:=fun d hd e=>h.ne k d p hk hd (by rw[e];rfl)
 have hdg:∀d,Yi.ownBlock=some d->d≠g:=fun d hd e=>by
  rcases hf d hd with h1|h1
  ·exact hpg d h1 e
  ·omega
 have hset:∀b,b≠g->(w2.setCell ⟨g,k*8+7,none⟩ Yi).heap[b]? =w2.heap[b]?:=fun b hb=>dm _ _ _ _ hb
 have hrow2:w2.ownsRow base 76 8 (.slice (some ⟨g,0,none⟩) ps.length c) ps.length (ps.flatMap ym):=aX h.row Xu (fun d hd e=>by
  simp only[Value.ownBlock,bH] at hd;exact hpg d e hd.symm)
 refine⟨ps.set k (more x p.1,Yi),⟨?_,?_,?_,fun j q hq=>?_,hbb,fun j d q hq hd e=>?_,fun i j d q r hij hq hr hd e=>?_⟩,?_,fun d hd=>?_⟩
 ·rw[hset bs (by omega),hs];exact dG Xu h.st (fun e=>by have:=bO (h.own k p hk) e;omega)
 ·rw[ha];exact wO h.fst hk
 ·rw[List.length_set];exact(vW o8 hrow2 hk (y:=(more x p.1,Yi)) (j:=7) (u:=Yi) rfl (by decide)).2
 ·rcases setAt hq with⟨_,rfl⟩|⟨hj,hq2⟩
  ·show(w2.setCell _ _).ownsRow _ _ _ Yi (more x p.1).done.length ((more x p.1).done.flatMap iB);unfold more;simp only[List.length_append,mJ];exact aP hown fun d hd _=>hset d (hdg d hd)
  ·refine aP (h.own j q hq2) fun d hd hl=>?_
   rw[hset d (fun e=>h.ne j d q hq2 hd (by rw[e];rfl)),Xu.block d hl (fun e=>h.lg j k d q p hj hq2 hk hd e)]
 ·simp only[Value.ownBlock,bH] at e;rcases setAt hq with⟨_,rfl⟩|⟨hj,hq2⟩
  ·exact hdg d hd e.symm
  ·exact h.ne j d q hq2 hd (by rw[<-e];rfl)
 ·rcases setAt hq with⟨rfl,rfl⟩|⟨hi,hq2⟩
  ·rcases setAt hr with⟨rfl,rfl⟩|⟨hj,hr2⟩
   ·exact hij rfl
   ·rcases hf d hd with h1|h1
    ·exact h.lg i j d p r hij hk hr2 h1 e
    ·have:=bO (h.own j r hr2) e;omega
  ·rcases setAt hr with⟨rfl,rfl⟩|⟨hj,hr2⟩
   ·rcases hf d e with h1|h1
    ·exact h.lg i j d q p hij hq2 hk hd h1
    ·have:=bO (h.own i q hq2) hd;omega
   ·exact h.lg i j d q r hij hq2 hr2 hd e
 ·exact(bz.dY (S:=Gh bs (.slice (some ⟨g,0,none⟩) ps.length c) ps) (T:=fun j=>p.2.ownBlock=some j) (bz.refl _ w) Xu (fun d _ hd=>.inr (.inr ⟨k,p,hk,hd⟩))).setCell (p:=⟨g,k*8+7,none⟩) (.inl (.inr (.inl rfl))) _
 ·rcases hd with rfl|hd|⟨j,q,hq,hd⟩
  ·exact .inl (.inl rfl)
  ·exact .inl (.inr (.inl hd))
  ·rcases setAt hq with⟨_,rfl⟩|⟨hj,hq2⟩
   ·exact(hf d hd).imp (fun e=>.inr (.inr ⟨k,p,hk,e⟩)) id
   ·exact .inl (.inr (.inr ⟨j,q,hq2,hd⟩))
theorem lC.close {w w1:World} {base bs g n c k o:Nat} {ps:List (bJ×Value)} {s s':HS} {p:bJ×Value} {f:bJ->bJ} {u:Value} {cs:Array Value} (h:lC w base bs (.slice (some ⟨g,0,none⟩) n c) ps s) (hk:ps[k]? =some p) (hn:n=ps.length)
  (hc1:bz (fun j=>j=bs) w w1) (hs1:w1.heap[bs]? =some (.cells cs 159 (0,0))) (hs:cs.setIfInBounds o u=(iX s').toArray) (hfd:(f p.1).done=p.1.done) (ha:s'.aU=s.aU.modify k f):
  kU w ((w1.setCells g (k*8) (fZ (f p.1) p.2)).setCell ⟨bs,o,none⟩ u) base bs (.slice (some ⟨g,0,none⟩) n c) ps s' (.slice (some ⟨g,0,none⟩) n c):=by
 subst hn;have hbb:=h.bb;have hgb:=bO h.row (g:=g) rfl;have adu:=(bu.1 hk).1;have hsx:∀b,b≠bs->((w1.setCells g (k*8) (fZ (f p.1) p.2)).setCell ⟨bs,o,none⟩ u).heap[b]? =(w1.setCells g (k*8) (fZ (f p.1) p.2)).heap[b]?:=fun b hb=>dm _ _ _ _ hb
 have adz:w1.ownsRow base 76 8 (.slice (some ⟨g,0,none⟩) ps.length c) ps.length (ps.flatMap ym):=aX h.row hc1 (fun d hd e=>by have:=bO h.row hd;omega);have hrow2:=xV adz (vs:=fZ (f p.1) p.2) rfl adu;have hput:=Iw o8 ps k (f p.1,p.2) adu;refine⟨ps.set k (f p.1,p.2),⟨?_,?_,?_,fun j q hq=>?_,hbb,fun j d q hq hd e=>?_,fun i j d q r hij hq hr hd e=>?_⟩,?_,fun d hd=>?_⟩
 ·rw[<-hs];refine ai u ?_;rw[mq (by omega)];exact hs1
 ·rw[ha];exact wO h.fst hk
 ·rw[List.length_set,hput];refine aP hrow2 fun d hd _=>hsx d (fun e=>by simp only[Value.ownBlock,bH] at hd;omega)
 ·have key:∀(q:bJ×Value),ps[j]? =some q->((w1.setCells g (k*8) (fZ (f p.1) p.2)).setCell ⟨bs,o,none⟩ u).ownsRow base 127 4 q.2 q.1.done.length (q.1.done.flatMap iB):=fun q hq=>
   aP (h.own j q hq) fun d hd hl=>by
    have hlt:=bO (h.own j q hq) hd;rw[hsx d (by omega),mq (fun e=>h.ne j d q hq hd (by rw[e];rfl)),hc1.block d hl (by omega)]
  rcases setAt hq with⟨rfl,rfl⟩|⟨hj,hq2⟩
  ·have:=key p hk;show World.ownsRow _ _ _ _ _ (f p.1).done.length ((f p.1).done.flatMap iB);rw[hfd];exact this
  ·exact key q hq2
 ·rcases setAt hq with⟨_,rfl⟩|⟨hj,hq2⟩
  ·exact h.ne k d p hk hd e
  ·exact h.ne j d q hq2 hd e
 ·rcases setAt hq with⟨rfl,rfl⟩|⟨hi,hq2⟩
  ·rcases setAt hr with⟨rfl,rfl⟩|⟨hj,hr2⟩
   ·exact hij rfl
   ·exact h.lg i j d p r hij hk hr2 hd e
  ·rcases setAt hr with⟨rfl,rfl⟩|⟨hj,hr2⟩
   ·exact h.lg i j d q p hij hq2 hk hd e
   ·exact h.lg i j d q r hij hq2 hr2 hd e
 ·have hc0:bz (Gh bs (.slice (some ⟨g,0,none⟩) ps.length c) ps) w w1:=⟨hc1.os,hc1.tape,hc1.output,hc1.size,fun j hj hn=>hc1.block j hj (fun e=>hn (.inl e))⟩;exact(bz.jL (.inr (.inl rfl)) _ _ hc0).setCell (p:=⟨bs,o,none⟩) (.inl (.inl rfl)) _
 ·rcases hd with rfl|hd|⟨j,q,hq,hd⟩
  ·exact .inl (.inl rfl)
  ·exact .inl (.inr (.inl hd))
  ·rcases setAt hq with⟨_,rfl⟩|⟨hj,hq2⟩
   ·exact .inl (.inr (.inr ⟨k,p,hk,hd⟩))
   ·exact .inl (.inr (.inr ⟨j,q,hq2,hd⟩))
def Bi (x:Ev):Value:=.agg #[.int .i64 x.th,.int .u8 x.k,.int .i64 x.a,.int .i64 x.b]
theorem FV (w:World) (k:Int):Calls Tryz.prog 112 #[.int .u8 k] w fun e w'=>e= .returned (.bool (decide (2<=k/\k<=8)))/\w'=w:=by
 by_cases h:2<=k
 ·by_cases h2:k<=8
  ·rw[decide_eq_true ⟨h,h2⟩];go_in;go_wp2_with fail;go_ret;exact⟨rfl,rfl⟩
  ·rw[decide_eq_false (by omega)];go_in;go_wp2_with fail;go_ret;exact⟨rfl,rfl⟩
 ·rw[decide_eq_false (by omega)];go_in;go_wp2_with fail;go_ret;exact⟨rfl,rfl⟩
theorem Qw {w:World} {bs:Nat} {s:HS} (hb:w.heap[bs]? =some (.cells (iX s).toArray 159 (0,0))) (x:Ev):
  Calls Tryz.prog 75 #[.pointer (some ⟨bs,0,none⟩),Bi x] w fun e w'=>e= .returned (.bool (Dw s x))/\Below w.heap.size w w':=by
 have hlt:=lt_of_block hb;have HB:=ag hb;clear hb;obtain⟨th,k,a,b⟩:=x;unfold Bi Dw;simp only;by_cases h1:th<0
 ·rw[decide_eq_true (.inl h1)];go_in;go_wp2_with fail;go_quiet (fail)
  go_wp2_with fail;go_ret;exact⟨by simp,below_drewN ((au _ _).alloc (aB _) _) _⟩
 by_cases h2:4<=th
 ·rw[decide_eq_true (.inr h2)];go_in;go_wp2_with fail;go_quiet (fail)
  go_wp2_with fail;go_ret;exact⟨by simp,below_drewN ((au _ _).alloc (aB _) _) _⟩
 rw[decide_eq_false (p:=th<0\/4<=th) (by omega)];obtain⟨t,rfl⟩:∃t:Nat,th=t:=⟨th.toNat,by omega⟩;have ht:t<4:=by omega
 rw[Int.toNat_natCast];by_cases h3:k<1
 ·rw[decide_eq_true (.inl h3)];go_in;go_wp2_with fail;go_quiet (fail)
  go_wp2_with fail;go_ret;exact⟨by simp,below_drewN ((au _ _).alloc (aB _) _) _⟩
 by_cases h4:11<k
 ·rw[decide_eq_true (.inr h4)];go_in;go_wp2_with fail;go_quiet (fail)
  go_wp2_with fail;go_ret;exact⟨by simp,below_drewN ((au _ _).alloc (aB _) _) _⟩
 rw[decide_eq_false (p:=k<1\/11<k) (by omega)];have d0:∀o,(w.alloc o).cell? ⟨bs,t,none⟩=some (.int .i64 (iq (s.opn t))):=fun o=>af (aZ HB.out) (cK s ht)
 have e0:∀o,(w.alloc o).cell? ⟨bs,4+t,none⟩=some (.bool (s.ended t)):=fun o=>af (aZ HB.out) (gJ s ht)
 cases hend:s.ended t with
 |true=>
  rw[hend] at e0;go_in;go_wp2_with fail;go_quiet (fail)
  go_wp2_with fail;go_ret;exact⟨by simp,below_drewN ((au _ _).alloc (aB _) _) _⟩
 |false=>
  rw[hend] at e0;by_cases h11:k=11
  ·subst h11;go_in;go_wp2_with fail;go_quiet (fail)
   go_wp2_with fail;go_quiet (fail)
   go_wp2_with fail;go_ret;exact⟨by simp,below_drewN ((au _ _).alloc (aB _) _) _⟩
  ·have k11:(k==11)=false:=by simpa using h11
   cases hop:s.opn t with
   |none=>
    rw[hop] at d0;simp only[iq] at d0;go_in;go_wp2_with fail;go_quiet (fail)
    go_wp2_with fail;go_quiet (fail)
    go_wp2_with fail;refine(FV _ _).mono ?_;rintro e w1 ⟨rfl,rfl⟩;go_wp2_with fail;go_ret;exact⟨by simp[h11],below_drewN ((au _ _).alloc (aB _) _) _⟩
   |some j=>
    rw[hop] at d0;simp only[iq] at d0;go_in;go_wp2_with fail;go_quiet (fail)
    go_wp2_with fail;go_quiet (fail)
    go_wp2_with fail;refine(FV _ _).mono ?_;rintro e w1 ⟨rfl,rfl⟩;go_wp2_with fail;go_ret;exact⟨by simp[h11],below_drewN ((au _ _).alloc (aB _) _) _⟩
theorem Nt (w:World) (x:Ev) (i:Int):
  Calls Tryz.prog 113 #[Bi x,.int .i64 i] w fun e w'=>e= .returned (.agg #[.int .i64 x.th,.int .u8 0,.int .i64 i,.int .i64 (-1),.int .i64 x.a,.int .i64 0,.bool false,.slice none 0 0])/\Below w.heap.size w w':=by
 obtain⟨th,k,a,b⟩:=x;unfold Bi;go_in;go_wp2_with fail;refine bodyPost_ret (v:=.agg #[.int .i64 th,.int .u8 0,.int .i64 i,.int .i64 (-1),.int .i64 a,.int .i64 0,.bool false,.slice none 0 0]) (by simp[results,Tryz.results113,go_sem]) rfl ⟨rfl,((au _ _).alloc (aB _) _).alloc (by simp) _⟩
def qd (x:Ev) (i:Int) (a:bJ):bJ:=if x.k=7 then {a with kind:=1,fin:=i,place:=x.a,writer:=x.b==1} else if x.k=8 then {a with kind:=2,fin:=i} else {a with kind:=3,fin:=i}
theorem v_ (w:World) (p:bJ) (dv:Value) (x:Ev) (i:Int) {ao:Option Addr} {n c:Nat} (hdv:dv= .slice ao n c):
  Calls Tryz.prog 114 #[.agg (fZ p dv).toArray,Bi x,.int .i64 i] w fun e w'=>e= .returned (.agg (fZ (qd x i p) dv).toArray)/\Below w.heap.size w w':=by
 subst hdv;obtain⟨th,k,a,b⟩:=x;unfold Bi fZ qd;simp only;by_cases h7:k=7
 ·subst h7;go_in;go_wp2_with fail;go_region;all_goals (
   go_wp2_with fail;refine bodyPost_ret (v:=.agg #[.int .i64 p.th,.int .u8 1,.int .i64 p.dN,.int .i64 i,.int .i64 p.clock,.int .i64 a,.bool (b==1),.slice ao n c]) (by simp[results,Tryz.results114,go_sem]) rfl ⟨by simp,?_⟩;exact((((au _ _).alloc (aB _) _).alloc (by simp) _).alloc (by simp;omega) _).drew)
 by_cases h8:k=8
 ·subst h8;go_in;go_wp2_with fail;refine bodyPost_ret (v:=.agg #[.int .i64 p.th,.int .u8 2,.int .i64 p.dN,.int .i64 i,.int .i64 p.clock,.int .i64 p.place,.bool p.writer,.slice ao n c]) (by simp[results,Tryz.results114,go_sem]) rfl ⟨by simp,?_⟩;exact(((au _ _).alloc (aB _) _).alloc (by simp) _).alloc (by simp;omega) _
 have e7:(k==7)=false:=by simpa using h7
 have e8:(k==8)=false:=by simpa using h8
 go_in;go_wp2_with fail;refine bodyPost_ret (v:=.agg #[.int .i64 p.th,.int .u8 3,.int .i64 p.dN,.int .i64 i,.int .i64 p.clock,.int .i64 p.place,.bool p.writer,.slice ao n c]) (by simp[results,Tryz.results114,go_sem]) rfl ⟨by simp[h7,h8],?_⟩;exact(((au _ _).alloc (aB _) _).alloc (by simp) _).alloc (by simp;omega) _
theorem Yb (x:Ev):∀u∈iB x,u.oneCell'=true:=by
 intro u hu;simp[iB] at hu;rcases hu with rfl|rfl|rfl|rfl<;>rfl
theorem four {t:Nat} (h:t<4):t=0\/t=1\/t=2\/t=3:=by omega
theorem Ud.Ja {S:Nat->Prop} {w w':World} {base g:Nat} {dv:Value} {a:bJ} (h:Ud w base g dv a) (c:bz S w w') (h1:¬S g) (h2:∀d,dv.ownBlock=some d->¬S d):Ud w' base g dv a:=
 ⟨dG c h.1 h1,h.2.1,aX h.2.2 c h2⟩
end Go.Proofs.YtopdcjimpdalpaaGreat

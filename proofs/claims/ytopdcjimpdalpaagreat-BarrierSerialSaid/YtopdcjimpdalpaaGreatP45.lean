import Derived.Test.YtopdcjimpdalpaaGreatP44
import Derived.Deep.RegionHeld3
namespace Go.Proofs.YtopdcjimpdalpaaGreat
open Go.RowKit
set_option linter.all false
set_option maxHeartbeats 16000000
set_option maxRecDepth 100000
section
variable {w w':World} {base hb:Nat} {v:Value} {cells:List (Int×Int)}
structure kZ (w:World) (base hb:Nat) (v:Value) (cells:List (Int×Int)):Prop where
 blk:w.heap[hb]? =some (.cells #[v] 121 (0,0))
 low:base<=hb
 row:w.ownsRow base 99 2 v cells.length (cells.flatMap dQ)
 ne:∀g,v.ownBlock=some g->g≠hb
theorem kZ.below (h:kZ w base hb v cells) (hc:Below w.heap.size w w'):kZ w' base hb v cells:=
 ⟨Go.Proofs.YtopdcjimpdalpaaGreat.blk hc h.blk,h.low,aX h.row (bz.of_below (S:=fun _=>False) hc) (fun _ _=>id),h.ne⟩
def Da (cells:List (Int×Int)) (x y:Int):List (Int×Int):=if place cells x<cells.length then cells.set (place cells x) (x,y) else cells++[(x,y)]
def rH (cells:List (Int×Int)) (x:Int):Int:=if place cells x<cells.length then(place cells x:Int) else -1
theorem xL (h:kZ w base hb v cells) (hl:cells.length<=4194304) (x:Int):
  Calls Tryz.prog 116 #[.pointer (some ⟨hb,0,none⟩),.int .i64 x] w fun e w'=>e= .returned (.int .i64 (rH cells x))/\w'=w:=by
 obtain⟨ao,cap,rfl⟩:=aS h.row;have c0:w.cell? ⟨hb,0,none⟩=some (.slice ao cells.length cap):=af h.blk rfl;have VK:=ag (show dH dQ w 2 (.slice ao cells.length cap) cells from Rd.gu h.row);clear h;go_in;go_wp2_with fail;go_loopw [5] (fun i w'=>∃k:Nat,k<=cells.length/\i= .int .i64 (k:Int)/\Hid (k<=place cells x)/\w'=w) (fun i _=>((cells.length:Int) - intOf i).toNat)
 case atStart=>exact⟨0,by omega,rfl,ag (Nat.zero_le _),rfl⟩
 case round=>
  obtain⟨k,hk,rfl,HP,rfl⟩:=hrel;by_cases hlt:k<cells.length
  ·obtain⟨e,he⟩:=bE hlt;obtain⟨g,o,rfl,_,hcs⟩:=dH.at iM VK.out he;have d1:=hcs 0 _ rfl;simp only[Nat.add_zero] at d1;have HE:=ag he;clear hcs he;by_cases ha:e.1=x
   ·have HA:=ag (zV HE.out ha);have hb':(e.1==x)=true:=by simpa using ha
    clear ha;go_wp2_with fail;go_ret;obtain rfl:k=place cells x:=by have:=HA.out;have:=HP.out;omega
    refine⟨?_,rfl⟩;unfold rH;rw[if_pos hlt];rfl
   ·have hb':(e.1==x)=false:=by simpa using ha
    have HN:=ag (show k+1<=place cells x from by
     have:=HP.out;rcases Nat.lt_or_ge k (place cells x) with h|h
     ·exact h
     ·exfalso;have hkp:k=place cells x:=by omega
      obtain⟨c',h1,h2⟩:=tJ (l:=cells) (a:=x) (by omega);rw[<-hkp,HE.out] at h1;cases h1;exact ha h2)
    clear ha;go_wp2_with fail;exact⟨⟨k+1,by omega,by go_num,HN,trivial⟩,by simp[intOf];omega⟩
  ·obtain rfl:k=cells.length:=by omega
   go_wp2_with fail;go_ret;refine⟨?_,rfl⟩;unfold rH;rw[if_neg (by have:=HP.out;omega)];rfl
theorem TZ (h:kZ w base hb v cells) (hl:cells.length<=4194304) (x:Int) {y:Int} (hy:look cells (fun _=>0) x=y):
  Calls Tryz.prog 79 #[.pointer (some ⟨hb,0,none⟩),.int .i64 x] w fun e w'=>e= .returned (.int .i64 y)/\w'=w:=by
 subst hy;have H:=ag h;obtain⟨ao,cap,rfl⟩:=aS h.row;have c0:w.cell? ⟨hb,0,none⟩=some (.slice ao cells.length cap):=af h.blk rfl;have hrd:dH dQ w 2 (.slice ao cells.length cap) cells:=Rd.gu h.row;clear h;by_cases hp:place cells x<cells.length
 ·obtain⟨e,he⟩:=bE hp;obtain⟨g,o,rfl,_,hcs⟩:=dH.at iM hrd he;have d2:=hcs 1 _ rfl;have HL:=ag (show look cells (fun _=>0) x=e.2 from by unfold look;rw[he]);obtain⟨k,hk⟩:∃k,k=place cells x:=⟨_,rfl⟩;have HPI:=ag (show rH cells x=(k:Int) from by unfold rH;rw[if_pos hp,hk]);rw[<-hk] at d2 hp;clear hrd hcs he hk;go_in;go_wp2_with fail;refine(xL H.out hl x).mono ?_;rw[HPI.out];rintro e1 w1 ⟨rfl,rfl⟩;go_wp2_with fail;go_ret;exact⟨by rw[HL.out];rfl,rfl⟩
 ·have HL:=ag (show look cells (fun _=>0) x=0 from by unfold look;rw[List.getElem?_eq_none (by omega)]);have HPI:=ag (show rH cells x= -1 from by unfold rH;rw[if_neg hp]);clear hrd hp;go_in;go_wp2_with fail;refine(xL H.out hl x).mono ?_;rw[HPI.out];rintro e1 w1 ⟨rfl,rfl⟩;go_wp2_with fail;go_ret;exact⟨by rw[HL.out];rfl,rfl⟩
def EA (base hb:Nat) (v:Value) (cells:List (Int×Int)) (w:World) (w':World):Prop:=
 ∃v',kZ w' base hb v' cells/\bz (fun k=>k=hb\/v.ownBlock=some k) w w'/\∀g,v'.ownBlock=some g->v.ownBlock=some g\/w.heap.size<=g
theorem Rz (cells:List (Int×Int)) {k:Nat} {e:Int×Int} (he:cells[k]? =some e) (y:Int):(cells.flatMap dQ).set (k*2+1) (.int .i64 y)=(cells.set k (e.1,y)).flatMap dQ:=by
 have hk:=(bu.1 he).1;rw[Iw iM cells k _ hk];have hl:=jD iM cells;have h0:=j_ iM cells he 0 _ rfl;refine List.ext_getElem? fun j=>?_
 by_cases e1:k*2+1=j
 ·subst e1;rw[List.getElem?_set_self (by omega),List.append_assoc,List.getElem?_append_right (by rw[List.length_take];omega),List.length_take,Nat.min_eq_left (by omega)];rw[show k*2+1 - k*2=1 from by omega];rfl
 ·rw[List.getElem?_set_ne e1,List.append_assoc];rcases Nat.lt_or_ge j (k*2) with q|q
  ·rw[List.getElem?_append_left (by rw[List.length_take];omega),List.getElem?_take_of_lt q]
  ·rw[List.getElem?_append_right (by rw[List.length_take];omega),List.length_take,Nat.min_eq_left (by omega)];by_cases e2:j=k*2
   ·subst e2;rw[Nat.sub_self];rw[Nat.add_zero] at h0;rw[h0];rfl
   ·rw[List.getElem?_append_right (by show 2<=_;omega),List.getElem?_drop];congr 1
    show j=k*2+2+(j - k*2 - 2);omega
theorem TD (h:kZ w base hb v cells) (hl:cells.length<4194304) (x y:Int):
  Calls Tryz.prog 80 #[.pointer (some ⟨hb,0,none⟩),.int .i64 x,.int .i64 y] w fun e w'=>e= .returned (.tuple #[])/\EA base hb v (Da cells x y) w w':=by
 have H:=ag h;obtain⟨ao,cap,rfl⟩:=aS h.row;have c0:w.cell? ⟨hb,0,none⟩=some (.slice ao cells.length cap):=af h.blk rfl;have hrd:dH dQ w 2 (.slice ao cells.length cap) cells:=Rd.gu h.row;have RV:=ag hl;clear h;by_cases hp:place cells x<cells.length
 ·obtain⟨e,he,hex⟩:=tJ hp;obtain⟨g,cur,rfl,hbg,hgb,hcap,hcells⟩:=bX H.out.row (by omega);have R9:=ag (show Da cells x y=cells.set (place cells x) (e.1,y) from by unfold Da;rw[if_pos hp,hex]);obtain⟨k,hk⟩:∃k,k=place cells x:=⟨_,rfl⟩;have HPI:=ag (show rH cells x=(k:Int) from by unfold rH;rw[if_pos hp,hk]);rw[<-hk] at he hp R9;have d2:w.cell? ⟨g,k*2+1,none⟩=some (.int .i64 e.2):=af hgb (hcells _ _ (j_ iM cells he 1 _ rfl));have f2:w.frozen? ⟨g,k*2+1,none⟩=false:=ah hgb;have hne:=H.out.ne g rfl;have Wz:=ag (show EA base hb (.slice (some ⟨g,0,none⟩) cells.length cap) (Da cells x y) w (w.setCell ⟨g,k*2+1,none⟩ (.int .i64 y)) from by
   refine⟨_,⟨jX H.out.blk (fun q=>hne q.symm),H.out.low,?_,H.out.ne⟩,(bz.refl _ w).setCell (.inl (.inr rfl)) _,fun g hg=>.inl hg⟩;have:=zP (o:=k*2+1) H.out.row (.int .i64 y);rw[Rz cells he] at this;rw[R9.out,List.length_set];exact this)
  clear hrd he hgb hcells hk hne;go_in;go_wp2_with fail;refine(xL H.out (by have:=RV.out;omega) x).mono ?_;rw[HPI.out];rintro e1 w1 ⟨rfl,rfl⟩;go_wp2_with fail;go_end0;exact⟨rfl,Wz.out⟩
 ·have R9:=ag (show Da cells x y=cells++[(x,y)] from by unfold Da;rw[if_neg hp]);have HPI:=ag (show rH cells x= -1 from by unfold rH;rw[if_neg hp]);obtain⟨i0,hi,hz0,hz1,hz2⟩:=info_parts Um;clear hrd hp;go_in;go_wp2_with fail;refine(xL H.out (by have:=RV.out;omega) x).mono ?_;rw[HPI.out];rintro e1 w1 ⟨rfl,rfl⟩;go_wp2_with (at_builtin;refine dD _ rfl _ _ 28 rfl base 99 i0 _ 2 16 Tryz.underlying28 hi hz0 hz1 hz2 rfl (by decide) _ _ _ rfl (aX H.out.row ((bz.refl (fun _=>False) w1).alloc _) (fun _ _=>id)) ⟨w1.heap.size,0,none⟩ 1 1 (dQ (x,y)) rfl rfl ?c1 ?c2 ?c3 ?c4 ?c5 ?_)
  case c1=>exact iP (aj _ _)
  case c2=>exact WJ _
  case c3=>have:=RV.out;unfold maxLen;omega
  case c4=>have:=RV.out;omega
  case c5=>have:=H.out.low;have:=lt_of_block H.out.blk;simp;omega
  intro MX cp w2 hown jh eU;have hc:=bz.grown (S:=fun k=>(Value.slice ao cells.length cap).ownBlock=some k) ((bz.refl _ w1).alloc (.cells (dQ (x,y)).toArray 99)) eU (fun k hk=>.inl hk);have hb1:=dG hc H.out.blk (fun hk=>H.out.ne _ hk rfl);have f1:w2.frozen? ⟨hb,0,none⟩=false:=ah hb1;have f2:w2.cell? ⟨hb,0,none⟩=some (.slice ao cells.length cap):=af hb1 rfl;have Wz:=ag (show EA base hb (.slice ao cells.length cap) (Da cells x y) w1 (w2.setCell ⟨hb,0,none⟩ (.slice MX (cells.length+1) cp)) from by
   have hlt:=lt_of_block H.out.blk;have hneq:∀g,(Value.slice MX (cells.length+1) cp).ownBlock=some g->g≠hb:=fun g hg=>by
    rcases jh g hg with e|e
    ·exact H.out.ne g e
    ·omega
   refine⟨.slice MX (cells.length+1) cp,⟨ai _ hb1,H.out.low,?_,hneq⟩,(bz.dY (S:=fun k=>k=hb\/(Value.slice ao cells.length cap).ownBlock=some k) (bz.refl _ w1) hc (fun k _ hk=>.inr hk)).setCell (p:=⟨hb,0,none⟩) (.inl (.inl rfl)) _,fun g hg=>?_⟩
   ·rw[R9.out,List.length_append,List.length_singleton,List.flatMap_append];exact aX (S:=fun k=>k=hb) hown (show bz (fun k=>k=hb) w2 _ from(bz.refl (fun k=>k=hb) w2).setCell (p:=⟨hb,0,none⟩) (.inl rfl) _) (fun g hg e=>hneq g hg e)
   ·rcases jh g hg with e|e
    ·exact .inl e
    ·exact .inr (by omega))
  clear hb1 hc hown jh eU hi hz0 hz1 hz2;go_wp2_with fail;go_end0;exact⟨rfl,Wz.out⟩
end
section
variable {w w':World} {base hb:Nat} {v:Value} {cells:List (Int×Int)}
theorem Yu {l:List Ev} {f:Int->Int} (h:rX l f) {k:Nat} {e:Ev} (he:l[k]? =some e) (hk:e.k=2):sK (l.take k) f e.a=e.b:=by
 have h1:l=l.take k++([e]++l.drop (k+1)):=by
  rw[<-List.append_assoc,<-bU he,List.take_append_drop]
 rw[h1,D7,D7] at h;exact h.2.1.1 hk
theorem iQ.put {done:List Ev} (h:iQ done cells) {e:Ev} (he:e.k=3):iQ (done++[e]) (Da cells e.a e.b):=by
 unfold Da;by_cases hp:place cells e.a<cells.length
 ·rw[if_pos hp];exact h.set he hp
 ·rw[if_neg hp];exact h.more he hp
theorem VB (cells:List (Int×Int)) (x y:Int):(Da cells x y).length<=cells.length+1:=by
 unfold Da;split
 ·rw[List.length_set];omega
 ·rw[List.length_append];exact aB _
def Vq (base hb:Nat) (v:Value) (evs:List Ev) (n:Nat) (w w':World):Prop:=∃v' cells,kZ w' base hb v' cells/\iQ evs cells/\cells.length<=n/\bz (fun k=>k=hb\/v.ownBlock=some k) w w'/\∀g,v'.ownBlock=some g->v.ownBlock=some g\/w.heap.size<=g
theorem kZ.ge (h:kZ w base hb v cells):∀k,(k=hb\/v.ownBlock=some k)->base<=k:=fun k hk=>by
 rcases hk with rfl|e
 ·exact h.low
 ·exact(bO h.row e).1
theorem qM {Q9 done:List Ev} {ao:Option Addr} {cap:Nat} (th kind dN fin clock bN:Int) (r_:Bool) (h:kZ w base hb v cells) (Qf:iQ Q9 cells) (hd:∀W,bz (fun k=>k=hb\/v.ownBlock=some k) w W->dH iB W 4 (.slice ao done.length cap) done)
  (hk:∀e∈done,e.k=2\/e.k=3) (hok:rX done (sK Q9 (fun _=>0))) (hlen:cells.length+done.length<=4194304) (hbase:base<=w.heap.size):
  Calls Tryz.prog 47 #[.pointer (some ⟨hb,0,none⟩),.agg #[.int .i64 th,.int .u8 kind,.int .i64 dN,.int .i64 fin,.int .i64 clock,.int .i64 bN,.bool r_,.slice ao done.length cap]] w fun e w'=>e= .returned (.bool true)/\Vq base hb v (Q9++done) (cells.length+done.length) w w':=by
 have H:=ag h;have agc:=ag Qf;have HD:=ag hd;have HK:=ag hk;have tF:=ag hok;have HLEN:=ag hlen;have hb0:Below w.heap.size w (w.alloc (.cells #[.int .i64 th,.int .u8 kind,.int .i64 dN,.int .i64 fin,.int .i64 clock,.int .i64 bN,.bool r_,.slice ao done.length cap] 76)):=(au _ _).alloc (aB _) _;have HB0:=ag hb0;have HX0:=ag (aj w (.cells #[.int .i64 th,.int .u8 kind,.int .i64 dN,.int .i64 fin,.int .i64 clock,.int .i64 bN,.bool r_,.slice ao done.length cap] 76));have HH0:=ag (h.below hb0);have HNS:=ag (show ¬(w.heap.size=hb\/v.ownBlock=some w.heap.size) from by
  rintro(e|e)
  ·have:=lt_of_block h.blk;omega
  ·have:=(bO h.row e).2;omega)
 have Sz:=ag (show ∀k,(k=hb\/v.ownBlock=some k)->base<=k from fun k hk=>by
  rcases hk with rfl|e
  ·exact h.low
  ·exact(bO h.row e).1)
 clear h Qf hd hk hok hb0;go_in;go_wp2_with fail;obtain⟨w1,hw1⟩:∃w1,w1=w.alloc (.cells #[.int .i64 th,.int .u8 kind,.int .i64 dN,.int .i64 fin,.int .i64 clock,.int .i64 bN,.bool r_,.slice ao done.length cap] 76):=⟨_,rfl⟩;rw[<-hw1] at HB0 HX0 HH0⊢;clear hw1;have HBB:Hid (∀W,bz (fun k=>k=hb\/v.ownBlock=some k) w1 W->bz (fun k=>k=hb\/v.ownBlock=some k) w W):=ag (fun W hc=>bz.dY (bz.of_below HB0.out) hc (fun k _ hk=>hk));go_loopw [5] (fun i wr=>∃(k:Nat) (v':Value) (cs:List (Int×Int)),k<=done.length/\i= .int .i64 (k:Int)/\Hid (kZ wr base hb v' cs)/\Hid (iQ (Q9++done.take k) cs/\cs.length<=cells.length+k)/\Hid (bz (fun k=>k=hb\/v.ownBlock=some k) w1 wr)/\Hid (∀g,v'.ownBlock=some g->v.ownBlock=some g\/w1.heap.size<=g)) (fun i _=>((done.length:Int) - intOf i).toNat)
 case atStart=>exact⟨0,v,cells,by omega,rfl,HH0,ag ⟨by simpa using agc.out,by omega⟩,ag (bz.refl _ _),ag (fun g hg=>.inl hg)⟩
 case round=>
  obtain⟨k,v',cs,hk,rfl,HH,HL,HC,HV⟩:=hrel;have hx:=dG HC.out HX0.out HNS.out;have p7:wr.cell? ⟨w.heap.size,7,none⟩=some (.slice ao done.length cap):=af hx rfl;clear hx;by_cases hlt:k<done.length
  ·obtain⟨⟨Ct,ek,ea,eb⟩,he⟩:=bE hlt;obtain⟨b,off,rfl,hs1,hc⟩:=dH.at lS (HD.out wr (HBB.out wr HC.out)) he;have x0:=hc 0 _ rfl;have x1:=hc 1 _ rfl;have x2:=hc 2 _ rfl;have x3:=hc 3 _ rfl;simp only[Nat.add_zero] at x0;have hbe:Below wr.heap.size wr (wr.alloc (.cells #[.int .i64 Ct,.int .u8 ek,.int .i64 ea,.int .i64 eb] 127)):=(au _ _).alloc (aB _) _;have HE:=ag he;have Gg:=ag (show Q9++done.take (k+1)=(Q9++done.take k)++[⟨Ct,ek,ea,eb⟩] from by rw[bU he,List.append_assoc]);have HHE:=ag (HH.out.below hbe);have Lc:=ag (bz.dY (S:=fun k=>k=hb\/v.ownBlock=some k) HC.out (bz.of_below (S:=fun k=>k=hb\/v.ownBlock=some k) hbe) (fun k _ hk=>hk));have hkk:=HK.out _ (bC he);simp only at hkk;have hcl:cs.length<=4194304:=by have:=HL.out.2;omega
   have aag:cs.length<4194304:=by have:=HL.out.2;omega
   clear hc hs1 he;rcases hkk with rfl|rfl
   ·have HY:=ag (show look cs (fun _=>0) ea=eb from by
     have h1:=Yu tF.out HE.out rfl;simp only at h1;rw[<-HL.out.1.sK,w_];exact h1)
    have e2:=fun t=>ak (af (o:=2) (aj wr (.cells #[.int .i64 Ct,.int .u8 2,.int .i64 ea,.int .i64 eb] 127)) rfl) t
    have e3:=fun t=>ak (af (o:=3) (aj wr (.cells #[.int .i64 Ct,.int .u8 2,.int .i64 ea,.int .i64 eb] 127)) rfl) t
    have hbz:(eb !=eb)=false:=by simp
    have Cb:=ag hcl;clear hbe hcl aag;go_wp2_with fail;refine bG (by kernel_rfl) (by kernel_rfl) ?_;repeat (go_big_quiet_step ((first|(go_at_call 79;exact Ht (TZ (HHE.out.below (uG _ _)) Cb.out _ HY.out)))))
    refine wpQuiet_nil ?_;intro wU qZ;have LC:=ag (HHE.out.below qZ);have HCU:=ag (bz.dY (S:=fun k=>k=hb\/v.ownBlock=some k) Lc.out (bz.of_below (S:=fun k=>k=hb\/v.ownBlock=some k) qZ) (fun k _ hk=>hk));clear qZ x0 x1 x2 x3 e2 e3 p7;go_wp2_with fail;exact⟨⟨k+1,v',cs,by omega,by go_num,LC,ag ⟨by rw[Gg.out];exact HL.out.1.read (e:=⟨Ct,2,ea,eb⟩) (by simp),by have:=HL.out.2;omega⟩,HCU,HV⟩,by simp[intOf];omega⟩
   ·have Cb:=ag aag;clear hbe hcl aag;go_wp2_with fail;refine(TD HHE.out Cb.out ea eb).mono ?_;rintro e w2 ⟨rfl,v2,ZE,hc2,hv2⟩;have P8:=ag ZE;have nZ:=ag (bz.dY (S:=fun k=>k=hb\/v.ownBlock=some k) Lc.out hc2 (fun k hlt hk=>by
     rcases hk with e|e
     ·exact .inl e
     ·rcases HV.out k e with q|q
      ·exact .inr q
      ·omega))
    have HV2:=ag (show ∀g,v2.ownBlock=some g->v.ownBlock=some g\/w1.heap.size<=g from fun g hg=>by
     rcases hv2 g hg with e|e
     ·exact HV.out g e
     ·have:=Lc.out.size;exact .inr (by omega))
    clear ZE hc2 hv2 x0 x1 x2 x3 p7;go_wp2_with fail;exact⟨⟨k+1,v2,_,by omega,by go_num,P8,ag ⟨by rw[Gg.out];exact HL.out.1.put (e:=⟨Ct,3,ea,eb⟩) rfl,by have:=HL.out.2;have:=VB cs ea eb;omega⟩,nZ,HV2⟩,by simp[intOf];omega⟩
  ·obtain rfl:k=done.length:=by omega
   go_wp2_with fail;go_ret;have hl:=HL.out;rw[List.take_length] at hl;exact⟨rfl,v',cs,HH.out,hl.1,hl.2,HBB.out _ HC.out,fun g hg=>(HV.out g hg).imp id (fun e=>by have:=HB0.out.size;omega)⟩
end
section
variable {w w':World}
def iV (l:List bJ):Nat:=(l.map (fun a=>a.done.length)).sum
theorem rM (l m:List bJ):iV (l++m)=iV l+iV m:=by unfold iV;rw[List.map_append,List.sum_append]
theorem xA (a:bJ) (l:List bJ):iV (a::l)=a.done.length+iV l:=by simp[iV]
theorem We (a:bJ) (l:List bJ):iV (E9 a l)=a.done.length+iV l:=by
 unfold E9;rw[rM,xA]
 conv=>rhs;rw[<-List.take_append_drop (kH a l l.length) l,rM]
 omega
theorem Gn (l:List bJ):iV (eY l)<=iV l:=by
 have:∀(l sa:List bJ),iV (l.foldl sF sa)<=iV sa+iV l:=fun l=>by
  induction l with
  |nil=>intro sa;exact Nat.le_add_right _ _
  |cons a l ih=>
   intro sa;rw[List.foldl_cons,xA];have h1:=ih (sF sa a);have h2:iV (sF sa a)<=iV sa+a.done.length:=by
    unfold sF;split
    ·rw[We];omega
    ·omega
   omega
 have:=this l [];simpa [eY,iV] using this
theorem FB (l:List bJ) (k:Nat):iV (l.take k)<=iV l:=by
 conv=>rhs;rw[<-List.take_append_drop k l,rM]
 omega
theorem Ga {l:List bJ} {k:Nat} {a:bJ} (h:l[k]? =some a):iV (l.take (k+1))=iV (l.take k)+a.done.length:=by
 rw[bU h,rM];simp[iV]
theorem Ua (th kind dN fin clock bN:Int) (r_:Bool) (da:Value) (h1:r_=true->clock<bN) (h2:r_=false->bN=clock):
  Calls Tryz.prog 46 #[.agg #[.int .i64 th,.int .u8 kind,.int .i64 dN,.int .i64 fin,.int .i64 clock,.int .i64 bN,.bool r_,da]] w fun e w'=>e= .returned (.bool true)/\Below w.heap.size w w':=
 MC ⟨th,kind,dN,fin,clock,bN,r_,[]⟩ da h1 h2
structure SY (l:List bJ):Prop where
 placed:∀(i:Nat) x,(eY l)[i]? =some x->(x.writer=true->x.clock<x.place)/\(x.writer=false->x.place=x.clock)
 places:∀(i:Nat) x y,(eY l)[i]? =some x->(eY l)[i+1]? =some y->x.writer=true->y.writer=true->x.place≠y.place
 later:∀(i k:Nat) x y,(eY l)[i]? =some x->(eY l)[k]? =some y->i<k->¬y.fin<x.dN
 reads:∀(i:Nat) x,(eY l)[i]? =some x->rX x.done (((eY l).take i).foldl rf (fun _=>0))
 kinds:∀a∈l,∀e∈a.done,e.k=2\/e.k=3
 sum:iV l<=4194304
theorem d_.ad5 {evs:List Ev} {s:HS} {cw:List bJ} {W:Int} {m:Nat} (h:d_ evs s cw W m) (hs:iV s.aU<=4194304):SY s.aU:=
 ⟨fun i x hx=>h.placed (bC hx),fun i x y hx hy h1 h2=>h.places hx hy h1 h2,fun i k x y hx hy hik=>h.later hx hy hik,fun i x hx=>h.aa1 hx,fun a ha e he=>((h.nY a ha).evs e he).1,hs⟩
theorem AQ {ps:List (bJ×Value)} {i j:Nat} (hj:(jy (ps.map Prod.fst))[i]? =some j):∃p,ps[j]? =some p/\(eY (ps.map Prod.fst))[i]? =some p.1:=by
 have hlt:j<(ps.map Prod.fst).length:=El _ _ j (bC hj);rw[List.length_map] at hlt;obtain⟨p,hp⟩:=bE hlt;refine⟨p,hp,?_⟩;rw[<-xq,List.getElem?_map,hj];unfold jI;rw[Option.map_some,List.getElem?_map,hp];rfl
theorem KX {ao:Option Addr} {cap:Nat} {ps:List (bJ×Value)} (h:tK w (.slice ao ps.length cap) ps) (hf:∀p∈ps,xm p.1) (Kr:∀(j:Nat) a b,ps[j]? =some a->ps[j+1]? =some b->a.1.dN<b.1.dN) (hlen:ps.length<=1048576) (htot:ps.length+vD ps<=1048576) (hok:SY (ps.map Prod.fst)):
  Calls Tryz.prog 22 #[.slice ao ps.length cap] w fun e w'=>e= .returned (.tuple #[.int .i64 0,.int .i64 0])/\Below w.heap.size w w':=by
 have H:=ag h;have tF:=ag hok;have HF:=ag hf;have HI:=ag Kr;have HT:=ag htot;have HLEN:=ag hlen;clear h hok hf Kr htot;go_in;go_wp2_with fail;refine(Gc H.out HF.out HI.out hlen HT.out).mono ?_;rintro e w1 ⟨rfl,hb⟩;have HB1:=ag hb;clear hb;go_wp2_with fail;refine(Ec (H.out.below HB1.out) (by omega)).mono ?_;rintro e w2 ⟨oo,oc,rfl,ho,hb⟩;have ED:=ag ho.rd;have HB2:=ag (fe HB1.out hb);have hnl:=Aq (ps.map Prod.fst) (ps.map Prod.fst).length;rw[List.length_map] at hnl;obtain⟨n,hn⟩:∃n,n=(jy (ps.map Prod.fst)).length:=⟨_,rfl⟩;have hn2:n<=4194304:=by
  rw[hn];unfold jy;rw[List.length_map];omega
 have HN:=ag hn;have hzl:(zs (jy (ps.map Prod.fst))).length=n:=by rw[GX,<-hn]
 have HZL:=ag hzl;rw[<-hn];clear ho hb hn hnl hzl;go_wp2_with fail;have HA2:=ag (H.out.below HB2.out);have HH3:=ag (show kZ (w2.alloc (.cells #[.slice none 0 0] 121)) w2.heap.size w2.heap.size (.slice none 0 0) [] from⟨aj _ _,aB _,World.ownsRow_nil _ _ _ _,fun g hg=>by simp[Value.ownBlock] at hg⟩);have HB3:Hid (Below w2.heap.size w2 (w2.alloc (.cells #[.slice none 0 0] 121))):=ag ((au _ _).alloc (aB _) _);generalize w2.alloc (.cells #[.slice none 0 0] 121)=w3 at HH3 HB3⊢;go_loopw [7] (fun i wr=>∃(k:Nat) (v:Value) (cells:List (Int×Int)),k<=n/\i= .int .i64 (k:Int)/\Hid (kZ wr w2.heap.size w2.heap.size v cells)/\Hid (iQ (((eY (ps.map Prod.fst)).take k).flatMap bJ.done) cells/\cells.length<=iV ((eY (ps.map Prod.fst)).take k))/\Hid (Below w2.heap.size w2 wr)) (fun i _=>((n:Int) - intOf i).toNat)
 case atStart=>exact⟨0,_,[],by omega,rfl,HH3,ag ⟨iQ.nil,Nat.zero_le _⟩,HB3⟩
 case round=>
  obtain⟨k,v,cells,hk,rfl,HH,HL,HW⟩:=hrel;by_cases hlt:k<n
  ·obtain⟨j,hj⟩:=bE (l:=jy (ps.map Prod.fst)) (k:=k) (by have:=HN.out;omega);obtain⟨⟨x,dv⟩,hp,hx⟩:=AQ hj;obtain⟨pK,iG,hdv⟩:=Rd.shape (HA2.out.evs _ (bC hp));simp only at hdv;subst hdv;have Cc:=ag (show ∀W,Below w2.heap.size w2 W->dH iB W 4 (.slice pK x.done.length iG) x.done from fun W hW=>Rd.below (HA2.out.evs _ (bC hp)) hW);have hpl:=tF.out.placed k x hx;have VK:=ag (tF.out.reads k x hx);have HLA:=ag (fun i y hy hik=>tF.out.later k i x y hx hy hik);have L6:=ag (tF.out.kinds x (by
    have:=bC hx;exact((jN _ _).1 this).1))
   have HX:=ag hx;have hsum:cells.length+x.done.length<=4194304:=by
    have h1:=HL.out.2;have h2:iV ((eY (ps.map Prod.fst)).take (k+1))=iV ((eY (ps.map Prod.fst)).take k)+x.done.length:=Ga hx;have h3:=FB (eY (ps.map Prod.fst)) (k+1);have h4:=Gn (ps.map Prod.fst);have h5:=tF.out.sum;omega
   have KY:=ag hsum;have JG:=ag (show iV ((eY (ps.map Prod.fst)).take (k+1))=iV ((eY (ps.map Prod.fst)).take k)+x.done.length from Ga hx);have Lj:=ag (show((eY (ps.map Prod.fst)).take (k+1)).flatMap bJ.done=((eY (ps.map Prod.fst)).take k).flatMap bJ.done++x.done from by rw[bU hx,List.flatMap_append];simp);obtain⟨oa,oo',eo,hso,hco⟩:=dH.at oD (Rd.below ED.out HW.out) (show(zs (jy (ps.map Prod.fst)))[k]? =some (j:Int) from by unfold zs;rw[List.getElem?_map,hj];rfl);subst eo;rw[HZL.out] at ED;have z0:=hco 0 _ rfl;simp only[Nat.mul_one,Nat.add_zero] at z0;obtain⟨b,off,rfl,hs1,hc⟩:=dH.at (enc:=enc2) iJ (Rd.below HA2.out.row HW.out) hp;have x0:=hc 0 _ rfl;have x1:=hc 1 _ rfl;have x2:=hc 2 _ rfl;have x3:=hc 3 _ rfl;have x4:=hc 4 _ rfl;have x5:=hc 5 _ rfl;have x6:=hc 6 _ rfl;have x7:=hc 7 _ rfl;simp only[Nat.add_zero] at x0;obtain⟨th,kind,dN,fin,clock,bN,r_,done⟩:=x;simp only at hpl VK HLA L6 Cc hsum KY JG Lj x0 x1 x2 x3 x4 x5 x6 x7;have R9:=ag (fun W:World=>Ua (w:=W) th kind dN fin clock bN r_ (.slice pK done.length iG) hpl.1 hpl.2);have hjl:j<ps.length:=(bu.1 hp).1;clear hc hs1 hco hso hpl hj hp hsum hx;by_cases hk0:k=0
   ·subst hk0;simp only[Nat.add_zero] at z0;have hbx:Below wr.heap.size wr (wr.alloc (.cells #[.int .i64 th,.int .u8 kind,.int .i64 dN,.int .i64 fin,.int .i64 clock,.int .i64 bN,.bool r_,.slice pK done.length iG] 76)):=(au _ _).alloc (aB _) _;have vP:=ag (HW.out.trans (hbx.mono HW.out.size));have Tp:=ag (HH.out.below hbx);have JR:=ag (aj wr (.cells #[.int .i64 th,.int .u8 kind,.int .i64 dN,.int .i64 fin,.int .i64 clock,.int .i64 bN,.bool r_,.slice pK done.length iG] 76));have q0:=fun t=>ak (af (o:=0) (aj wr (.cells #[.int .i64 th,.int .u8 kind,.int .i64 dN,.int .i64 fin,.int .i64 clock,.int .i64 bN,.bool r_,.slice pK done.length iG] 76)) rfl) t
    have q1:=fun t=>ak (af (o:=1) (aj wr (.cells #[.int .i64 th,.int .u8 kind,.int .i64 dN,.int .i64 fin,.int .i64 clock,.int .i64 bN,.bool r_,.slice pK done.length iG] 76)) rfl) t
    have q2:=fun t=>ak (af (o:=2) (aj wr (.cells #[.int .i64 th,.int .u8 kind,.int .i64 dN,.int .i64 fin,.int .i64 clock,.int .i64 bN,.bool r_,.slice pK done.length iG] 76)) rfl) t
    have q3:=fun t=>ak (af (o:=3) (aj wr (.cells #[.int .i64 th,.int .u8 kind,.int .i64 dN,.int .i64 fin,.int .i64 clock,.int .i64 bN,.bool r_,.slice pK done.length iG] 76)) rfl) t
    have q4:=fun t=>ak (af (o:=4) (aj wr (.cells #[.int .i64 th,.int .u8 kind,.int .i64 dN,.int .i64 fin,.int .i64 clock,.int .i64 bN,.bool r_,.slice pK done.length iG] 76)) rfl) t
    have q5:=fun t=>ak (af (o:=5) (aj wr (.cells #[.int .i64 th,.int .u8 kind,.int .i64 dN,.int .i64 fin,.int .i64 clock,.int .i64 bN,.bool r_,.slice pK done.length iG] 76)) rfl) t
    have q6:=fun t=>ak (af (o:=6) (aj wr (.cells #[.int .i64 th,.int .u8 kind,.int .i64 dN,.int .i64 fin,.int .i64 clock,.int .i64 bN,.bool r_,.slice pK done.length iG] 76)) rfl) t
    have q7:=fun t=>ak (af (o:=7) (aj wr (.cells #[.int .i64 th,.int .u8 kind,.int .i64 dN,.int .i64 fin,.int .i64 clock,.int .i64 bN,.bool r_,.slice pK done.length iG] 76)) rfl) t
    clear hbx;go_wp2_with fail;refine bG (by kernel_rfl) (by kernel_rfl) ?_;repeat (go_big_quiet_step ((first|(go_at_call 46;exact kQ (R9.out _)))))
    refine wpQuiet_nil ?_;intro wU qZ;have HU:=ag (vP.out.trans (qZ.mono vP.out.size));have LC:=ag (Tp.out.below qZ);have Lt:=ag (blk qZ JR.out);clear qZ q0 q1 q2 q3 q4 q5 q6 q7 x0 x1 x2 x3 x4 x5 x6 x7 z0;go_wp2_with fail;go_loopw [9] (fun vi wr=>∃i':Nat,0<i'/\i'<=n/\vi= .int .i64 (i':Int)/\Hid (Below wU.heap.size wU wr)) (fun i _=>((n:Int) - intOf i).toNat)
    case atStart=>exact⟨0+1,by omega,by omega,by go_num,ag (au _ _)⟩
    case round=>
     obtain⟨i9,hi1,hi2,rfl,HR⟩:=hrel;have uK:=ag (HU.out.trans (HR.out.mono HU.out.size));by_cases hin:i9<n
     ·obtain⟨j2,hj2⟩:=bE (l:=jy (ps.map Prod.fst)) (k:=i9) (by have:=HN.out;omega);obtain⟨⟨y,du⟩,hp2,hy⟩:=AQ hj2;have Zc:=HLA.out i9 y hy hi1;obtain⟨oa2,oo2,TR,Md,EK⟩:=dH.at oD (Rd.below ED.out uK.out) (show(zs (jy (ps.map Prod.fst)))[i9]? =some (j2:Int) from by unfold zs;rw[List.getElem?_map,hj2];rfl);simp only[bH,Addr.mk.injEq,and_true] at TR;obtain⟨rfl,rfl⟩:=TR;have z2:=fun t=>ak (EK 0 _ rfl) t
      simp only[Nat.mul_one,Nat.add_zero] at z2;obtain⟨b2,NN,e2,hs2,hc2⟩:=dH.at (enc:=enc2) iJ (Rd.below HA2.out.row uK.out) hp2;simp only[bH,Addr.mk.injEq,and_true] at e2;obtain⟨rfl,rfl⟩:=e2;have y3:=fun t=>ak (hc2 3 _ rfl) t
      have q2:=fun t=>ak (af (o:=2) (blk HR.out Lt.out) rfl) t
      have ZP:j2<ps.length:=(bu.1 hp2).1;clear hc2 hs2 EK Md hj2 hp2 hy;go_wp2_with fail;refine bG (by kernel_rfl) (by kernel_rfl) ?_;repeat (go_big_quiet_step (fail))
      refine wpQuiet_nil ?_;intro wV SQ;have HV:=ag (HR.out.trans (SQ.mono HR.out.size));clear SQ z2 y3 q2;go_wp2_with fail;exact⟨⟨i9+1,by omega,by omega,by go_num,HV⟩,by simp[intOf];omega⟩
     ·obtain rfl:i9=n:=by omega
      have hbl:=blk HR.out Lt.out;have q0:=af (o:=0) hbl rfl;have q1:=af (o:=1) hbl rfl;have q2:=af (o:=2) hbl rfl;have q3:=af (o:=3) hbl rfl;have q4:=af (o:=4) hbl rfl;have q5:=af (o:=5) hbl rfl;have q6:=af (o:=6) hbl rfl;have q7:=af (o:=7) hbl rfl;have MG:=ag (LC.out.below HR.out);clear hbl;go_wp2_with fail;clear q0 q1 q2 q3 q4 q5 q6 q7;refine(qM th kind dN fin clock bN r_ MG.out HL.out.1 (fun W hW=>Cc.out W (uK.out.trans (hW.iL uK.out.size MG.out.ge))) L6.out (by rw[zw];exact VK.out) KY.out uK.out.size).mono ?_;rintro e w9 ⟨rfl,v9,kT,Pb,O4,WL,FL, -⟩;have Yg:=ag Pb;have yh:=ag (uK.out.trans (FL.iL uK.out.size MG.out.ge));have X_:=ag (show iQ (((eY (ps.map Prod.fst)).take (0+1)).flatMap bJ.done) kT/\kT.length<=iV ((eY (ps.map Prod.fst)).take (0+1)) from⟨by rw[Lj.out];exact O4,by rw[JG.out];have:=HL.out.2;omega⟩);clear Pb O4 WL FL;go_wp2_with fail;exact⟨⟨0+1,v9,kT,by omega,by go_num,Yg,X_,yh⟩,by simp[intOf];omega⟩
   ·obtain⟨i,rfl⟩:∃q,k=q+1:=⟨k - 1,by omega⟩;obtain⟨j1,hj1⟩:=bE (l:=jy (ps.map Prod.fst)) (k:=i) (by have:=HN.out;omega);obtain⟨⟨y,du⟩,hp1,hy⟩:=AQ hj1;have Fe:=ag (fun h1 h2=>tF.out.places i y _ hy HX.out h1 h2);simp only at Fe;cases r_ with
    |false=>
     have hbx:Below wr.heap.size wr (wr.alloc (.cells #[.int .i64 th,.int .u8 kind,.int .i64 dN,.int .i64 fin,.int .i64 clock,.int .i64 bN,.bool false,.slice pK done.length iG] 76)):=(au _ _).alloc (aB _) _;obtain⟨oa1,oo1,eo1,aaG,VO⟩:=dH.at oD (Rd.below (Rd.below ED.out HW.out) hbx) (show(zs (jy (ps.map Prod.fst)))[i]? =some (j1:Int) from by unfold zs;rw[List.getElem?_map,hj1];rfl);simp only[bH,Addr.mk.injEq,and_true] at eo1;obtain⟨rfl,rfl⟩:=eo1;have z1:=fun t=>ak (VO 0 _ rfl) t
     simp only[Nat.mul_one,Nat.add_zero] at z1;obtain⟨b1,af8,e1,hs1,hc1⟩:=dH.at (enc:=enc2) iJ (Rd.below (Rd.below HA2.out.row HW.out) hbx) hp1;simp only[bH,Addr.mk.injEq,and_true] at e1;obtain⟨rfl,rfl⟩:=e1;have y5:=fun t=>ak (hc1 5 _ rfl) t
     have y6:=fun t=>ak (hc1 6 _ rfl) t
     have hi1:((i:Int)+1) - 1=(i:Int):=by omega
     have hiw:IntKind.i64.wrap (i:Int)=(i:Int):=IntWalk.i64_in _ (by omega);have hi0:(0:Int)<(i:Int)+1:=by omega
     have afK:j1<ps.length:=(bu.1 hp1).1;clear hbx hc1 hs1 VO aaG hj1 hp1 hy;have hbx:Below wr.heap.size wr (wr.alloc (.cells #[.int .i64 th,.int .u8 kind,.int .i64 dN,.int .i64 fin,.int .i64 clock,.int .i64 bN,.bool false,.slice pK done.length iG] 76)):=(au _ _).alloc (aB _) _;have vP:=ag (HW.out.trans (hbx.mono HW.out.size));have Tp:=ag (HH.out.below hbx);have JR:=ag (aj wr (.cells #[.int .i64 th,.int .u8 kind,.int .i64 dN,.int .i64 fin,.int .i64 clock,.int .i64 bN,.bool false,.slice pK done.length iG] 76));have q0:=fun t=>ak (af (o:=0) (aj wr (.cells #[.int .i64 th,.int .u8 kind,.int .i64 dN,.int .i64 fin,.int .i64 clock,.int .i64 bN,.bool false,.slice pK done.length iG] 76)) rfl) t
     have q1:=fun t=>ak (af (o:=1) (aj wr (.cells #[.int .i64 th,.int .u8 kind,.int .i64 dN,.int .i64 fin,.int .i64 clock,.int .i64 bN,.bool false,.slice pK done.length iG] 76)) rfl) t
     have q2:=fun t=>ak (af (o:=2) (aj wr (.cells #[.int .i64 th,.int .u8 kind,.int .i64 dN,.int .i64 fin,.int .i64 clock,.int .i64 bN,.bool false,.slice pK done.length iG] 76)) rfl) t
     have q3:=fun t=>ak (af (o:=3) (aj wr (.cells #[.int .i64 th,.int .u8 kind,.int .i64 dN,.int .i64 fin,.int .i64 clock,.int .i64 bN,.bool false,.slice pK done.length iG] 76)) rfl) t
     have q4:=fun t=>ak (af (o:=4) (aj wr (.cells #[.int .i64 th,.int .u8 kind,.int .i64 dN,.int .i64 fin,.int .i64 clock,.int .i64 bN,.bool false,.slice pK done.length iG] 76)) rfl) t
     have q5:=fun t=>ak (af (o:=5) (aj wr (.cells #[.int .i64 th,.int .u8 kind,.int .i64 dN,.int .i64 fin,.int .i64 clock,.int .i64 bN,.bool false,.slice pK done.length iG] 76)) rfl) t
     have q6:=fun t=>ak (af (o:=6) (aj wr (.cells #[.int .i64 th,.int .u8 kind,.int .i64 dN,.int .i64 fin,.int .i64 clock,.int .i64 bN,.bool false,.slice pK done.length iG] 76)) rfl) t
     have q7:=fun t=>ak (af (o:=7) (aj wr (.cells #[.int .i64 th,.int .u8 kind,.int .i64 dN,.int .i64 fin,.int .i64 clock,.int .i64 bN,.bool false,.slice pK done.length iG] 76)) rfl) t
     clear hbx;go_wp2_with fail;refine bG (by kernel_rfl) (by kernel_rfl) ?_;repeat (go_big_quiet_step ((first|(go_at_call 46;exact kQ (R9.out _)))))
     refine wpQuiet_nil ?_;intro wU qZ;have HU:=ag (vP.out.trans (qZ.mono vP.out.size));have LC:=ag (Tp.out.below qZ);have Lt:=ag (blk qZ JR.out);clear qZ q0 q1 q2 q3 q4 q5 q6 q7 x0 x1 x2 x3 x4 x5 x6 x7 z0 z1 y5 y6 hi1 hiw hi0;go_wp2_with fail;go_loopw [9] (fun vi wr=>∃i':Nat,i+1<i'/\i'<=n/\vi= .int .i64 (i':Int)/\Hid (Below wU.heap.size wU wr)) (fun i _=>((n:Int) - intOf i).toNat)
     case atStart=>exact⟨i+1+1,by omega,by omega,by go_num,ag (au _ _)⟩
     case round=>
      obtain⟨i9,hi1,hi2,rfl,HR⟩:=hrel;have uK:=ag (HU.out.trans (HR.out.mono HU.out.size));by_cases hin:i9<n
      ·obtain⟨j2,hj2⟩:=bE (l:=jy (ps.map Prod.fst)) (k:=i9) (by have:=HN.out;omega);obtain⟨⟨y,du⟩,hp2,hy⟩:=AQ hj2;have Zc:=HLA.out i9 y hy hi1;obtain⟨oa2,oo2,TR,Md,EK⟩:=dH.at oD (Rd.below ED.out uK.out) (show(zs (jy (ps.map Prod.fst)))[i9]? =some (j2:Int) from by unfold zs;rw[List.getElem?_map,hj2];rfl);simp only[bH,Addr.mk.injEq,and_true] at TR;obtain⟨rfl,rfl⟩:=TR;have z2:=fun t=>ak (EK 0 _ rfl) t
       simp only[Nat.mul_one,Nat.add_zero] at z2;obtain⟨b2,NN,e2,hs2,hc2⟩:=dH.at (enc:=enc2) iJ (Rd.below HA2.out.row uK.out) hp2;simp only[bH,Addr.mk.injEq,and_true] at e2;obtain⟨rfl,rfl⟩:=e2;have y3:=fun t=>ak (hc2 3 _ rfl) t
       have q2:=fun t=>ak (af (o:=2) (blk HR.out Lt.out) rfl) t
       have ZP:j2<ps.length:=(bu.1 hp2).1;clear hc2 hs2 EK Md hj2 hp2 hy;go_wp2_with fail;refine bG (by kernel_rfl) (by kernel_rfl) ?_;repeat (go_big_quiet_step (fail))
       refine wpQuiet_nil ?_;intro wV SQ;have HV:=ag (HR.out.trans (SQ.mono HR.out.size));clear SQ z2 y3 q2;go_wp2_with fail;exact⟨⟨i9+1,by omega,by omega,by go_num,HV⟩,by simp[intOf];omega⟩
      ·obtain rfl:i9=n:=by omega
       have hbl:=blk HR.out Lt.out;have q0:=af (o:=0) hbl rfl;have q1:=af (o:=1) hbl rfl;have q2:=af (o:=2) hbl rfl;have q3:=af (o:=3) hbl rfl;have q4:=af (o:=4) hbl rfl;have q5:=af (o:=5) hbl rfl;have q6:=af (o:=6) hbl rfl;have q7:=af (o:=7) hbl rfl;have MG:=ag (LC.out.below HR.out);clear hbl;go_wp2_with fail;clear q0 q1 q2 q3 q4 q5 q6 q7;refine(qM th kind dN fin clock bN false MG.out HL.out.1 (fun W hW=>Cc.out W (uK.out.trans (hW.iL uK.out.size MG.out.ge))) L6.out (by rw[zw];exact VK.out) KY.out uK.out.size).mono ?_;rintro e w9 ⟨rfl,v9,kT,Pb,O4,WL,FL, -⟩;have Yg:=ag Pb;have yh:=ag (uK.out.trans (FL.iL uK.out.size MG.out.ge));have X_:=ag (show iQ (((eY (ps.map Prod.fst)).take (i+1+1)).flatMap bJ.done) kT/\kT.length<=iV ((eY (ps.map Prod.fst)).take (i+1+1)) from⟨by rw[Lj.out];exact O4,by rw[JG.out];have:=HL.out.2;omega⟩);clear Pb O4 WL FL;go_wp2_with fail;exact⟨⟨i+1+1,v9,kT,by omega,by go_num,Yg,X_,yh⟩,by simp[intOf];omega⟩
    |true=>
     have hbx:Below wr.heap.size wr (wr.alloc (.cells #[.int .i64 th,.int .u8 kind,.int .i64 dN,.int .i64 fin,.int .i64 clock,.int .i64 bN,.bool true,.slice pK done.length iG] 76)):=(au _ _).alloc (aB _) _;obtain⟨oa1,oo1,eo1,aaG,VO⟩:=dH.at oD (Rd.below (Rd.below ED.out HW.out) hbx) (show(zs (jy (ps.map Prod.fst)))[i]? =some (j1:Int) from by unfold zs;rw[List.getElem?_map,hj1];rfl);simp only[bH,Addr.mk.injEq,and_true] at eo1;obtain⟨rfl,rfl⟩:=eo1;have z1:=fun t=>ak (VO 0 _ rfl) t
     simp only[Nat.mul_one,Nat.add_zero] at z1;obtain⟨b1,af8,e1,hs1,hc1⟩:=dH.at (enc:=enc2) iJ (Rd.below (Rd.below HA2.out.row HW.out) hbx) hp1;simp only[bH,Addr.mk.injEq,and_true] at e1;obtain⟨rfl,rfl⟩:=e1;have y5:=fun t=>ak (hc1 5 _ rfl) t
     have y6:=fun t=>ak (hc1 6 _ rfl) t
     have hi1:((i:Int)+1) - 1=(i:Int):=by omega
     have hiw:IntKind.i64.wrap (i:Int)=(i:Int):=IntWalk.i64_in _ (by omega);have hi0:(0:Int)<(i:Int)+1:=by omega
     have afK:j1<ps.length:=(bu.1 hp1).1;clear hbx hc1 hs1 VO aaG hj1 hp1 hy;obtain⟨yth,ahm,ajz,ai2,afH,abz,agl,ahl⟩:=y;simp only at Fe y5 y6;cases agl with
     |false=>
      have hbx:Below wr.heap.size wr (wr.alloc (.cells #[.int .i64 th,.int .u8 kind,.int .i64 dN,.int .i64 fin,.int .i64 clock,.int .i64 bN,.bool true,.slice pK done.length iG] 76)):=(au _ _).alloc (aB _) _;have vP:=ag (HW.out.trans (hbx.mono HW.out.size));have Tp:=ag (HH.out.below hbx);have JR:=ag (aj wr (.cells #[.int .i64 th,.int .u8 kind,.int .i64 dN,.int .i64 fin,.int .i64 clock,.int .i64 bN,.bool true,.slice pK done.length iG] 76));have q0:=fun t=>ak (af (o:=0) (aj wr (.cells #[.int .i64 th,.int .u8 kind,.int .i64 dN,.int .i64 fin,.int .i64 clock,.int .i64 bN,.bool true,.slice pK done.length iG] 76)) rfl) t
      have q1:=fun t=>ak (af (o:=1) (aj wr (.cells #[.int .i64 th,.int .u8 kind,.int .i64 dN,.int .i64 fin,.int .i64 clock,.int .i64 bN,.bool true,.slice pK done.length iG] 76)) rfl) t
      have q2:=fun t=>ak (af (o:=2) (aj wr (.cells #[.int .i64 th,.int .u8 kind,.int .i64 dN,.int .i64 fin,.int .i64 clock,.int .i64 bN,.bool true,.slice pK done.length iG] 76)) rfl) t
      have q3:=fun t=>ak (af (o:=3) (aj wr (.cells #[.int .i64 th,.int .u8 kind,.int .i64 dN,.int .i64 fin,.int .i64 clock,.int .i64 bN,.bool true,.slice pK done.length iG] 76)) rfl) t
      have q4:=fun t=>ak (af (o:=4) (aj wr (.cells #[.int .i64 th,.int .u8 kind,.int .i64 dN,.int .i64 fin,.int .i64 clock,.int .i64 bN,.bool true,.slice pK done.length iG] 76)) rfl) t
      have q5:=fun t=>ak (af (o:=5) (aj wr (.cells #[.int .i64 th,.int .u8 kind,.int .i64 dN,.int .i64 fin,.int .i64 clock,.int .i64 bN,.bool true,.slice pK done.length iG] 76)) rfl) t
      have q6:=fun t=>ak (af (o:=6) (aj wr (.cells #[.int .i64 th,.int .u8 kind,.int .i64 dN,.int .i64 fin,.int .i64 clock,.int .i64 bN,.bool true,.slice pK done.length iG] 76)) rfl) t
      have q7:=fun t=>ak (af (o:=7) (aj wr (.cells #[.int .i64 th,.int .u8 kind,.int .i64 dN,.int .i64 fin,.int .i64 clock,.int .i64 bN,.bool true,.slice pK done.length iG] 76)) rfl) t
      clear hbx;go_wp2_with fail;refine bG (by kernel_rfl) (by kernel_rfl) ?_;repeat (go_big_quiet_step ((first|(go_at_call 46;exact kQ (R9.out _)))))
      refine wpQuiet_nil ?_;intro wU qZ;have HU:=ag (vP.out.trans (qZ.mono vP.out.size));have LC:=ag (Tp.out.below qZ);have Lt:=ag (blk qZ JR.out);clear qZ q0 q1 q2 q3 q4 q5 q6 q7 x0 x1 x2 x3 x4 x5 x6 x7 z0 z1 y5 y6 hi1 hiw hi0;go_wp2_with fail;go_loopw [9] (fun vi wr=>∃i':Nat,i+1<i'/\i'<=n/\vi= .int .i64 (i':Int)/\Hid (Below wU.heap.size wU wr)) (fun i _=>((n:Int) - intOf i).toNat)
      case atStart=>exact⟨i+1+1,by omega,by omega,by go_num,ag (au _ _)⟩
      case round=>
       obtain⟨i9,hi1,hi2,rfl,HR⟩:=hrel;have uK:=ag (HU.out.trans (HR.out.mono HU.out.size));by_cases hin:i9<n
       ·obtain⟨j2,hj2⟩:=bE (l:=jy (ps.map Prod.fst)) (k:=i9) (by have:=HN.out;omega);obtain⟨⟨y,du⟩,hp2,hy⟩:=AQ hj2;have Zc:=HLA.out i9 y hy hi1;obtain⟨oa2,oo2,TR,Md,EK⟩:=dH.at oD (Rd.below ED.out uK.out) (show(zs (jy (ps.map Prod.fst)))[i9]? =some (j2:Int) from by unfold zs;rw[List.getElem?_map,hj2];rfl);simp only[bH,Addr.mk.injEq,and_true] at TR;obtain⟨rfl,rfl⟩:=TR;have z2:=fun t=>ak (EK 0 _ rfl) t
        simp only[Nat.mul_one,Nat.add_zero] at z2;obtain⟨b2,NN,e2,hs2,hc2⟩:=dH.at (enc:=enc2) iJ (Rd.below HA2.out.row uK.out) hp2;simp only[bH,Addr.mk.injEq,and_true] at e2;obtain⟨rfl,rfl⟩:=e2;have y3:=fun t=>ak (hc2 3 _ rfl) t
        have q2:=fun t=>ak (af (o:=2) (blk HR.out Lt.out) rfl) t
        have ZP:j2<ps.length:=(bu.1 hp2).1;clear hc2 hs2 EK Md hj2 hp2 hy;go_wp2_with fail;refine bG (by kernel_rfl) (by kernel_rfl) ?_;repeat (go_big_quiet_step (fail))
        refine wpQuiet_nil ?_;intro wV SQ;have HV:=ag (HR.out.trans (SQ.mono HR.out.size));clear SQ z2 y3 q2;go_wp2_with fail;exact⟨⟨i9+1,by omega,by omega,by go_num,HV⟩,by simp[intOf];omega⟩
       ·obtain rfl:i9=n:=by omega
        have hbl:=blk HR.out Lt.out;have q0:=af (o:=0) hbl rfl;have q1:=af (o:=1) hbl rfl;have q2:=af (o:=2) hbl rfl;have q3:=af (o:=3) hbl rfl;have q4:=af (o:=4) hbl rfl;have q5:=af (o:=5) hbl rfl;have q6:=af (o:=6) hbl rfl;have q7:=af (o:=7) hbl rfl;have MG:=ag (LC.out.below HR.out);clear hbl;go_wp2_with fail;clear q0 q1 q2 q3 q4 q5 q6 q7;refine(qM th kind dN fin clock bN true MG.out HL.out.1 (fun W hW=>Cc.out W (uK.out.trans (hW.iL uK.out.size MG.out.ge))) L6.out (by rw[zw];exact VK.out) KY.out uK.out.size).mono ?_;rintro e w9 ⟨rfl,v9,kT,Pb,O4,WL,FL, -⟩;have Yg:=ag Pb;have yh:=ag (uK.out.trans (FL.iL uK.out.size MG.out.ge));have X_:=ag (show iQ (((eY (ps.map Prod.fst)).take (i+1+1)).flatMap bJ.done) kT/\kT.length<=iV ((eY (ps.map Prod.fst)).take (i+1+1)) from⟨by rw[Lj.out];exact O4,by rw[JG.out];have:=HL.out.2;omega⟩);clear Pb O4 WL FL;go_wp2_with fail;exact⟨⟨i+1+1,v9,kT,by omega,by go_num,Yg,X_,yh⟩,by simp[intOf];omega⟩
     |true=>
      have hpp:(abz==bN)=false:=by
       have:=Fe.out;simpa using this
      have hbx:Below wr.heap.size wr (wr.alloc (.cells #[.int .i64 th,.int .u8 kind,.int .i64 dN,.int .i64 fin,.int .i64 clock,.int .i64 bN,.bool true,.slice pK done.length iG] 76)):=(au _ _).alloc (aB _) _;have vP:=ag (HW.out.trans (hbx.mono HW.out.size));have Tp:=ag (HH.out.below hbx);have JR:=ag (aj wr (.cells #[.int .i64 th,.int .u8 kind,.int .i64 dN,.int .i64 fin,.int .i64 clock,.int .i64 bN,.bool true,.slice pK done.length iG] 76));have q0:=fun t=>ak (af (o:=0) (aj wr (.cells #[.int .i64 th,.int .u8 kind,.int .i64 dN,.int .i64 fin,.int .i64 clock,.int .i64 bN,.bool true,.slice pK done.length iG] 76)) rfl) t
      have q1:=fun t=>ak (af (o:=1) (aj wr (.cells #[.int .i64 th,.int .u8 kind,.int .i64 dN,.int .i64 fin,.int .i64 clock,.int .i64 bN,.bool true,.slice pK done.length iG] 76)) rfl) t
      have q2:=fun t=>ak (af (o:=2) (aj wr (.cells #[.int .i64 th,.int .u8 kind,.int .i64 dN,.int .i64 fin,.int .i64 clock,.int .i64 bN,.bool true,.slice pK done.length iG] 76)) rfl) t
      have q3:=fun t=>ak (af (o:=3) (aj wr (.cells #[.int .i64 th,.int .u8 kind,.int .i64 dN,.int .i64 fin,.int .i64 clock,.int .i64 bN,.bool true,.slice pK done.length iG] 76)) rfl) t
      have q4:=fun t=>ak (af (o:=4) (aj wr (.cells #[.int .i64 th,.int .u8 kind,.int .i64 dN,.int .i64 fin,.int .i64 clock,.int .i64 bN,.bool true,.slice pK done.length iG] 76)) rfl) t
      have q5:=fun t=>ak (af (o:=5) (aj wr (.cells #[.int .i64 th,.int .u8 kind,.int .i64 dN,.int .i64 fin,.int .i64 clock,.int .i64 bN,.bool true,.slice pK done.length iG] 76)) rfl) t
      have q6:=fun t=>ak (af (o:=6) (aj wr (.cells #[.int .i64 th,.int .u8 kind,.int .i64 dN,.int .i64 fin,.int .i64 clock,.int .i64 bN,.bool true,.slice pK done.length iG] 76)) rfl) t
      have q7:=fun t=>ak (af (o:=7) (aj wr (.cells #[.int .i64 th,.int .u8 kind,.int .i64 dN,.int .i64 fin,.int .i64 clock,.int .i64 bN,.bool true,.slice pK done.length iG] 76)) rfl) t
      clear hbx;go_wp2_with fail;refine bG (by kernel_rfl) (by kernel_rfl) ?_;repeat (go_big_quiet_step ((first|(go_at_call 46;exact kQ (R9.out _)))))
      refine wpQuiet_nil ?_;intro wU qZ;have HU:=ag (vP.out.trans (qZ.mono vP.out.size));have LC:=ag (Tp.out.below qZ);have Lt:=ag (blk qZ JR.out);clear qZ q0 q1 q2 q3 q4 q5 q6 q7 x0 x1 x2 x3 x4 x5 x6 x7 z0 z1 y5 y6 hi1 hiw hi0;go_wp2_with fail;go_loopw [9] (fun vi wr=>∃i':Nat,i+1<i'/\i'<=n/\vi= .int .i64 (i':Int)/\Hid (Below wU.heap.size wU wr)) (fun i _=>((n:Int) - intOf i).toNat)
      case atStart=>exact⟨i+1+1,by omega,by omega,by go_num,ag (au _ _)⟩
      case round=>
       obtain⟨i9,hi1,hi2,rfl,HR⟩:=hrel;have uK:=ag (HU.out.trans (HR.out.mono HU.out.size));by_cases hin:i9<n
       ·obtain⟨j2,hj2⟩:=bE (l:=jy (ps.map Prod.fst)) (k:=i9) (by have:=HN.out;omega);obtain⟨⟨y,du⟩,hp2,hy⟩:=AQ hj2;have Zc:=HLA.out i9 y hy hi1;obtain⟨oa2,oo2,TR,Md,EK⟩:=dH.at oD (Rd.below ED.out uK.out) (show(zs (jy (ps.map Prod.fst)))[i9]? =some (j2:Int) from by unfold zs;rw[List.getElem?_map,hj2];rfl);simp only[bH,Addr.mk.injEq,and_true] at TR;obtain⟨rfl,rfl⟩:=TR;have z2:=fun t=>ak (EK 0 _ rfl) t
        simp only[Nat.mul_one,Nat.add_zero] at z2;obtain⟨b2,NN,e2,hs2,hc2⟩:=dH.at (enc:=enc2) iJ (Rd.below HA2.out.row uK.out) hp2;simp only[bH,Addr.mk.injEq,and_true] at e2;obtain⟨rfl,rfl⟩:=e2;have y3:=fun t=>ak (hc2 3 _ rfl) t
        have q2:=fun t=>ak (af (o:=2) (blk HR.out Lt.out) rfl) t
        have ZP:j2<ps.length:=(bu.1 hp2).1;clear hc2 hs2 EK Md hj2 hp2 hy;go_wp2_with fail;refine bG (by kernel_rfl) (by kernel_rfl) ?_;repeat (go_big_quiet_step (fail))
        refine wpQuiet_nil ?_;intro wV SQ;have HV:=ag (HR.out.trans (SQ.mono HR.out.size));clear SQ z2 y3 q2;go_wp2_with fail;exact⟨⟨i9+1,by omega,by omega,by go_num,HV⟩,by simp[intOf];omega⟩
       ·obtain rfl:i9=n:=by omega
        have hbl:=blk HR.out Lt.out;have q0:=af (o:=0) hbl rfl;have q1:=af (o:=1) hbl rfl;have q2:=af (o:=2) hbl rfl;have q3:=af (o:=3) hbl rfl;have q4:=af (o:=4) hbl rfl;have q5:=af (o:=5) hbl rfl;have q6:=af (o:=6) hbl rfl;have q7:=af (o:=7) hbl rfl;have MG:=ag (LC.out.below HR.out);clear hbl;go_wp2_with fail;clear q0 q1 q2 q3 q4 q5 q6 q7;refine(qM th kind dN fin clock bN true MG.out HL.out.1 (fun W hW=>Cc.out W (uK.out.trans (hW.iL uK.out.size MG.out.ge))) L6.out (by rw[zw];exact VK.out) KY.out uK.out.size).mono ?_;rintro e w9 ⟨rfl,v9,kT,Pb,O4,WL,FL, -⟩;have Yg:=ag Pb;have yh:=ag (uK.out.trans (FL.iL uK.out.size MG.out.ge));have X_:=ag (show iQ (((eY (ps.map Prod.fst)).take (i+1+1)).flatMap bJ.done) kT/\kT.length<=iV ((eY (ps.map Prod.fst)).take (i+1+1)) from⟨by rw[Lj.out];exact O4,by rw[JG.out];have:=HL.out.2;omega⟩);clear Pb O4 WL FL;go_wp2_with fail;exact⟨⟨i+1+1,v9,kT,by omega,by go_num,Yg,X_,yh⟩,by simp[intOf];omega⟩
  ·obtain rfl:k=n:=by omega
   go_wp2_with fail
   go_ret2
   exact⟨rfl,HB2.out.trans (HW.out.mono HB2.out.size)⟩
end
section
variable {w w':World}
def MI (done:List Ev):List Ev:=done.filter (fun e=>decide (e.k≠2/\e.k≠4))
def Ko (l:List bJ) (n:Nat) (c:Int) (o:List Nat):List Nat:=o.filter (fun j=>decide (j≠n/\(jI l j).place<=c))
def pX (l:List bJ) (n:Nat) (c:Int) (o:List Nat):List Ev:=(Ko l n c o).flatMap (fun j=>MI (jI l j).done)
theorem MR (l:List bJ) (n:Nat) (c:Int) (o:List Nat) (j:Nat):pX l n c (o++[j])=pX l n c o++(if j≠n/\(jI l j).place<=c then MI (jI l j).done else []):=by
 unfold pX Ko;rw[List.filter_append,List.flatMap_append];by_cases h:j≠n/\(jI l j).place<=c
 ·rw[if_pos h,List.filter_cons_of_pos (by simpa using h)];simp
 ·rw[if_neg h,List.filter_cons_of_neg (by simpa using h)];simp
theorem Vz (l:List bJ) (n:Nat) (c:Int) (o:List Nat):sK (pX l n c o) (fun _=>0)=((Ko l n c o).map (jI l)).foldl rf (fun _=>0):=by
 unfold pX;generalize Ko l n c o=k;have:∀(k:List Nat) (f:Int->Int),sK (k.flatMap (fun j=>MI (jI l j).done)) f=(k.map (jI l)).foldl rf f:=fun k=>by
  induction k with
  |nil=>intro f;rfl
  |cons j k ih=>
   intro f;rw[List.flatMap_cons,w_,List.map_cons,List.foldl_cons,ih,MI,Mm];rfl
 exact this k _
structure LM (l:List bJ):Prop where
 real:∀a∈l,∀b∈l,a.kind=1->a.fin<b.dN->a.place<=b.clock
 snap:∀(n:Nat) x,l[n]? =some x->rX x.done (sK (pX l n x.clock (jy l)) (fun _=>0))
theorem d_.aaH {evs:List Ev} {s:HS} {cw:List bJ} {W:Int} {m:Nat} (h:d_ evs s cw W m):LM s.aU:=by
 refine⟨h.real,fun n x hx=>?_⟩;rw[Vz];refine h.snap (bC hx) ?_ fun a ha=>?_
 ·rw[<-xq];exact List.filter_sublist.map _
 ·have h1:=(h.Jb a).1 ha;unfold Ko;rw[List.mem_map];constructor
  ·rintro⟨j,hj,rfl⟩;rw[List.mem_filter] at hj;have:=hj.2;simp only[decide_eq_true_eq] at this;exact this.2
  ·intro hp;have hm:a∈eY s.aU:=(jN _ _).2 ⟨h1.1,h1.2.1⟩;rw[<-xq,List.mem_map] at hm;obtain⟨j,hj,hja⟩:=hm;refine⟨j,?_,hja⟩;rw[List.mem_filter];refine⟨hj,?_⟩;rw[decide_eq_true_eq,hja];refine⟨fun e=>?_,hp⟩;subst e;have:jI s.aU j=x:=by unfold jI;rw[hx];rfl
   rw[this] at hja;subst hja;exact h.self ha hp
theorem Q_ {ao:Option Addr} {cap n:Nat} {ps:List (bJ×Value)} {x:bJ×Value} (h:tK w (.slice ao ps.length cap) ps) (hx:ps[n]? =some x) (hlen:ps.length<=4194304) (Zu:∀p∈ps,p.1.kind=1->p.1.fin<x.1.dN->p.1.place<=x.1.clock):
  Calls Tryz.prog 48 #[.slice ao ps.length cap,.int .i64 (n:Int)] w fun e w'=>e= .returned (.bool true)/\Below w.heap.size w w':=by
 have H:=ag h;have HX:=ag hx;have HR:=ag Zu;have hnl:n<ps.length:=(bu.1 hx).1;clear h hx Zu;go_in;go_wp2_with fail;go_loopw [5] (fun i wr=>∃k:Nat,k<=ps.length/\i= .int .i64 (k:Int)/\Hid (Below w.heap.size w wr)) (fun i _=>((ps.length:Int) - intOf i).toNat)
 case atStart=>exact⟨0,by omega,rfl,ag (au _ _)⟩
 case round=>
  obtain⟨k,hk,rfl,HW⟩:=hrel;by_cases hlt:k<ps.length
  ·obtain⟨p,hp⟩:=bE hlt;have hre:=HR.out p (bC hp);obtain⟨b,off,rfl,hs1,hc⟩:=dH.at (enc:=enc2) iJ (Rd.below H.out.row HW.out) hp;obtain⟨b2,NN,e2,hs2,hc2⟩:=dH.at (enc:=enc2) iJ (Rd.below H.out.row HW.out) HX.out;simp only[bH,Addr.mk.injEq,and_true] at e2;obtain⟨rfl,rfl⟩:=e2;have y1:=fun t=>ak (hc 1 _ rfl) t
   have y3:=fun t=>ak (hc 3 _ rfl) t
   have y5:=fun t=>ak (hc 5 _ rfl) t
   have x2:=fun t=>ak (hc2 2 _ rfl) t
   have x4:=fun t=>ak (hc2 4 _ rfl) t
   clear hc hs1 hc2 hs2 hp;by_cases hkd:p.1.kind=1
   ·have hb1:(p.1.kind==1)=true:=by simpa using hkd
    by_cases hf:p.1.fin<x.1.dN
    ·have hg:¬x.1.clock<p.1.place:=by have:=hre hkd hf;omega
     have hb2:decide (p.1.fin<x.1.dN)=true:=decide_eq_true hf;have hb3:decide (x.1.clock<p.1.place)=false:=decide_eq_false hg;clear hre hkd;go_wp2_with fail;refine bG (by kernel_rfl) (by kernel_rfl) ?_;repeat (go_big_quiet_step (fail))
     refine wpQuiet_nil ?_;intro wU qZ;have HU:=ag (HW.out.trans (qZ.mono HW.out.size));clear qZ y1 y3 y5 x2 x4;go_wp2_with fail;exact⟨⟨k+1,by omega,by go_num,HU⟩,by simp[intOf];omega⟩
    ·have hb2:decide (p.1.fin<x.1.dN)=false:=decide_eq_false hf;clear hre hkd;go_wp2_with fail;refine bG (by kernel_rfl) (by kernel_rfl) ?_;repeat (go_big_quiet_step (fail))
     refine wpQuiet_nil ?_;intro wU qZ;have HU:=ag (HW.out.trans (qZ.mono HW.out.size));clear qZ y1 y3 y5 x2 x4;go_wp2_with fail;exact⟨⟨k+1,by omega,by go_num,HU⟩,by simp[intOf];omega⟩
   ·have hb1:(p.1.kind==1)=false:=by simpa using hkd
    clear hre hkd;go_wp2_with fail;refine bG (by kernel_rfl) (by kernel_rfl) ?_;repeat (go_big_quiet_step (fail))
    refine wpQuiet_nil ?_;intro wU qZ;have HU:=ag (HW.out.trans (qZ.mono HW.out.size));clear qZ y1 y3 y5 x2 x4;go_wp2_with fail;exact⟨⟨k+1,by omega,by go_num,HU⟩,by simp[intOf];omega⟩
  ·obtain rfl:k=ps.length:=by omega
   go_wp2_with fail;go_ret;exact⟨rfl,HW.out⟩
def Nj (evs:List Ev) (n:Nat) (w:World) (e:Ending) (w':World):Prop:=∃hb v cells,e= .returned (.pointer (some ⟨hb,0,none⟩))/\kZ w' w.heap.size hb v cells/\iQ evs cells/\cells.length<=n/\Below w.heap.size w w'
theorem Jo {l:List Ev} (h:∀e∈l,e.k≠2):∀f,rX l f:=by
 induction l with
 |nil=>intro f;trivial
 |cons e l ih=>intro f;exact⟨fun q=>absurd q (h e List.mem_cons_self),ih (fun d hd=>h d (List.mem_cons_of_mem _ hd)) _⟩
theorem Nz {ao oo:Option Addr} {cap oc n:Nat} {ps:List (bJ×Value)} {ord:List Nat} {x:bJ×Value} (h:tK w (.slice ao ps.length cap) ps) (ho:dH encZ w 1 (.slice oo ord.length oc) (zs ord)) (hx:ps[n]? =some x) (hlen:ps.length<=4194304) (hol:ord.length<=4194304) (hin:∀j∈ord,j<ps.length)
  (hk:∀p∈ps,∀e∈p.1.done,e.k=2\/e.k=3) (hsum:iV (ord.map (jI (ps.map Prod.fst)))<=2097152):
  Calls Tryz.prog 49 #[.slice ao ps.length cap,.slice oo ord.length oc,.int .i64 (n:Int)] w (Nj (pX (ps.map Prod.fst) n x.1.clock ord) (iV (ord.map (jI (ps.map Prod.fst)))) w):=by
 have H:=ag h;have HO:=ag ho;have HX:=ag hx;have HIN:=ag hin;have HK:=ag hk;have HS:=ag hsum;have hnl:n<ps.length:=(bu.1 hx).1;have Sv:Hid (∀(j:Nat) p,ps[j]? =some p->jI (ps.map Prod.fst) j=p.1):=ag (fun j p hp=>by unfold jI;rw[List.getElem?_map,hp];rfl);clear h ho hx hin hk hsum;go_in;go_wp2_with fail;have HH3:=ag (show kZ (w.alloc (.cells #[.slice none 0 0] 121)) w.heap.size w.heap.size (.slice none 0 0) [] from⟨aj _ _,aB _,World.ownsRow_nil _ _ _ _,fun g hg=>by simp[Value.ownBlock] at hg⟩);have HB3:Hid (Below w.heap.size w (w.alloc (.cells #[.slice none 0 0] 121))):=ag ((au _ _).alloc (aB _) _);generalize w.alloc (.cells #[.slice none 0 0] 121)=w3 at HH3 HB3⊢;go_loopw [8] (fun i wr=>∃(k:Nat) (v:Value) (cells:List (Int×Int)),k<=ord.length/\i= .int .i64 (k:Int)/\Hid (kZ wr w.heap.size w.heap.size v cells)/\Hid (iQ (pX (ps.map Prod.fst) n x.1.clock (ord.take k)) cells/\cells.length<=iV ((ord.take k).map (jI (ps.map Prod.fst))))/\Hid (Below w.heap.size w wr)) (fun i _=>((ord.length:Int) - intOf i).toNat)
 case atStart=>exact⟨0,_,[],by omega,rfl,HH3,ag ⟨iQ.nil,Nat.zero_le _⟩,HB3⟩
 case round=>
  obtain⟨k,v,cells,hk,rfl,HH,HL,HW⟩:=hrel;by_cases hlt:k<ord.length
  ·obtain⟨j,hj⟩:=bE (l:=ord) (k:=k) hlt;have hjl:=HIN.out j (bC hj);obtain⟨⟨p,dv⟩,hp⟩:=bE (l:=ps) (k:=j) hjl;have hpn:=Sv.out j _ hp;simp only at hpn;obtain⟨pK,iG,hdv⟩:=Rd.shape (H.out.evs _ (bC hp));simp only at hdv;subst hdv;have Cc:=ag (show ∀W,Below w.heap.size w W->dH iB W 4 (.slice pK p.done.length iG) p.done from fun W hW=>Rd.below (H.out.evs _ (bC hp)) hW);have L6:=ag (show ∀e∈p.done,e.k=2\/e.k=3 from HK.out _ (bC hp));have EU:=ag (show pX (ps.map Prod.fst) n x.1.clock (ord.take (k+1))=pX (ps.map Prod.fst) n x.1.clock (ord.take k)++(if j≠n/\p.place<=x.1.clock then MI p.done else []) from by rw[bU hj,MR,hpn]);have HAS:=ag (show iV ((ord.take (k+1)).map (jI (ps.map Prod.fst)))=iV ((ord.take k).map (jI (ps.map Prod.fst)))+p.done.length from by rw[bU hj,List.map_append,rM,List.map_singleton,hpn];simp[iV]);have hal:iV ((ord.take k).map (jI (ps.map Prod.fst)))+p.done.length<=2097152:=by
    rw[<-HAS.out,List.map_take];exact Nat.le_trans (FB _ _) HS.out
   have SA:=ag hal;obtain⟨oa,oo',eo,hso,hco⟩:=dH.at oD (Rd.below HO.out HW.out) (show(zs ord)[k]? =some (j:Int) from by unfold zs;rw[List.getElem?_map,hj];rfl);subst eo;have z0:=hco 0 _ rfl;simp only[Nat.mul_one,Nat.add_zero] at z0;obtain⟨b,off,rfl,hs1,hc⟩:=dH.at (enc:=enc2) iJ (Rd.below H.out.row HW.out) hp;obtain⟨b2,NN,e2,hs2,hc2⟩:=dH.at (enc:=enc2) iJ (Rd.below H.out.row HW.out) HX.out;simp only[bH,Addr.mk.injEq,and_true] at e2;obtain⟨rfl,rfl⟩:=e2;have x0:=hc 0 _ rfl;have x1:=hc 1 _ rfl;have x2:=hc 2 _ rfl;have x3:=hc 3 _ rfl;have x4:=hc 4 _ rfl;have x5:=hc 5 _ rfl;have x6:=hc 6 _ rfl;have x7:=hc 7 _ rfl;simp only[Nat.add_zero] at x0;obtain⟨th,kind,dN,fin,clock,bN,r_,done⟩:=p;simp only at Cc L6 EU HAS SA hal x0 x1 x2 x3 x4 x5 x6 x7;have hbx:Below wr.heap.size wr (wr.alloc (.cells #[.int .i64 th,.int .u8 kind,.int .i64 dN,.int .i64 fin,.int .i64 clock,.int .i64 bN,.bool r_,.slice pK done.length iG] 76)):=(au _ _).alloc (aB _) _;have vP:=ag (HW.out.trans (hbx.mono HW.out.size));have Tp:=ag (HH.out.below hbx);have JR:=ag (aj wr (.cells #[.int .i64 th,.int .u8 kind,.int .i64 dN,.int .i64 fin,.int .i64 clock,.int .i64 bN,.bool r_,.slice pK done.length iG] 76));have u4:=fun t=>ak (cell_later hbx (hc2 4 _ rfl)) t
   have z1:=fun t=>ak (cell_later hbx z0) t
   have q5:=fun t=>ak (af (o:=5) (aj wr (.cells #[.int .i64 th,.int .u8 kind,.int .i64 dN,.int .i64 fin,.int .i64 clock,.int .i64 bN,.bool r_,.slice pK done.length iG] 76)) rfl) t
   clear hc hs1 hc2 hs2 hco hso hj hp hpn hal hbx;by_cases hjn:j=n
   ·subst hjn;have hb1:((j:Int)==(j:Int))=true:=by simp
    go_wp2_with fail;refine bG (by kernel_rfl) (by kernel_rfl) ?_;repeat (go_big_quiet_step (fail))
    refine wpQuiet_nil ?_;intro wU qZ;have HU:=ag (vP.out.trans (qZ.mono vP.out.size));have LC:=ag (Tp.out.below qZ);have Lt:=ag (blk qZ JR.out);clear qZ x0 x1 x2 x3 x4 x5 x6 x7 z0 z1 u4 q5;have O1:=ag (show iQ (pX (ps.map Prod.fst) j x.1.clock (ord.take (k+1))) cells/\cells.length<=iV ((ord.take (k+1)).map (jI (ps.map Prod.fst))) from⟨by rw[EU.out,if_neg (fun e=>e.1 rfl),List.append_nil];exact HL.out.1,by rw[HAS.out];have:=HL.out.2;omega⟩);go_wp2_with fail;exact⟨⟨k+1,v,cells,by omega,by go_num,LC,O1,HU⟩,by simp[intOf];omega⟩
   ·have hb1:((j:Int)==(n:Int))=false:=by simp;omega
    by_cases hpc:bN<=x.1.clock
    ·have hg:¬x.1.clock<bN:=by omega
     have afq:=ag (show pX (ps.map Prod.fst) n x.1.clock (ord.take (k+1))=pX (ps.map Prod.fst) n x.1.clock (ord.take k)++MI done from by rw[EU.out,if_pos ⟨hjn,hpc⟩]);go_wp2_with fail;refine bG (by kernel_rfl) (by kernel_rfl) ?_;repeat (go_big_quiet_step (fail))
     refine wpQuiet_nil ?_;intro wU qZ;have HU:=ag (vP.out.trans (qZ.mono vP.out.size));have LC:=ag (Tp.out.below qZ);have Lt:=ag (blk qZ JR.out);have HNS:=ag (show ¬(wr.heap.size=w.heap.size\/v.ownBlock=some wr.heap.size) from by
      rintro(e|e)
      ·have:=lt_of_block HH.out.blk;omega
      ·have:=(bO HH.out.row e).2;omega)
     obtain⟨bx,adr⟩:∃bx,bx=wr.heap.size:=⟨_,rfl⟩;rw[<-adr] at HNS Lt⊢;clear adr;clear qZ x0 x1 x2 x3 x4 x5 x6 x7 z0 z1 u4 q5;go_wp2_with fail;obtain⟨w8,hw8⟩:∃w8,w8=wU:=⟨_,rfl⟩;subst hw8;go_loopw [10] (fun i wr=>∃(k2:Nat) (v2:Value) (cs:List (Int×Int)),k2<=done.length/\i= .int .i64 (k2:Int)/\Hid (kZ wr w.heap.size w.heap.size v2 cs)/\Hid (iQ (pX (ps.map Prod.fst) n x.1.clock (ord.take k)++MI (done.take k2)) cs/\cs.length<=cells.length+k2)/\Hid (bz (fun g=>g=w.heap.size\/v.ownBlock=some g) w8 wr)/\Hid (∀g,v2.ownBlock=some g->v.ownBlock=some g\/w8.heap.size<=g)) (fun i _=>((done.length:Int) - intOf i).toNat)
     case atStart=>exact⟨0,v,cells,by omega,rfl,LC,ag ⟨by simpa [MI] using HL.out.1,by omega⟩,ag (bz.refl _ _),ag (fun g hg=>.inl hg)⟩
     case round=>
      obtain⟨k2,v2,cs,hk2,rfl,P8,HL2,nZ,HV2⟩:=hrel;have hxb:=dG nZ.out Lt.out HNS.out;have p7:wr.cell? ⟨bx,7,none⟩=some (.slice pK done.length iG):=af hxb rfl;have uK:=ag (HU.out.trans (nZ.out.iL HU.out.size LC.out.ge));clear hxb;have hdl:done.length<=2097152:=by have:=SA.out;omega
      by_cases hlt2:k2<done.length
      ·obtain⟨⟨Ct,ek,ea,eb⟩,he⟩:=bE hlt2;obtain⟨b3,ajH,e3,hs3,hc3⟩:=dH.at lS (Cc.out _ uK.out) he;subst e3;have v0:=hc3 0 _ rfl;have v1:=hc3 1 _ rfl;have v2':=hc3 2 _ rfl;have v3:=hc3 3 _ rfl;simp only[Nat.add_zero] at v0;have hkk:=L6.out _ (bC he);simp only at hkk;have Gg:=ag (show MI (done.take (k2+1))=MI (done.take k2)++MI [⟨Ct,ek,ea,eb⟩] from by rw[bU he];unfold MI;rw[List.filter_append]);clear hc3 hs3 he;rcases hkk with rfl|rfl
       ·have hbe:Below wr.heap.size wr (wr.alloc (.cells #[.int .i64 Ct,.int .u8 2,.int .i64 ea,.int .i64 eb] 127)):=(au _ _).alloc (aB _) _;have HHE:=ag (P8.out.below hbe);have Lc:=ag (bz.dY (S:=fun g=>g=w.heap.size\/v.ownBlock=some g) nZ.out (bz.of_below (S:=fun g=>g=w.heap.size\/v.ownBlock=some g) hbe) (fun k _ hk=>hk));clear hbe;go_wp2_with fail;exact⟨⟨k2+1,v2,cs,by omega,by go_num,HHE,ag ⟨by rw[Gg.out];simpa [MI] using HL2.out.1,by have:=HL2.out.2;omega⟩,Lc,HV2⟩,by simp[intOf];omega⟩
       ·have hbe:Below wr.heap.size wr ((wr.alloc (.cells #[.int .i64 Ct,.int .u8 3,.int .i64 ea,.int .i64 eb] 127)).alloc (.cells #[.int .i64 Ct,.int .u8 3,.int .i64 ea,.int .i64 eb] 127)):=((au _ _).alloc (aB _) _).alloc (by simp) _;have HHE:=ag (P8.out.below hbe);have Lc:=ag (bz.dY (S:=fun g=>g=w.heap.size\/v.ownBlock=some g) nZ.out (bz.of_below (S:=fun g=>g=w.heap.size\/v.ownBlock=some g) hbe) (fun k _ hk=>hk));have K6:=iT wr (.cells #[.int .i64 Ct,.int .u8 3,.int .i64 ea,.int .i64 eb] 127) (.cells #[.int .i64 Ct,.int .u8 3,.int .i64 ea,.int .i64 eb] 127);have acF:¬(wr.heap.size+1=w.heap.size\/v2.ownBlock=some (wr.heap.size+1)):=by
         rintro(e|e)
         ·have:=lt_of_block P8.out.blk;omega
         ·have:=(bO P8.out.row e).2;omega
        have VK:=ag (show ∀W,bz (fun g=>g=w.heap.size\/v2.ownBlock=some g) ((wr.alloc (.cells #[.int .i64 Ct,.int .u8 3,.int .i64 ea,.int .i64 eb] 127)).alloc (.cells #[.int .i64 Ct,.int .u8 3,.int .i64 ea,.int .i64 eb] 127)) W->dH iB W 4 (.slice (some ⟨wr.heap.size+1,0,none⟩) ([⟨Ct,3,ea,eb⟩]:List Ev).length 1) [⟨Ct,3,ea,eb⟩] from fun W hW=>YU lS (dG hW K6 acF) rfl);have O1:=ag (show cs.length+1<=4194304 from by have:=HL2.out.2;have:=HL.out.2;have:=SA.out;omega);have Pn:=ag (show w.heap.size<=((wr.alloc (.cells #[.int .i64 Ct,.int .u8 3,.int .i64 ea,.int .i64 eb] 127)).alloc (.cells #[.int .i64 Ct,.int .u8 3,.int .i64 ea,.int .i64 eb] 127)).heap.size from Nat.le_trans uK.out.size hbe.size);clear hbe K6 acF;go_wp2_with fail;refine(qM (done:=[⟨Ct,3,ea,eb⟩]) 0 0 0 0 0 0 false HHE.out HL2.out.1 VK.out (by simp) (Jo (by simp) _) O1.out Pn.out).mono ?_;rintro e w9 ⟨rfl,v9,kT,Pb,O4,WL,FL,hv9⟩;have Yg:=ag Pb;have HC9:=ag (bz.dY (S:=fun g=>g=w.heap.size\/v.ownBlock=some g) Lc.out FL (fun g hlt hk=>by
         rcases hk with e|e
         ·exact .inl e
         ·rcases HV2.out g e with q|q
          ·exact .inr q
          ·omega))
        have HV9:=ag (show ∀g,v9.ownBlock=some g->v.ownBlock=some g\/w8.heap.size<=g from fun g hg=>by
         rcases hv9 g hg with e|e
         ·exact HV2.out g e
         ·have:=Lc.out.size;exact .inr (by omega))
        have X_:=ag (show iQ (pX (ps.map Prod.fst) n x.1.clock (ord.take k)++MI (done.take (k2+1))) kT/\kT.length<=cells.length+(k2+1) from⟨by rw[Gg.out,<-List.append_assoc];simpa [MI] using O4,by have:=HL2.out.2;simp at WL;omega⟩);clear Pb O4 WL FL hv9;go_wp2_with fail;exact⟨⟨k2+1,v9,kT,by omega,by go_num,Yg,X_,HC9,HV9⟩,by simp[intOf];omega⟩
      ·obtain rfl:k2=done.length:=by omega
       have O1:=ag (show iQ (pX (ps.map Prod.fst) n x.1.clock (ord.take (k+1))) cs/\cs.length<=iV ((ord.take (k+1)).map (jI (ps.map Prod.fst))) from⟨by have:=HL2.out.1;rw[List.take_length] at this;rw[afq.out];exact this,by have:=HL2.out.2;have:=HL.out.2;rw[HAS.out];omega⟩);go_wp2_with fail;exact⟨⟨k+1,v2,cs,by omega,by go_num,P8,O1,uK⟩,by simp[intOf];omega⟩
    ·have hg:x.1.clock<bN:=by omega
     clear hpc;go_wp2_with fail;refine bG (by kernel_rfl) (by kernel_rfl) ?_;repeat (go_big_quiet_step (fail))
     refine wpQuiet_nil ?_;intro wU qZ;have HU:=ag (vP.out.trans (qZ.mono vP.out.size));have LC:=ag (Tp.out.below qZ);have Lt:=ag (blk qZ JR.out);clear qZ x0 x1 x2 x3 x4 x5 x6 x7 z0 z1 u4 q5;have O1:=ag (show iQ (pX (ps.map Prod.fst) n x.1.clock (ord.take (k+1))) cells/\cells.length<=iV ((ord.take (k+1)).map (jI (ps.map Prod.fst))) from⟨by rw[EU.out,if_neg (fun e=>absurd e.2 (by omega)),List.append_nil];exact HL.out.1,by rw[HAS.out];have:=HL.out.2;omega⟩);go_wp2_with fail;exact⟨⟨k+1,v,cells,by omega,by go_num,LC,O1,HU⟩,by simp[intOf];omega⟩
  ·obtain rfl:k=ord.length:=by omega
   have hl:=HL.out;rw[List.take_length] at hl;go_wp2_with fail;go_ret;exact⟨w.heap.size,v,cells,rfl,HH.out,hl.1,hl.2,HW.out⟩
end
section
variable {w w':World}
theorem JQ {ao:Option Addr} {cap:Nat} {ps:List (bJ×Value)} (h:tK w (.slice ao ps.length cap) ps) (hf:∀p∈ps,xm p.1) (Kr:∀(j:Nat) a b,ps[j]? =some a->ps[j+1]? =some b->a.1.dN<b.1.dN) (hlen:ps.length<=1048576) (htot:ps.length+vD ps<=1048576) (hok:LM (ps.map Prod.fst)):
  Calls Tryz.prog 23 #[.slice ao ps.length cap] w fun e w'=>e= .returned (.tuple #[.int .i64 0,.int .i64 0])/\Below w.heap.size w w':=by
 have H:=ag h;have tF:=ag hok;have HF:=ag hf;have HI:=ag Kr;have HT:=ag htot;have HLEN:=ag (show ps.length<=4194304 by omega);have HKS:=ag (show ∀p∈ps,∀e∈p.1.done,e.k=2\/e.k=3 from fun p hp e he=>((hf p hp).evs e he).2.2.2);have HAS:=ag (show iV (ps.map Prod.fst)<=2097152 from by
  have:iV (ps.map Prod.fst)=vD ps:=by unfold iV vD;rw[List.map_map];rfl
  omega)
 clear h hok hf Kr htot;go_in;go_wp2_with fail;refine(Gc H.out HF.out HI.out hlen (by have:=HT.out;omega)).mono ?_;rintro e w1 ⟨rfl,hb⟩;have HB1:=ag hb;clear hb;go_wp2_with fail;refine(Ec (H.out.below HB1.out) (by omega)).mono ?_;rintro e w2 ⟨oo,oc,rfl,ho,hb⟩;have ED:=ag (show dH encZ w2 1 (.slice oo (jy (ps.map Prod.fst)).length oc) (zs (jy (ps.map Prod.fst))) from by have:=ho.rd;rw[GX] at this;exact this);have HB2:=ag (fe HB1.out hb);have hnl:=Aq (ps.map Prod.fst) (ps.map Prod.fst).length;rw[List.length_map] at hnl;have HN2:=ag (show(jy (ps.map Prod.fst)).length<=4194304 from by unfold jy;rw[List.length_map];omega);have HIN:=ag (show ∀j∈jy (ps.map Prod.fst),j<ps.length from fun j hj=>by have:=El _ _ j hj;rw[List.length_map] at this;exact this);have HSS:=ag (show iV ((jy (ps.map Prod.fst)).map (jI (ps.map Prod.fst)))<=2097152 from by rw[xq];exact Nat.le_trans (Gn _) HAS.out);obtain⟨ord,qI⟩:∃ord,ord=jy (ps.map Prod.fst):=⟨_,rfl⟩;have acY:=ag qI;rw[<-qI] at ED HN2 HIN HSS⊢;clear ho hb hnl qI;go_wp2_with fail;go_loopw [6] (fun i wr=>∃n:Nat,n<=ps.length/\i= .int .i64 (n:Int)/\Hid (Below w2.heap.size w2 wr)) (fun i _=>((ps.length:Int) - intOf i).toNat)
 case atStart=>exact⟨0,by omega,rfl,ag (au _ _)⟩
 case round=>
  obtain⟨n,hn,rfl,HW⟩:=hrel;by_cases hlt:n<ps.length
  ·obtain⟨⟨x,dv⟩,hx⟩:=bE hlt;have HX:=ag hx;have HAW:=ag (H.out.below (HB2.out.trans (HW.out.mono HB2.out.size)));have HOW:=ag (Rd.below ED.out HW.out);obtain⟨pK,iG,hdv⟩:=Rd.shape (HAW.out.evs _ (bC hx));simp only at hdv;subst hdv;have Cc:=ag (show ∀W,Below wr.heap.size wr W->dH iB W 4 (.slice pK x.done.length iG) x.done from fun W hW=>Rd.below (HAW.out.evs _ (bC hx)) hW);have L6:=ag (HKS.out _ (bC hx));have hmem:x∈ps.map Prod.fst:=List.mem_map_of_mem (bC hx);have HRE:=ag (show ∀p∈ps,p.1.kind=1->p.1.fin<x.dN->p.1.place<=x.clock from fun p hp h1 h2=>tF.out.real _ (List.mem_map_of_mem hp) x hmem h1 h2);have hsn:=tF.out.snap n x (by rw[List.getElem?_map,hx];rfl);rw[<-acY.out] at hsn;have EU:=ag hsn;have hdl:x.done.length<=2097152:=by
    obtain⟨l1,l2,e⟩:=List.append_of_mem hmem;have:=HAS.out;rw[e,rM,xA] at this;omega
   have HDL:=ag hdl;obtain⟨b,off,rfl,hs1,hc⟩:=dH.at (enc:=enc2) iJ HAW.out.row hx;have Lc:=ag hc;obtain⟨th,kind,dN,fin,clock,bN,r_,done⟩:=x;simp only at Cc L6 HRE EU HDL hdl;have HFA:Hid (∀W,Below wr.heap.size wr W->W.cell? ⟨b,off+n*8,none⟩=some (.int .i64 th)/\W.cell? ⟨b,off+n*8+1,none⟩=some (.int .u8 kind)/\W.cell? ⟨b,off+n*8+2,none⟩=some (.int .i64 dN)/\W.cell? ⟨b,off+n*8+3,none⟩=some (.int .i64 fin)/\W.cell? ⟨b,off+n*8+4,none⟩=some (.int .i64 clock)/\W.cell? ⟨b,off+n*8+5,none⟩=some (.int .i64 bN)/\W.cell? ⟨b,off+n*8+6,none⟩=some (.bool r_)/\W.cell? ⟨b,off+n*8+7,none⟩=some (.slice pK done.length iG)):=ag (fun W hW=>⟨cell_later hW (by have:=Lc.out 0 _ rfl;rw[Nat.add_zero] at this;exact this),cell_later hW (Lc.out 1 _ rfl),cell_later hW (Lc.out 2 _ rfl),cell_later hW (Lc.out 3 _ rfl),cell_later hW (Lc.out 4 _ rfl),cell_later hW (Lc.out 5 _ rfl),cell_later hW (Lc.out 6 _ rfl),cell_later hW (Lc.out 7 _ rfl)⟩);have HU:=ag (au wr.heap.size wr);clear hc hs1 hx hmem hdl hsn;go_wp2_with fail;go_region_held3 (fun W=>W.cell? ⟨b,off+n*8,none⟩=some (.int .i64 th)/\W.cell? ⟨b,off+n*8+1,none⟩=some (.int .u8 kind)/\W.cell? ⟨b,off+n*8+2,none⟩=some (.int .i64 dN)/\W.cell? ⟨b,off+n*8+3,none⟩=some (.int .i64 fin)/\W.cell? ⟨b,off+n*8+4,none⟩=some (.int .i64 clock)/\W.cell? ⟨b,off+n*8+5,none⟩=some (.int .i64 bN)/\W.cell? ⟨b,off+n*8+6,none⟩=some (.bool r_)/\W.cell? ⟨b,off+n*8+7,none⟩=some (.slice pK done.length iG)) (refine HFA.out _ ?_<;>first|exact HU3.out|exact HU2.out|exact HU1.out|exact HU.out.drew|exact HU.out) (first
    |(go_at_call 47;refine(qM th kind dN fin clock bN r_ P8.out HL2.out.1 (fun W hW=>Cc.out W (HU2.out.trans ((hW.iL abl.out.size P8.out.ge).mono HU1.out.size))) L6.out EU.out (by have:=HL2.out.2;have:=HSS.out;have:=HDL.out;omega) abl.out.size).mono ?_;rintro e u3 ⟨rfl,v3,c3,hh3,hl3,Zg,hc3,hv3⟩;have HU3:Hid (Below wr.heap.size wr u3):=ag (HU2.out.trans ((hc3.iL abl.out.size P8.out.ge).mono HU1.out.size));clear hh3 hl3 Zg hc3 hv3;dsimp only)
    |(go_at_call 49;refine(Nz (HAW.out.below HU1.out) (Rd.below HOW.out HU1.out) HX.out HLEN.out HN2.out HIN.out HKS.out HSS.out).mono ?_;rintro e u2 ⟨hb2,v2,c2,rfl,ZE,hl2,hn2,tH⟩;have P8:=ag ZE;have HL2:=ag (And.intro hl2 hn2);have abl:=ag tH;have HU2:Hid (Below wr.heap.size wr u2):=ag (HU1.out.trans (tH.mono HU1.out.size));clear ZE hl2 hn2 tH;dsimp only)
    |(go_at_call 48;refine(Q_ (HAW.out.below (au wr.heap.size wr).drew) HX.out HLEN.out HRE.out).mono ?_;rintro e u1 ⟨rfl,tH⟩;have HU1:Hid (Below wr.heap.size wr u1):=ag ((au wr.heap.size wr).drew.trans tH);clear tH;dsimp only))
   go_wp2_with fail;exact⟨⟨n+1,by omega,by go_num,ag (HW.out.trans (HU3.out.mono HW.out.size))⟩,by simp[intOf];omega⟩
  ·obtain rfl:n=ps.length:=by omega
   go_wp2_with fail
   go_ret2
   exact⟨rfl,HB2.out.trans (HW.out.mono HB2.out.size)⟩
end
end Go.Proofs.YtopdcjimpdalpaaGreat

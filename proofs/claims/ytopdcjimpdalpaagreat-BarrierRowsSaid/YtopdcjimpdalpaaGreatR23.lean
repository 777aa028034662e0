import Derived.Test.YtopdcjimpdalpaaGreatR22
import Derived.Deep.CutRange
namespace Go.Proofs.YtopdcjimpdalpaaGreat
open Go.RowKit
set_option linter.all false
set_option maxHeartbeats 8000000
set_option maxRecDepth 100000
section
variable {w w':World}
def dU (n:Nat):List Int:=List.replicate n 32
def zL (words:Int) (n:Nat):List g_:=Sk words (dU n)
def dA (words:Int) (n:Nat):Int:=mkS words (dU n)
theorem Ff (zs:List Int):∀{s:Int×Bool},(∀z∈zs,0<=z)->qX s.1->(fin zs s).2=false->dZ (placesOf zs s)=zs:=by
 induction zs with
 |nil=>intro s _ _ _;rfl
 |cons n l ih=>
  intro s hz hs hf;have hn:=hz n List.mem_cons_self;have h1:=jA hn hs;have h2:=jA (n:=128) (by decide) h1;have h3:=jA (n:=64) (by decide) h2;have h4:=jA (n:=4096) (by decide) h3;have ht:(tk n s).1=s.1+n:=by
   unfold tk;split
   ·rename_i hc;exfalso;have:(fin l (Ik n s)).2=true:=Eh l (si (si (si (by unfold tk;rw[if_pos hc]))));unfold fin at hf;rw[this] at hf;cases hf
   ·rfl
  unfold placesOf dZ;rw[List.map_cons];congr 1
  ·unfold qE wrap64;obtain⟨a1,a2⟩:=hs;obtain⟨b1,b2⟩:=h1;simp only;rw[ht] at b1 b2⊢;omega
  ·exact ih (fun z hm=>hz z (List.mem_cons_of_mem _ hm)) h4 hf
theorem vz (n:Nat):∀z∈dU n,0<=z:=fun z hz=>by rw[(List.mem_replicate.1 hz).2];decide
theorem Bt {words:Int} {n:Nat} (h:gp words (dU n)=0):iF words (dA words n) (zL words n)/\(zL words n).length=n:=by
 have hw:=qg h;have hp:zL words n=placesOf (dU n) (s0 words):=if_pos h;have hf:(fin (dU n) (s0 words)).2=false:=by
  cases hq:(fin (dU n) (s0 words)).2 with
  |false=>rfl
  |true=>
   exfalso;unfold gp at h;split at h
   ·cases h
   ·split at h
    ·cases h
    ·split at h
     ·cases h
     ·first
      |cases h
      |(rw[if_pos hq] at h;cases h)
 have hfr:dZ (zL words n)=dU n:=by
  rw[hp];exact Ff _ (vz n) (jA (by decide) (jA hw.1 ⟨by decide,by decide⟩)) hf
 refine⟨⟨fun p hp'=>?_,by rw[hfr];exact h,by rw[hfr];rfl,by rw[hfr];rfl⟩,by rw[hp,qR];simp[dU]⟩;have:qE p∈dU n:=by rw[<-hfr];exact List.mem_map_of_mem hp'
 rw[(List.mem_replicate.1 this).2];decide
def fF (words:Int) (n i:Nat):dI:=oK words (dA words n) ((zL words n).getD i ⟨0,0,0,0,0⟩) i
def OP (words:Int) (n i:Nat) (rows:List (List Tx)):Cd:=(iy (fF words n i) rows).halt
def Fy (p:Value×List (Value×List Tx)):List Value:=[p.1]
theorem Gp:∀p,(Fy p).length=1:=fun _=>rfl
structure Bv (w:World) (v:Value) (ts:List (Value×List (Value×List Tx))):Prop where
 rows:dH Fy w 1 v ts
 each:∀p∈ts,ry w p.1 p.2
 tot:∀p∈ts,dP p.2<=262144
theorem Bv.below {v:Value} {ts:List (Value×List (Value×List Tx))} (h:Bv w v ts) (hb:Below w.heap.size w w'):Bv w' v ts:=⟨Rd.below h.rows hb,fun p hp=>(h.each p hp).below hb,h.tot⟩
def rowsOf (p:Value×List (Value×List Tx)):List (List Tx):=p.2.map Prod.snd
structure qH (w:World) (base:Nat) (cs:List (Nat×List bR)):Prop where
 blk:∀p∈cs,w.heap[p.1]? =some (.cells (p.2.flatMap b_).toArray 107 (0,0))/\base<=p.1
 inj:(cs.map Prod.fst).Nodup
def u6 (p:Nat×List bR):Value:=.slice (some ⟨p.1,0,none⟩) p.2.length p.2.length
theorem qH.below {base:Nat} {cs:List (Nat×List bR)} (h:qH w base cs) (hb:Below w.heap.size w w'):qH w' base cs:=⟨fun p hp=>⟨Go.Proofs.YtopdcjimpdalpaaGreat.blk hb (h.blk p hp).1,(h.blk p hp).2⟩,h.inj⟩
def ja (cs:List (Nat×List bR)):Nat:=(cs.map fun p=>p.2.length).sum
structure mZ (words:Int) (n:Nat) (ts:List (Value×List (Value×List Tx))) (cs:List (Nat×List bR)):Prop where
 len:cs.length=ts.length
 at_:∀(i:Nat) p t,cs[i]? =some p->ts[i]? =some t->p.2=(OP words n i (rowsOf t)).done/\(OP words n i (rowsOf t)).over=false
def O9 (words:Int) (ts:List (Value×List (Value×List Tx))):Prop:=
 4<ts.length\/gp words (dU ts.length)=3\/
 (∃i t j,ts[i]? =some t/\j<=t.2.length/\((iy (fF words ts.length i) ((t.2.take j).map Prod.snd)).over=true\/(iy (fF words ts.length i) ((t.2.take j).map Prod.snd)).halt.over=true))\/
 (∃i cs,i<=ts.length/\mZ words ts.length (ts.take i) cs/\262144<ja cs)
def Av (words:Int) (ts:List (Value×List (Value×List Tx))) (w:World) (e:Ending) (w':World):Prop:=
 Below w.heap.size w w'/\
 ((∃en,e= .returned (.tuple #[.agg #[.slice none 0 0,.int .i64 0,.slice none 0 0],.int .i64 en])/\
   (en=1/\(words<0\/∃t∈ts,jJ words t.2=false)\/en=3/\O9 words ts))\/
  ∃(co:Option Addr) (cc:Nat) (cs:List (Nat×List bR)),e= .returned (.tuple #[.agg #[.slice co cs.length cc,.int .i64 (dA words ts.length),.slice none 0 0],.int .i64 0])/\
   w'.ownsRow w.heap.size 57 1 (.slice co cs.length cc) cs.length (cs.map u6)/\qH w' w.heap.size cs/\mZ words ts.length ts cs/\ja cs<=262144/\
   gp words (dU ts.length)=0/\ts.length<=4/\∀t∈ts,jJ words t.2=true)
theorem Sa (words:Int) (n:Nat):gp words (dU n)=0\/gp words (dU n)=1/\words<0\/gp words (dU n)=3:=by
 unfold gp;split
 ·rename_i h;exact .inr (.inl ⟨rfl,h⟩)
 ·split
  ·rename_i h;obtain⟨j,hj,hn⟩:=h;exfalso;have:=vz n (nth (dU n) j) (by unfold nth;rw[List.getD_eq_getElem?_getD,eO hj];exact List.getElem_mem hj);omega
  ·split
   ·exact .inr (.inr rfl)
   ·split
    ·exact .inr (.inr rfl)
    ·exact .inl rfl
theorem uC (n:Nat):(dU n).length=n:=by simp[dU]
def yo (n k:Nat):List Value:=(List.replicate k (32:Int)++List.replicate (n - k) 0).map (Value.int .i64)
theorem PU {n k:Nat} (h:k<n):(yo n k).set k (.int .i64 32)=yo n (k+1):=by
 unfold yo;rw[show n - k=(n - (k+1))+1 from by omega,List.replicate_succ,List.map_append,List.set_append_right _ _ (by simp),List.length_map,List.length_replicate,Nat.sub_self,List.map_cons,List.set_cons_zero,List.replicate_succ',List.append_assoc,List.map_append];rfl
theorem V8 {n k:Nat} (h:k<n):(yo n k)[k]? =some (.int .i64 0):=by
 unfold yo;rw[show n - k=(n - (k+1))+1 from by omega,List.replicate_succ,List.getElem?_map,List.getElem?_append_right (by simp),List.length_replicate,Nat.sub_self];rfl
theorem mZ.snoc {words:Int} {n j:Nat} {ts:List (Value×List (Value×List Tx))} {cs:List (Nat×List bR)} {t:Value×List (Value×List Tx)} {p:Nat×List bR} (h:mZ words n (ts.take j) cs) (ht:ts[j]? =some t)
  (hp:p.2=(OP words n j (rowsOf t)).done/\(OP words n j (rowsOf t)).over=false):mZ words n (ts.take (j+1)) (cs++[p]):=by
 have hj:=(bu.1 ht).1;have hl:=h.len;rw[List.length_take,Nat.min_eq_left (by omega)] at hl;refine⟨by rw[List.length_append,List.length_take];simp;omega,fun i q u hq hu=>?_⟩;rcases Nat.lt_or_ge i j with hi|hi
 ·rw[List.getElem?_append_left (by omega)] at hq;rw[List.getElem?_take_of_lt (by omega)] at hu;exact h.at_ i q u hq (by rw[List.getElem?_take_of_lt hi];exact hu)
 ·have hi2:=(bu.1 hu).1;rw[List.length_take] at hi2;obtain rfl:i=j:=by omega
  rw[List.getElem?_append_right (by omega),hl,Nat.sub_self] at hq;simp only[List.getElem?_cons_zero,bH] at hq;subst hq;rw[List.getElem?_take_of_lt (by omega),ht] at hu;cases hu;exact hp
theorem NA:(Tryz.prog.info? 57).map (fun i=>(i.zero,i.size,i.bytes))=some (some (.slice none 0 0),1,24):=by kernel_rfl
theorem Gr {ta:Option Addr} {tc:Nat} {ts:List (Value×List (Value×List Tx))} (h:Bv w (.slice ta ts.length tc) ts) (hl:ts.length<=9000000000000) (words:Int):
  Calls Tryz.prog 11 #[.int .i64 words,.slice ta ts.length tc] w (Av words ts w):=by
 have H:=ag h;have HL:=ag hl;clear h;have Xz:=ag (aj w (.cells #[.slice none 0 0,.int .i64 0,.slice none 0 0] 30));have HB0:=ag ((au w.heap.size w).alloc (aB _) (.cells #[.slice none 0 0,.int .i64 0,.slice none 0 0] 30));obtain⟨i0,hi,hz0,hz1,hz2⟩:=info_parts Ar;by_cases h4:4<ts.length
 ·have q1:((ts.length:Int)>4):=by omega
  have H4:=ag h4;clear h4;go_in;go_wp2_with fail;refine bodyPost_ret (v:=.tuple #[.agg #[.slice none 0 0,.int .i64 0,.slice none 0 0],.int .i64 3]) (by simp[results,Tryz.results11,go_sem]) rfl ?_;exact⟨HB0.out,.inl ⟨3,rfl,.inr ⟨rfl,.inl H4.out⟩⟩⟩
 ·have q1:¬((ts.length:Int)>4):=by omega
  go_in;have H4:=ag h4;go_wp2_with (at_make;refine nA _ rfl _ _ 72 rfl 3 i0 _ 1 [.int .i64 0] Tryz.underlying72 hi hz0 hz1 rfl rfl (by decide) _ _ _ _ ts.length ts.length rfl rfl rfl rfl (aB _) (by rw[hz2];have:=H4.out;omega) (by have:=H4.out;unfold maxLen;omega) ?_);intro w1 hg1 hs1 hb1;have hb1:Below (w.alloc (.cells #[.slice none 0 0,.int .i64 0,.slice none 0 0] 30)).heap.size (w.alloc (.cells #[.slice none 0 0,.int .i64 0,.slice none 0 0] 30)) w1:=by first|exact hb1|(rw[World.size_alloc];exact hb1)
  have hg1:w1.heap[w.heap.size+1]? =_:=hg1;have hs1:w1.heap.size=w.heap.size+1+1:=hs1;obtain⟨br,hbr⟩:∃b,b=w.heap.size:=⟨_,rfl⟩;have rV:=ag hbr;have HR1:=ag (blk hb1 Xz.out);have HB1:=ag (HB0.out.trans (hb1.mono HB0.out.size));obtain⟨bf,hbf⟩:∃b,b=w.heap.size+1:=⟨_,rfl⟩;have HBF:=ag hbf;rw[<-hbf] at hg1⊢;rw[<-hbr] at HR1⊢;have HF1:=ag (show w1.heap[bf]? =some (.cells (yo ts.length 0).toArray 3 (0,0)) from by rw[hg1];unfold yo;simp);have HS1:=ag (show bf<w1.heap.size from by omega);clear hg1 hs1 hb1 hbr hbf Xz HB0 hi hz0 hz1 hz2;go_wp2_with fail;have h4':ts.length<=4:=by have:=H4.out;omega
  go_loopw [25] (fun i wr=>∃k:Nat,k<=ts.length/\i= .int .i64 (k:Int)/\Hid (wr.heap[bf]? =some (.cells (yo ts.length k).toArray 3 (0,0)))/\Hid (Below w.heap.size w wr)/\Hid (wr.heap[br]? =some (.cells #[.slice none 0 0,.int .i64 0,.slice none 0 0] 30 (0,0)))) (fun i _=>((ts.length:Int) - intOf i).toNat)
  case atStart=>exact⟨0,Nat.zero_le _,rfl,HF1,HB1,HR1⟩
  case round=>
   obtain⟨k,hk,rfl,HF,HB,HR⟩:=hrel;clear HF1 HB1 HR1;by_cases hlt:k<ts.length
   ·have f0:wr.frozen? ⟨bf,k,none⟩=false:=ah HF.out;have d0:wr.cell? ⟨bf,k,none⟩=some (.int .i64 0):=af HF.out (by rw[List.getElem?_toArray];exact V8 hlt);have HF2:=ag (show(wr.setCell ⟨bf,k,none⟩ (.int .i64 32)).heap[bf]? =some (.cells (yo ts.length (k+1)).toArray 3 (0,0)) from by
     rw[ai (o:=k) (.int .i64 32) HF.out,<-PU hlt];simp)
    have HB2:=ag (HB.out.setCell (p:=⟨bf,k,none⟩) (by have:=HBF.out;show w.heap.size<=bf;omega) (.int .i64 32));have HR2:=ag (jX (a:=⟨bf,k,none⟩) (u:=.int .i64 32) HR.out (by have:=HBF.out;have:=rV.out;show br≠bf;omega));have hw1:IntKind.i64.wrap ((k:Int)+1)=k+1:=IntWalk.i64_in _ (by omega);go_wp2_with fail;exact⟨⟨k+1,by omega,by go_num,HF2,HB2,HR2⟩,by simp[intOf];omega⟩
   ·obtain rfl:k=ts.length:=by omega
    have Zk:=ag (show Calls Tryz.prog 18 #[.int .i64 words,.slice (some ⟨bf,0,none⟩) ts.length ts.length] wr (sS words (dU ts.length) wr) from by
     have h9:=KQ words (some ⟨bf,0,none⟩) (dU ts.length) ts.length wr ⟨_,_,rfl,by rw[uC];exact aB _,fun i hi=>⟨bf,0,rfl,lt_of_block HF.out,af HF.out (by
      rw[uC] at hi;unfold yo dU nth;simp[hi])⟩⟩ (by rw[uC];omega)
     rw[uC] at h9;exact h9)
    clear hlt;go_wp2_with fail;refine Zk.out.mono ?_;intro e w2 hm;obtain⟨mo,mc,rfl,hmo,hb2⟩:=YU.of hm;have Lp:=ag (bY hmo (Nat.zero_le _));have HB2:=ag (HB.out.trans (hb2.mono HB.out.size));have HR2:=ag (blk hb2 HR.out);have HMC:=ag (Sa words ts.length);clear hm hmo hb2 Zk;obtain⟨me,hme⟩:∃x,x=gp words (dU ts.length):=⟨_,rfl⟩;obtain⟨ms,hms⟩:∃x,x=mkS words (dU ts.length):=⟨_,rfl⟩;obtain⟨mw,hmw⟩:∃x,x=SQ words (dU ts.length):=⟨_,rfl⟩;obtain⟨mp,hmp⟩:∃x,x=Sk words (dU ts.length):=⟨_,rfl⟩;rw[<-hmp] at Lp;rw[<-hme,<-hms,<-hmw,<-hmp];have YB:=ag hme;have OE:=ag hms;have HMW:=ag hmw;have ZT:=ag hmp;clear hme hms hmw hmp;by_cases he:me=0
    ·subst he;have sN:=ag ((HB2.out.alloc HB2.out.size (.cells #[.int .i64 mw,.slice mo mp.length mc,.int .i64 ms] 46)).alloc (by have:=HB2.out.size;rw[World.size_alloc];omega) (.cells #[.slice none 0 0,.int .i64 ms,.slice none 0 0] 30));have HR4:=ag (aZ (o:=(.cells #[.slice none 0 0,.int .i64 ms,.slice none 0 0] 30)) (aZ (o:=(.cells #[.int .i64 mw,.slice mo mp.length mc,.int .i64 ms] 46)) HR2.out));have Nz:=ag (aZ (o:=(.cells #[.slice none 0 0,.int .i64 ms,.slice none 0 0] 30)) (aj w2 (.cells #[.int .i64 mw,.slice mo mp.length mc,.int .i64 ms] 46)));have X6:=ag (iT w2 (.cells #[.int .i64 mw,.slice mo mp.length mc,.int .i64 ms] 46) (.cells #[.slice none 0 0,.int .i64 ms,.slice none 0 0] 30));have abw:=ag (aX Lp.out (((bz.refl (fun _=>False) w2).alloc (.cells #[.int .i64 mw,.slice mo mp.length mc,.int .i64 ms] 46)).alloc (.cells #[.slice none 0 0,.int .i64 ms,.slice none 0 0] 30)) (fun _ _ e=>e));have r_:=ag (show w2.heap.size+2<=((w2.alloc (.cells #[.int .i64 mw,.slice mo mp.length mc,.int .i64 ms] 46)).alloc (.cells #[.slice none 0 0,.int .i64 ms,.slice none 0 0] 30)).heap.size from by rw[World.size_alloc,World.size_alloc];omega);have Fe:=ag (Bt (words:=words) (n:=ts.length) YB.out.symm);go_wp2_with fail;obtain⟨bm,Pb⟩:∃b,b=w2.heap.size+1:=⟨_,rfl⟩;obtain⟨bq,hbq⟩:∃b,b=w2.heap.size:=⟨_,rfl⟩;have oD:=ag (show w.heap.size<=bq/\bm=bq+1/\br<bq from by have h1:=lt_of_block HR2.out;have h2:=HB2.out.size;omega);rw[<-Pb] at X6⊢;rw[<-hbq] at Nz r_⊢;clear Pb hbq;generalize(w2.alloc (.cells #[.int .i64 mw,.slice mo mp.length mc,.int .i64 ms] 46)).alloc (.cells #[.slice none 0 0,.int .i64 ms,.slice none 0 0] 30)=w4 at sN HR4 Nz X6 abw r_⊢;have hmw:mw=words:=by rw[HMW.out];exact if_pos YB.out.symm
     rw[hmw] at Nz⊢;have HPM:=ag (show iF words ms mp/\mp.length=ts.length from by rw[OE.out,ZT.out];exact Fe.out);clear hmw HMC;have h4':ts.length<=4:=by have:=H4.out;omega
     go_loopw [47,11] (fun i cv wr=>∃(j:Nat) (cs:List (Nat×List bR)) (co:Option Addr) (cc:Nat),j<=ts.length/\i= .int .i64 (j:Int)/\cv= .int .i64 (ja cs:Int)/\Hid (cs.length=j)/\Hid (ja cs<=262144)/\Hid (wr.heap[bm]? =some (.cells #[.slice co j cc,.int .i64 ms,.slice none 0 0] 30 (0,0)))/\Hid (wr.ownsRow (bm+1) 57 1 (.slice co j cc) j (cs.map u6))/\Hid (qH wr (bm+1) cs)/\Hid (mZ words ts.length (ts.take j) cs)/\Hid (∀t∈ts.take j,jJ words t.2=true)/\
      Hid (wr.heap[bq]? =some (.cells #[.int .i64 words,.slice mo mp.length mc,.int .i64 ms] 46 (0,0)))/\Hid (wr.heap[br]? =some (.cells #[.slice none 0 0,.int .i64 0,.slice none 0 0] 30 (0,0)))/\Hid (Below w.heap.size w wr)/\Hid (wr.ownsRow 0 87 5 (.slice mo mp.length mc) mp.length (mp.flatMap Ii))/\Hid (bm+1<=wr.heap.size)) (fun i _ _=>((ts.length:Int) - intOf i).toNat)
     case atStart=>exact⟨0,[],none,0,Nat.zero_le _,rfl,rfl,ag rfl,ag (by simp[ja]),X6,ag (World.ownsRow_nil _ _ _ _),ag ⟨fun p hp=>(by cases hp),List.nodup_nil⟩,ag ⟨by simp,fun i p t hp=>by simp at hp⟩,ag (fun t ht=>by simp at ht),Nz,HR4,sN,abw,ag (by have:=r_.out;have:=oD.out;omega)⟩
     case round=>
      obtain⟨j,cs,co,cc,hj,rfl,rfl,Cb,KY,HM,HO,KJ,HCA,tF,HQ,OZ,yh,HPR,WV⟩:=hrel;clear X6 Nz HR4 sN abw;have h4':ts.length<=4:=by have:=H4.out;omega
      by_cases hlt:j<ts.length
      ·obtain⟨⟨tv,rows⟩,hx⟩:=bE hlt;obtain⟨g9,agw,rfl,hg9,hc⟩:=dH.at Gp (Rd.below H.out.rows yh.out) hx;have d0:=hc 0 _ rfl;simp only[Nat.mul_one,Nat.add_zero] at d0;have hE:=(H.out.each _ (bC hx)).below yh.out;obtain⟨ro,rc,SC⟩:=Rd.shape hE.rows;simp only at SC;subst SC;have HE:=ag hE;have V9:=ag (show dP rows<=262144 from H.out.tot _ (bC hx));have HX:=ag hx;have Gg:=ag (bU hx);have q0:wr.cell? ⟨bq,0,none⟩=some (.int .i64 words):=af HQ.out rfl;have q1:wr.cell? ⟨bq,1,none⟩=some (.slice mo mp.length mc):=af HQ.out rfl;have q2:wr.cell? ⟨bq,2,none⟩=some (.int .i64 ms):=af HQ.out rfl;have hw1:IntKind.i64.wrap ((j:Int)+1)=j+1:=IntWalk.i64_in _ (by omega);clear hx hc hE;go_wp2_with fail;refine(IU (ps:=mp) (rs:=rows) (Rd.gu HPR.out) HE.out (by have:=HPM.out.2;omega) V9.out words ms (j:Int)).mono ?_;rintro e w5 ⟨hb5,hpost⟩;have pO:=ag (yh.out.trans (hb5.mono yh.out.size));have ac6:=ag (aX HPR.out (bz.of_below (S:=fun _=>False) hb5) (fun _ _ e=>e));have yU:=ag (blk hb5 OZ.out);have YH:=ag (blk hb5 HQ.out);have ZB:=ag (blk hb5 HM.out);have Sw:=ag (aX HO.out (bz.of_below (S:=fun _=>False) hb5) (fun _ _ e=>e));have adj:=ag (KJ.out.below hb5);have X9:=ag (Nat.le_trans WV.out hb5.size);have HWS:=ag hb5.size;clear hb5 d0 q0 q1 q2;rcases hpost with⟨rfl,hno⟩|⟨k,p,hk,hp,ZC,hok,hpost⟩
       ·have Vm:=ag (show jJ words rows=false from by
         cases hq:jJ words rows with
         |false=>rfl
         |true=>exact absurd ⟨HPM.out.1,by omega,by have:=HPM.out.2;omega,hq⟩ hno)
        clear hno;have r0:w5.cell? ⟨br,0,none⟩=some (.slice none 0 0):=af yU.out rfl;have r1:w5.cell? ⟨br,1,none⟩=some (.int .i64 0):=af yU.out rfl;have r2:w5.cell? ⟨br,2,none⟩=some (.slice none 0 0):=af yU.out rfl;have Lb:w5.frozen? ⟨br,0,none⟩=false:=ah yU.out;have Oc:w5.frozen? ⟨br,1,none⟩=false:=ah yU.out;have LV:w5.frozen? ⟨br,2,none⟩=false:=ah yU.out;go_wp2_with fail;have Cf:=ag (show Below w.heap.size w (((w5.setCell ⟨br,0,none⟩ (.slice none 0 0)).setCell ⟨br,1,none⟩ (.int .i64 0)).setCell ⟨br,2,none⟩ (.slice none 0 0)) from((pO.out.setCell (p:=⟨br,0,none⟩) (Nat.le_of_eq rV.out.symm) _).setCell (p:=⟨br,1,none⟩) (Nat.le_of_eq rV.out.symm) _).setCell (p:=⟨br,2,none⟩) (Nat.le_of_eq rV.out.symm) _);have hfin:=ai (o:=2) (.slice none 0 0) (ai (o:=1) (.int .i64 0) (ai (o:=0) (.slice none 0 0) yU.out));generalize(((w5.setCell ⟨br,0,none⟩ (.slice none 0 0)).setCell ⟨br,1,none⟩ (.int .i64 0)).setCell ⟨br,2,none⟩ (.slice none 0 0))=w9 at Cf hfin⊢;have k0:w9.cell? ⟨br,0,none⟩=some (.slice none 0 0):=af hfin rfl;have k1:w9.cell? ⟨br,1,none⟩=some (.int .i64 0):=af hfin rfl;have k2:w9.cell? ⟨br,2,none⟩=some (.slice none 0 0):=af hfin rfl;clear hfin r0 r1 r2 Lb Oc LV;refine bodyPost_ret (v:=.tuple #[.agg #[.slice none 0 0,.int .i64 0,.slice none 0 0],.int .i64 1]) (by simp[results,Tryz.results11,go_sem,k0,k1,k2]) rfl ?_;exact⟨Cf.out,.inl ⟨1,rfl,.inl ⟨rfl,.inr ⟨_,bC HX.out,Vm.out⟩⟩⟩⟩
       ·obtain rfl:k=j:=by omega
        have htx:oK words ms p k=fF words ts.length k:=by
         unfold fF dA zL;rw[<-ZT.out,<-OE.out,List.getD_eq_getElem?_getD,hp];rfl
        rw[htx] at hpost;have af7:=ag hok;clear hk hp ZC htx hok;rcases hpost with⟨rfl,jj,hjj,hov⟩|⟨g,rfl,hg,hge,hov,xR⟩
        ·have UZ:=ag (show O9 words ts from .inr (.inr (.inl ⟨k,_,jj,HX.out,hjj,hov⟩)));clear hjj hov;have r0:w5.cell? ⟨br,0,none⟩=some (.slice none 0 0):=af yU.out rfl;have r1:w5.cell? ⟨br,1,none⟩=some (.int .i64 0):=af yU.out rfl;have r2:w5.cell? ⟨br,2,none⟩=some (.slice none 0 0):=af yU.out rfl;have Lb:w5.frozen? ⟨br,0,none⟩=false:=ah yU.out;have Oc:w5.frozen? ⟨br,1,none⟩=false:=ah yU.out;have LV:w5.frozen? ⟨br,2,none⟩=false:=ah yU.out;go_wp2_with fail;have Cf:=ag (show Below w.heap.size w (((w5.setCell ⟨br,0,none⟩ (.slice none 0 0)).setCell ⟨br,1,none⟩ (.int .i64 0)).setCell ⟨br,2,none⟩ (.slice none 0 0)) from((pO.out.setCell (p:=⟨br,0,none⟩) (Nat.le_of_eq rV.out.symm) _).setCell (p:=⟨br,1,none⟩) (Nat.le_of_eq rV.out.symm) _).setCell (p:=⟨br,2,none⟩) (Nat.le_of_eq rV.out.symm) _);have hfin:=ai (o:=2) (.slice none 0 0) (ai (o:=1) (.int .i64 0) (ai (o:=0) (.slice none 0 0) yU.out));generalize(((w5.setCell ⟨br,0,none⟩ (.slice none 0 0)).setCell ⟨br,1,none⟩ (.int .i64 0)).setCell ⟨br,2,none⟩ (.slice none 0 0))=w9 at Cf hfin⊢;have k0:w9.cell? ⟨br,0,none⟩=some (.slice none 0 0):=af hfin rfl;have k1:w9.cell? ⟨br,1,none⟩=some (.int .i64 0):=af hfin rfl;have k2:w9.cell? ⟨br,2,none⟩=some (.slice none 0 0):=af hfin rfl;clear hfin r0 r1 r2 Lb Oc LV;refine bodyPost_ret (v:=.tuple #[.agg #[.slice none 0 0,.int .i64 0,.slice none 0 0],.int .i64 3]) (by simp[results,Tryz.results11,go_sem,k0,k1,k2]) rfl ?_;exact⟨Cf.out,.inl ⟨3,rfl,.inr ⟨rfl,UZ.out⟩⟩⟩
        ·obtain⟨D,hD⟩:∃D,D=(iy (fF words ts.length k) (rows.map Prod.snd)).halt.done:=⟨_,rfl⟩;have hDl:D.length=(iy (fF words ts.length k) (rows.map Prod.snd)).halt.ops.length:=by rw[hD,UE]
         rw[<-hD] at hg;rw[<-hDl] at xR⊢;have ac4:=ag (HCA.out.snoc (p:=(g,D)) HX.out ⟨hD,hov⟩);have afF:=ag (show ∀t∈ts.take (k+1),jJ words t.2=true from fun t ht=>by
          rw[Gg.out] at ht;rcases List.mem_append.1 ht with ht|ht
          ·exact tF.out t ht
          ·simp at ht;subst ht;exact af7.out)
         have JG:=ag (show ja (cs++[(g,D)])=ja cs+D.length from by unfold ja;rw[List.map_append,List.sum_append];simp);have ad3:=ag (show qH w5 (bm+1) (cs++[(g,D)]) from⟨fun p hp=>by
          rcases List.mem_append.1 hp with hp|hp
          ·exact adj.out.blk p hp
          ·simp at hp;subst hp;exact⟨hg,Nat.le_trans WV.out hge⟩,by
          rw[List.map_append,List.nodup_append];refine⟨adj.out.inj,by simp,fun a ha b hb=>?_⟩;simp at hb;subst hb;obtain⟨p,hp,rfl⟩:=List.mem_map.1 ha;have h1:=lt_of_block (KJ.out.blk p hp).1;omega⟩)
         have acW:=ag xR;have hsum:=KY.out;have e2:IntKind.i64.wrap ((ja cs:Int)+(D.length:Int))=(ja cs:Int)+(D.length:Int):=IntWalk.i64_in _ (by omega);clear hD hDl hg hge hov;by_cases hbig:262144<ja cs+D.length
         ·have hd:(ja cs:Int)+(D.length:Int)>262144:=by omega
          have UZ:=ag (show O9 words ts from .inr (.inr (.inr ⟨k+1,_,by omega,ac4.out,by rw[JG.out];exact hbig⟩)));clear hbig hsum xR;have r0:w5.cell? ⟨br,0,none⟩=some (.slice none 0 0):=af yU.out rfl;have r1:w5.cell? ⟨br,1,none⟩=some (.int .i64 0):=af yU.out rfl;have r2:w5.cell? ⟨br,2,none⟩=some (.slice none 0 0):=af yU.out rfl;have Lb:w5.frozen? ⟨br,0,none⟩=false:=ah yU.out;have Oc:w5.frozen? ⟨br,1,none⟩=false:=ah yU.out;have LV:w5.frozen? ⟨br,2,none⟩=false:=ah yU.out;go_wp2_with fail;have Cf:=ag (show Below w.heap.size w (((w5.setCell ⟨br,0,none⟩ (.slice none 0 0)).setCell ⟨br,1,none⟩ (.int .i64 0)).setCell ⟨br,2,none⟩ (.slice none 0 0)) from((pO.out.setCell (p:=⟨br,0,none⟩) (Nat.le_of_eq rV.out.symm) _).setCell (p:=⟨br,1,none⟩) (Nat.le_of_eq rV.out.symm) _).setCell (p:=⟨br,2,none⟩) (Nat.le_of_eq rV.out.symm) _);have hfin:=ai (o:=2) (.slice none 0 0) (ai (o:=1) (.int .i64 0) (ai (o:=0) (.slice none 0 0) yU.out));generalize(((w5.setCell ⟨br,0,none⟩ (.slice none 0 0)).setCell ⟨br,1,none⟩ (.int .i64 0)).setCell ⟨br,2,none⟩ (.slice none 0 0))=w9 at Cf hfin⊢;have k0:w9.cell? ⟨br,0,none⟩=some (.slice none 0 0):=af hfin rfl;have k1:w9.cell? ⟨br,1,none⟩=some (.int .i64 0):=af hfin rfl;have k2:w9.cell? ⟨br,2,none⟩=some (.slice none 0 0):=af hfin rfl;clear hfin r0 r1 r2 Lb Oc LV;refine bodyPost_ret (v:=.tuple #[.agg #[.slice none 0 0,.int .i64 0,.slice none 0 0],.int .i64 3]) (by simp[results,Tryz.results11,go_sem,k0,k1,k2]) rfl ?_;exact⟨Cf.out,.inl ⟨3,rfl,.inr ⟨rfl,UZ.out⟩⟩⟩
         ·have hd:¬((ja cs:Int)+(D.length:Int)>262144):=by omega
          have ae8:=ag hbig;clear hbig hsum xR;have m0:w5.cell? ⟨bm,0,none⟩=some (.slice co k cc):=af ZB.out rfl;obtain⟨i1,hi,hz0,hz1,hz2⟩:=info_parts NA;go_wp2_with (at_builtin;refine Hid.out ?_);refine dD _ rfl _ _ 27 rfl (bm+1) 57 i1 _ 1 24 Tryz.underlying27 hi hz0 hz1 hz2 rfl (by decide) (.slice co k cc) k _ (by simp[Act.eval]) (aX Sw.out ((bz.refl (fun _=>False) w5).alloc _) (fun _ _=>id)) ⟨w5.heap.size,0,none⟩ 1 1 [u6 (g,D)] (by simp[Act.eval]) rfl ?c1 ?c2 ?c3 ?c4 ?c5 ?_
          case c1=>exact iP (aj _ _)
          case c2=>intro u hu;simp at hu;subst hu;rfl
          case c3=>unfold maxLen;omega
          case c4=>omega
          case c5=>have:=X9.out;simp;omega
          intro Y9 Zz w6 hown jh eU;have hc6:bz (fun q=>(Value.slice co k cc).ownBlock=some q) w5 w6:=((bz.refl (fun q=>(Value.slice co k cc).ownBlock=some q) w5).alloc _).grown eU (fun q hq=>.inl hq);have hbq:=oD.out;have hlow:∀q,(Value.slice co k cc).ownBlock=some q->bm+1<=q:=fun q hq=>(Sw.out.lt q hq).1
          have Mm:=dG hc6 ZB.out (fun e=>by have:=hlow _ e;omega);have hq6:=dG hc6 YH.out (fun e=>by have:=hlow _ e;omega);have hr6:=dG hc6 yU.out (fun e=>by have:=hlow _ e;omega);have m1:w6.cell? ⟨bm,0,none⟩=some (.slice co k cc):=af Mm rfl;have m2:w6.frozen? ⟨bm,0,none⟩=false:=ah Mm;have hp6:=aX ac6.out hc6 (fun q hq=>GK ac6.out hq (bY Sw.out (Nat.zero_le _)) (by decide));have hcb:bz (fun q=>q=bm) w6 (w6.setCell ⟨bm,0,none⟩ (.slice Y9 (k+1) Zz)):=(bz.refl (fun q=>q=bm) w6).setCell (p:=⟨bm,0,none⟩) (.inl rfl) _;have HM7:=ag (ai (o:=0) (.slice Y9 (k+1) Zz) Mm);have HQ7:=ag (dG hcb hq6 (by omega));have SB:=ag (dG hcb hr6 (by omega));have HP7:=ag (aX hp6 hcb (fun q hq=>yN hp6 hq Mm (by decide)));have HO7:=ag (show(w6.setCell ⟨bm,0,none⟩ (.slice Y9 (k+1) Zz)).ownsRow (bm+1) 57 1 (.slice Y9 (k+1) Zz) (k+1) ((cs++[(g,D)]).map u6) from by
           rw[List.map_append];exact aX hown hcb (fun q hq e=>by have:=(hown.lt q hq).1;omega))
          have agq:=ag (show qH (w6.setCell ⟨bm,0,none⟩ (.slice Y9 (k+1) Zz)) (bm+1) (cs++[(g,D)]) from⟨fun p hp=>by
           obtain⟨h1,h2⟩:=ad3.out.blk p hp;refine⟨dG hcb (dG hc6 h1 (fun e=>yN Sw.out e h1 (by decide) rfl)) (by omega),h2⟩,ad3.out.inj⟩)
          have pQ:=ag (show Below w.heap.size w (w6.setCell ⟨bm,0,none⟩ (.slice Y9 (k+1) Zz)) from(hc6.below pO.out pO.out.size (fun q hq=>by have:=hlow q hq;omega)).setCell (p:=⟨bm,0,none⟩) (by show w.heap.size<=bm;omega) _);have afQ:=ag (show bm+1<=(w6.setCell ⟨bm,0,none⟩ (.slice Y9 (k+1) Zz)).heap.size from Nat.le_trans X9.out (Nat.le_trans hc6.size hcb.size));have aei:=ag (show(cs++[(g,D)]).length=k+1 from by rw[List.length_append,Cb.out];rfl);have adq:=ag (show ja (cs++[(g,D)])<=262144 from by rw[JG.out];have:=ae8.out;omega);have hw1:IntKind.i64.wrap ((k:Int)+1)=k+1:=IntWalk.i64_in _ (by omega);clear hown jh eU hc6 Mm hq6 hr6 hp6 hcb hlow hbq m0 hi hz0 hz1 hz2;go_wp2_with fail;exact⟨⟨k+1,_,Y9,Zz,by omega,by go_num,by rw[JG.out];rfl,aei,adq,HM7,HO7,agq,ac4,afF,HQ7,SB,pQ,HP7,afQ⟩,by simp[intOf];omega⟩
      ·obtain rfl:j=ts.length:=by omega
       have hbq:=oD.out;have hm:=HM.out;have m0:wr.cell? ⟨bm,0,none⟩=some (.slice co ts.length cc):=af hm rfl;have m1:wr.cell? ⟨bm,1,none⟩=some (.int .i64 ms):=af hm rfl;have m2:wr.cell? ⟨bm,2,none⟩=some (.slice none 0 0):=af hm rfl;have Eu:=ag (show ∀t∈ts,jJ words t.2=true from fun t ht=>tF.out t (by rw[List.take_length];exact ht));have afm:=ag (show mZ words ts.length ts cs from by have h9:=HCA.out;rw[List.take_length] at h9;exact h9);clear hm hbq;have r0:wr.cell? ⟨br,0,none⟩=some (.slice none 0 0):=af OZ.out rfl;have r1:wr.cell? ⟨br,1,none⟩=some (.int .i64 0):=af OZ.out rfl;have r2:wr.cell? ⟨br,2,none⟩=some (.slice none 0 0):=af OZ.out rfl;have Lb:wr.frozen? ⟨br,0,none⟩=false:=ah OZ.out;have Oc:wr.frozen? ⟨br,1,none⟩=false:=ah OZ.out;have LV:wr.frozen? ⟨br,2,none⟩=false:=ah OZ.out;go_wp2_with fail;have Cf:=ag (show Below w.heap.size w (((wr.setCell ⟨br,0,none⟩ (.slice co ts.length cc)).setCell ⟨br,1,none⟩ (.int .i64 ms)).setCell ⟨br,2,none⟩ (.slice none 0 0)) from((yh.out.setCell (p:=⟨br,0,none⟩) (Nat.le_of_eq rV.out.symm) _).setCell (p:=⟨br,1,none⟩) (Nat.le_of_eq rV.out.symm) _).setCell (p:=⟨br,2,none⟩) (Nat.le_of_eq rV.out.symm) _);have hfin:=ai (o:=2) (.slice none 0 0) (ai (o:=1) (.int .i64 ms) (ai (o:=0) (.slice co ts.length cc) OZ.out));have ZM:bz (fun q=>q=br) wr (((wr.setCell ⟨br,0,none⟩ (.slice co ts.length cc)).setCell ⟨br,1,none⟩ (.int .i64 ms)).setCell ⟨br,2,none⟩ (.slice none 0 0)):=(((bz.refl (fun q=>q=br) wr).setCell (p:=⟨br,0,none⟩) (.inl rfl) _).setCell (p:=⟨br,1,none⟩) (.inl rfl) _).setCell (p:=⟨br,2,none⟩) (.inl rfl) _;have HO9:=ag (aX HO.out ZM (fun q hq e=>by have:=(HO.out.lt q hq).1;have:=oD.out;omega));have HC9:=ag (show ∀p∈cs,((((wr.setCell ⟨br,0,none⟩ (.slice co ts.length cc)).setCell ⟨br,1,none⟩ (.int .i64 ms)).setCell ⟨br,2,none⟩ (.slice none 0 0))).heap[p.1]? =some (.cells (p.2.flatMap b_).toArray 107 (0,0))/\bm+1<=p.1 from fun p hp=>⟨dG ZM (KJ.out.blk p hp).1 (by have:=(KJ.out.blk p hp).2;have:=oD.out;omega),(KJ.out.blk p hp).2⟩);clear ZM;generalize(((wr.setCell ⟨br,0,none⟩ (.slice co ts.length cc)).setCell ⟨br,1,none⟩ (.int .i64 ms)).setCell ⟨br,2,none⟩ (.slice none 0 0))=w9 at Cf hfin HO9 HC9⊢;have k0:w9.cell? ⟨br,0,none⟩=some (.slice co ts.length cc):=af hfin rfl;have k1:w9.cell? ⟨br,1,none⟩=some (.int .i64 ms):=af hfin rfl;have k2:w9.cell? ⟨br,2,none⟩=some (.slice none 0 0):=af hfin rfl;clear hfin r0 r1 r2 Lb Oc LV;refine bodyPost_ret (v:=.tuple #[.agg #[.slice co ts.length cc,.int .i64 ms,.slice none 0 0],.int .i64 0]) (by simp[results,Tryz.results11,go_sem,k0,k1,k2]) rfl ?_;refine⟨Cf.out,.inr ⟨co,cc,cs,?_,?_,?_,afm.out,KY.out,YB.out.symm,by have:=H4.out;omega,Eu.out⟩⟩
       ·rw[Cb.out,OE.out];rfl
       ·rw[Cb.out];exact bY HO9.out (by have:=oD.out;omega)
       ·exact⟨fun p hp=>⟨(HC9.out p hp).1,by have:=(HC9.out p hp).2;have:=oD.out;omega⟩,KJ.out.inj⟩
    ·have hd:(me !=0)=true:=by simpa using he
     have HE:=ag he;have HB3:=ag (HB2.out.alloc HB2.out.size (.cells #[.int .i64 mw,.slice mo mp.length mc,.int .i64 ms] 46));have HR3:=ag (aZ (o:=(.cells #[.int .i64 mw,.slice mo mp.length mc,.int .i64 ms] 46)) HR2.out);clear he;go_upto_region 10 with fail
     generalize w2.alloc (.cells #[.int .i64 mw,.slice mo mp.length mc,.int .i64 ms] 46)=w3 at HB3 HR3⊢;have r0:w3.cell? ⟨br,0,none⟩=some (.slice none 0 0):=af HR3.out rfl;have r1:w3.cell? ⟨br,1,none⟩=some (.int .i64 0):=af HR3.out rfl;have r2:w3.cell? ⟨br,2,none⟩=some (.slice none 0 0):=af HR3.out rfl;have Lb:w3.frozen? ⟨br,0,none⟩=false:=ah HR3.out;have Oc:w3.frozen? ⟨br,1,none⟩=false:=ah HR3.out;have LV:w3.frozen? ⟨br,2,none⟩=false:=ah HR3.out;go_wp2_with fail;have Cf:=ag (show Below w.heap.size w (((w3.setCell ⟨br,0,none⟩ (.slice none 0 0)).setCell ⟨br,1,none⟩ (.int .i64 0)).setCell ⟨br,2,none⟩ (.slice none 0 0)) from((HB3.out.setCell (p:=⟨br,0,none⟩) (Nat.le_of_eq rV.out.symm) _).setCell (p:=⟨br,1,none⟩) (Nat.le_of_eq rV.out.symm) _).setCell (p:=⟨br,2,none⟩) (Nat.le_of_eq rV.out.symm) _);have hfin:=ai (o:=2) (.slice none 0 0) (ai (o:=1) (.int .i64 0) (ai (o:=0) (.slice none 0 0) HR3.out));generalize(((w3.setCell ⟨br,0,none⟩ (.slice none 0 0)).setCell ⟨br,1,none⟩ (.int .i64 0)).setCell ⟨br,2,none⟩ (.slice none 0 0))=w4 at Cf hfin⊢;have k0:w4.cell? ⟨br,0,none⟩=some (.slice none 0 0):=af hfin rfl;have k1:w4.cell? ⟨br,1,none⟩=some (.int .i64 0):=af hfin rfl;have k2:w4.cell? ⟨br,2,none⟩=some (.slice none 0 0):=af hfin rfl;clear hfin r0 r1 r2 Lb Oc LV;refine bodyPost_ret (v:=.tuple #[.agg #[.slice none 0 0,.int .i64 0,.slice none 0 0],.int .i64 me]) (by simp[results,Tryz.results11,go_sem,k0,k1,k2]) rfl ?_;refine⟨Cf.out,.inl ⟨me,rfl,?_⟩⟩;rcases HMC.out with h9|⟨h9,h8⟩|h9
     ·exact absurd (by rw[YB.out];exact h9) HE.out
     ·exact .inl ⟨by rw[YB.out];exact h9,.inl h8⟩
     ·exact .inr ⟨by rw[YB.out];exact h9,.inr (.inl h9)⟩
end
section
def Yg (V:Nat->Int) (c:Cd):List bR:=c.ops.mapIdx (fun i o=>match zu c.jmp i with
 |none=>o
 |some q=>{o with n:=V q})
structure At (V:Nat->Int) (c:Cd) (p:Nat) (ls:List Int) (R:List bR):Prop where
 over:c.over=false
 len:c.ops.length=p
 aO:c.aO=ls
 keys:∀x∈c.jmp,x.1<p
 res:Yg V c=R
variable {V:Nat->Int} {c c0:Cd} {p:Nat} {ls:List Int} {R:List bR} {t:dI}
theorem Eg (l:List (Nat×Nat)) (x:Nat×Nat) (i:Nat):zu (l++[x]) i=if x.1=i then some x.2 else zu l i:=by unfold zu;rw[List.foldl_append];rfl
theorem NI {l:List (Nat×Nat)} {n:Nat} (h:∀x∈l,x.1<n) {i:Nat} (hi:n<=i):zu l i=none:=by
 have key:∀(l:List (Nat×Nat)) (a:Nat->Option Nat),(∀x∈l,x.1<n)->a i=none->l.foldl (fun a p i=>if p.1=i then some p.2 else a i) a i=none:=by
  intro l;induction l with
  |nil=>intro a _ ha;exact ha
  |cons x l ih=>
   intro a hl ha;refine ih _ (fun y hy=>hl y (List.mem_cons_of_mem _ hy)) ?_;have:=hl x List.mem_cons_self;show(if x.1=i then some x.2 else a i)=none;rw[if_neg (by omega)];exact ha
 exact key l _ h rfl
theorem At.cast (h:At V c p ls R) {p':Nat} {ls':List Int} {R':List bR} (hp:p=p') (hl:ls=ls') (hR:R=R'):At V c p' ls' R':=by subst hp;subst hl;subst hR;exact h
theorem At.put (h:At V c p ls R) (o:bR) (hp:p<262144):At V (c.put o) (p+1) ls (R++[o]):=by
 have e:c.put o={c with ops:=c.ops++[o]}:=by unfold Cd.put;rw[if_neg (by rw[h.len];omega)]
 rw[e];refine⟨h.over,by simp[h.len],h.aO,fun x hx=>Nat.lt_succ_of_lt (h.keys x hx),?_⟩;have hr:=h.res;unfold Yg at hr⊢;simp only;rw[List.mapIdx_append,hr];congr 1
 simp only[List.mapIdx_cons,List.mapIdx_nil,Nat.zero_add,h.len,NI h.keys (aB _)]
theorem At.mark (h:At V c p ls R) (l:Nat) (o:bR) (hp:p<262144):At V ((c.mark l).put o) (p+1) ls (R++[{o with n:=V l}]):=by
 have e:(c.mark l).put o={c with ops:=c.ops++[o],jmp:=c.jmp++[(c.ops.length,l)]}:=by
  unfold Cd.put Cd.mark;simp only;rw[if_neg (by rw[h.len];omega)]
 rw[e];refine⟨h.over,by simp[h.len],h.aO,fun x hx=>?_,?_⟩
 ·rcases List.mem_append.1 hx with hx|hx
  ·exact Nat.lt_succ_of_lt (h.keys x hx)
  ·simp at hx;rw[hx];simp[h.len]
 ·have hr:=h.res;unfold Yg at hr⊢;simp only;rw[List.mapIdx_append,<-hr];congr 1
  ·refine List.ext_getElem? fun i=>?_
   rw[List.getElem?_mapIdx,List.getElem?_mapIdx];cases ho:c.ops[i]? with
   |none=>rfl
   |some o'=>
    have hi:=(bu.1 ho).1;rw[Eg,if_neg (by simp only;omega)]
  ·simp only[List.mapIdx_cons,List.mapIdx_nil,Nat.zero_add,Eg,if_pos]
theorem At.jump (h:At V c p ls R) (l:Nat) (hp:p<262144):At V (c.jump l) (p+1) ls (R++[⟨6,0,0,0,0,V l⟩]):=h.mark l _ hp
theorem At.zero (h:At V c p ls R) (r:Int) (l:Nat) (hp:p<262144):At V (c.zero r l) (p+1) ls (R++[⟨7,0,r,0,0,V l⟩]):=h.mark l _ hp
theorem At.label (h:At V c p ls R):At V c.label p (ls++[-1]) R:=⟨h.over,h.len,by unfold Cd.label;rw[h.aO],h.keys,h.res⟩
theorem At.here (h:At V c p ls R) (l:Nat):At V (c.here l) p (ls.set l p) R:=⟨h.over,h.len,by unfold Cd.here;rw[h.aO,h.len],h.keys,h.res⟩
theorem fE (a b:List Int) (j:Nat) (v:Int):(a++b).set (a.length+j) v=a++b.set j v:=by rw[List.set_append_right _ _ (by omega),Nat.add_sub_cancel_left]
theorem eD (a b:List Int) (v:Int):(a++b).set a.length v=a++b.set 0 v:=fE a b 0 v
def nT (t:dI) (V:Nat->Int) (q:Nat) (found:Nat):List bR:=[⟨4,0,3,7,0,t.base+2⟩,⟨7,0,3,0,0,V (q+1)⟩,⟨1,0,4,0,0,1⟩,⟨3,2,3,4,0,0⟩,⟨2,0,5,3,0,0⟩,⟨3,1,5,5,0,0⟩,⟨1,0,4,0,0,t.log⟩,⟨3,1,5,4,0,0⟩,⟨4,0,6,5,0,0⟩,⟨3,2,6,1,0,0⟩,⟨7,0,6,0,0,V (found)⟩,⟨6,0,0,0,0,V (q)⟩]
def kG (p:Nat):List Int:=[((p+1:Nat):Int),((p+12:Nat):Int)]
theorem eX (p:Nat):(kG p).length=2:=by simp[kG]
theorem FE (h:At V c0 p ls R) (found:Nat) (hp:p+12<=262144):At V (c0.search t found) (p+12) (ls++kG p) (R++nT t V ls.length found):=by
 obtain rfl:=h.aO;have DD:c0.aO.length=c0.aO.length+0:=by rfl
 have h1:=h.label;have ag4:(c0.label).aO.length=c0.aO.length+1:=by simp[Cd.label]
 have h2:=h1.label;have h3:=h2.put ⟨4,0,3,7,0,t.base+2⟩ (by omega);have h4:=h3.here (c0).aO.length;have h5:=h4.zero 3 (c0.label).aO.length (by omega);have h6:=(h5.put ⟨1,0,4,0,0,1⟩ (by omega)).put ⟨3,2,3,4,0,0⟩ (by omega);have h7:=h6.put ⟨2,0,5,3,0,0⟩ (by omega);have h8:=h7.put ⟨3,1,5,5,0,0⟩ (by omega);have h9:=(h8.put ⟨1,0,4,0,0,t.log⟩ (by omega)).put ⟨3,1,5,4,0,0⟩ (by omega);have h10:=h9.put ⟨4,0,6,5,0,0⟩ (by omega);have h11:=h10.put ⟨3,2,6,1,0,0⟩ (by omega);have h12:=h11.zero 6 found (by omega);have CK:=h12.jump (c0).aO.length (by omega);have xY:=CK.here (c0.label).aO.length;refine xY.cast (by omega) ?_ ?_
 ·simp[kG,Cd.label,fE,eD]<;>omega
 ·simp[nT,Cd.label]
def gq (t:dI) (V:Nat->Int) (q:Nat) (r:Int) (l:Nat):List bR:=[⟨7,0,r,0,0,V (q)⟩,⟨6,0,0,0,0,V (l)⟩]
def eP (p:Nat):List Int:=[((p+2:Nat):Int)]
theorem bB (p:Nat):(eP p).length=1:=by simp[eP]
theorem mP (h:At V c0 p ls R) (r:Int) (l:Nat) (hp:p+2<=262144):At V (c0.unless t r l) (p+2) (ls++eP p) (R++gq t V ls.length r l):=by
 obtain rfl:=h.aO;have eon:c0.aO.length=c0.aO.length+0:=by rfl
 have h1:=h.label;have h2:=h1.zero r (c0).aO.length (by omega);have h3:=h2.jump l (by omega);have h4:=h3.here (c0).aO.length;refine h4.cast (by omega) ?_ ?_
 ·simp[eP,Cd.label,fE,eD]<;>omega
 ·simp[gq,Cd.label]
def nR (t:dI) (V:Nat->Int) (q:Nat):List bR:=[⟨2,0,5,6,0,0⟩,⟨1,0,4,0,0,(t.words+2)⟩,⟨3,1,5,4,0,0⟩]
def mU (p:Nat):List Int:=[]
theorem dh (p:Nat):(mU p).length=0:=by simp[mU]
theorem CF (h:At V c0 p ls R) (hp:p+3<=262144):At V (c0.lock t) (p+3) (ls++mU p) (R++nR t V ls.length):=by
 obtain rfl:=h.aO;have h1:=h.put ⟨2,0,5,6,0,0⟩ (by omega);have h2:=(h1.put ⟨1,0,4,0,0,(t.words+2)⟩ (by omega)).put ⟨3,1,5,4,0,0⟩ (by omega);refine h2.cast (by omega) ?_ ?_
 ·simp[mU]
 ·simp[nR,Cd.label]
def rF (t:dI) (V:Nat->Int) (q:Nat):List bR:=[⟨2,0,5,6,0,0⟩,⟨1,0,4,0,0,(t.base+8)⟩,⟨3,1,5,4,0,0⟩]
def qj (p:Nat):List Int:=[]
theorem gH (p:Nat):(qj p).length=0:=by simp[qj]
theorem NM (h:At V c0 p ls R) (hp:p+3<=262144):At V (c0.old t) (p+3) (ls++qj p) (R++rF t V ls.length):=by
 obtain rfl:=h.aO;have h1:=h.put ⟨2,0,5,6,0,0⟩ (by omega);have h2:=(h1.put ⟨1,0,4,0,0,(t.base+8)⟩ (by omega)).put ⟨3,1,5,4,0,0⟩ (by omega);refine h2.cast (by omega) ?_ ?_
 ·simp[qj]
 ·simp[rF,Cd.label]
def qQ (t:dI) (V:Nat->Int) (q:Nat):List bR:=[⟨1,0,0,0,0,t.arena⟩,⟨5,0,7,0,0,t.base+4⟩]
def oW (p:Nat):List Int:=[]
theorem Vs (h:At V c0 p ls R) (hp:p+2<=262144):At V (c0.start t) (p+2) (ls++oW p) (R++qQ t V ls.length):=by
 obtain rfl:=h.aO;have h1:=h.put ⟨1,0,0,0,0,t.arena⟩ (by omega);have h2:=h1.put ⟨5,0,7,0,0,t.base+4⟩ (by omega);refine h2.cast (by omega) ?_ ?_
 ·simp[oW]
 ·simp[qQ,Cd.label]
def qY (t:dI) (V:Nat->Int) (q:Nat):List bR:=[⟨12,0,7,7,0,8⟩,⟨4,0,1,7,0,t.base+5⟩,⟨5,0,7,1,0,t.base+4⟩]
def lD (p:Nat):List Int:=[]
theorem DV (p:Nat):(lD p).length=0:=by simp[lD]
theorem Uw (h:At V c0 p ls R) (hp:p+3<=262144):At V (c0.abort t) (p+3) (ls++lD p) (R++qY t V ls.length):=by
 obtain rfl:=h.aO;have h1:=h.put ⟨12,0,7,7,0,8⟩ (by omega);have h2:=h1.put ⟨4,0,1,7,0,t.base+5⟩ (by omega);have h3:=h2.put ⟨5,0,7,1,0,t.base+4⟩ (by omega);refine h3.cast (by omega) ?_ ?_
 ·simp[lD]
 ·simp[qY,Cd.label]
def uk (t:dI) (V:Nat->Int) (q:Nat):List bR:=[⟨1,0,1,0,0,t.prints⟩,⟨4,0,2,7,0,t.base+3⟩,⟨7,0,2,0,0,V (q+1)⟩,⟨4,0,3,1,0,0⟩,⟨11,0,3,0,0,0⟩,⟨1,0,4,0,0,1⟩,⟨3,1,1,4,0,0⟩,⟨1,0,4,0,0,1⟩,⟨3,2,2,4,0,0⟩,⟨6,0,0,0,0,V (q)⟩]
def oV (p:Nat):List Int:=[((p+2:Nat):Int),((p+10:Nat):Int)]
theorem tu (p:Nat):(oV p).length=2:=by simp[oV]
theorem Ya (h:At V c0 p ls R) (hp:p+10<=262144):At V (c0.tell t) (p+10) (ls++oV p) (R++uk t V ls.length):=by
 obtain rfl:=h.aO;have DD:c0.aO.length=c0.aO.length+0:=by rfl
 have h1:=h.label;have Ru:(c0.label).aO.length=c0.aO.length+1:=by simp[Cd.label]
 have h2:=h1.label;have h3:=h2.put ⟨1,0,1,0,0,t.prints⟩ (by omega);have h4:=h3.put ⟨4,0,2,7,0,t.base+3⟩ (by omega);have h5:=h4.here (c0).aO.length;have h6:=h5.zero 2 (c0.label).aO.length (by omega);have h7:=h6.put ⟨4,0,3,1,0,0⟩ (by omega);have h8:=h7.put ⟨11,0,3,0,0,0⟩ (by omega);have h9:=(h8.put ⟨1,0,4,0,0,1⟩ (by omega)).put ⟨3,1,1,4,0,0⟩ (by omega);have h10:=(h9.put ⟨1,0,4,0,0,1⟩ (by omega)).put ⟨3,2,2,4,0,0⟩ (by omega);have h11:=h10.jump (c0).aO.length (by omega);have h12:=h11.here (c0.label).aO.length;refine h12.cast (by omega) ?_ ?_
 ·simp[oV,Cd.label,fE,eD]<;>omega
 ·simp[uk,Cd.label]
def tN (t:dI) (V:Nat->Int) (q:Nat) (abort:Nat):List bR:=nT t V (q+2) (q)++[⟨2,0,5,1,0,0⟩,⟨1,0,4,0,0,15⟩,⟨3,6,5,4,0,0⟩,⟨2,0,0,5,0,0⟩,⟨1,0,4,0,0,(t.words+2)⟩,⟨3,1,5,4,0,0⟩,⟨4,0,3,5,0,0⟩,⟨2,0,6,3,0,0⟩,⟨1,0,4,0,0,1⟩,⟨3,6,6,4,0,0⟩]++gq t V (q+4) 6 abort++[⟨2,0,6,3,0,0⟩,⟨1,0,4,0,0,1⟩,⟨3,10,6,4,0,0⟩,⟨4,0,4,7,0,t.base+0⟩,⟨3,13,4,6,0,0⟩]++gq t V (q+5) 4 abort++[⟨4,0,2,1,0,0⟩,⟨4,0,4,5,0,0⟩,⟨3,2,4,3,0,0⟩]++gq t V (q+6) 4 abort++[⟨1,0,4,0,0,1⟩,⟨3,9,4,0,0,0⟩,⟨4,0,6,7,0,t.base+1⟩,⟨3,7,6,4,0,0⟩,⟨5,0,7,6,0,t.base+1⟩,⟨6,0,0,0,0,V (q+1)⟩,⟨4,0,2,5,0,1⟩,⟨12,0,1,2,0,2⟩]
def oU (p:Nat):List Int:=[((p+42:Nat):Int),((p+43:Nat):Int)]++kG (p)++eP (p+22)++eP (p+29)++eP (p+34)
theorem sV (p:Nat):(oU p).length=7:=by simp[oU,eX,bB]
theorem YS (h:At V c0 p ls R) (abort:Nat) (hp:p+44<=262144):At V (c0.read t abort) (p+44) (ls++oU p) (R++tN t V ls.length abort):=by
 obtain rfl:=h.aO;have ZR:c0.aO.length=c0.aO.length+0:=by rfl
 have h1:=h.label;have edn:(c0.label).aO.length=c0.aO.length+1:=by simp[Cd.label]
 have h2:=h1.label;have h3:=FE (t:=t) h2 ((c0).aO.length) (by omega);have h4:=h3.put ⟨2,0,5,1,0,0⟩ (by omega);have h5:=(h4.put ⟨1,0,4,0,0,15⟩ (by omega)).put ⟨3,6,5,4,0,0⟩ (by omega);have h6:=h5.put ⟨2,0,0,5,0,0⟩ (by omega);have h7:=(h6.put ⟨1,0,4,0,0,(t.words+2)⟩ (by omega)).put ⟨3,1,5,4,0,0⟩ (by omega);have h8:=h7.put ⟨4,0,3,5,0,0⟩ (by omega);have h9:=h8.put ⟨2,0,6,3,0,0⟩ (by omega);have h10:=(h9.put ⟨1,0,4,0,0,1⟩ (by omega)).put ⟨3,6,6,4,0,0⟩ (by omega);have h11:=mP (t:=t) h10 6 abort (by omega);have h12:=h11.put ⟨2,0,6,3,0,0⟩ (by omega);have CK:=(h12.put ⟨1,0,4,0,0,1⟩ (by omega)).put ⟨3,10,6,4,0,0⟩ (by omega);have xY:=CK.put ⟨4,0,4,7,0,t.base+0⟩ (by omega);have ES:=xY.put ⟨3,13,4,6,0,0⟩ (by omega);have h16:=mP (t:=t) ES 4 abort (by omega);have Mt:=h16.put ⟨4,0,2,1,0,0⟩ (by omega);have h18:=Mt.put ⟨4,0,4,5,0,0⟩ (by omega);have h19:=h18.put ⟨3,2,4,3,0,0⟩ (by omega);have h20:=mP (t:=t) h19 4 abort (by omega);have h21:=h20.put ⟨1,0,4,0,0,1⟩ (by omega);have h22:=h21.put ⟨3,9,4,0,0,0⟩ (by omega);have h23:=h22.put ⟨4,0,6,7,0,t.base+1⟩ (by omega);have h24:=h23.put ⟨3,7,6,4,0,0⟩ (by omega);have h25:=h24.put ⟨5,0,7,6,0,t.base+1⟩ (by omega);have h26:=h25.jump (c0.label).aO.length (by omega);have h27:=h26.here (c0).aO.length;have h28:=h27.put ⟨4,0,2,5,0,1⟩ (by omega);have h29:=h28.here (c0.label).aO.length;have h30:=h29.put ⟨12,0,1,2,0,2⟩ (by omega);refine h30.cast (by omega) ?_ ?_
 ·simp[oU,eX,bB,Cd.label,fE,eD]<;>omega
 ·simp[tN,Cd.label,eX,bB]
def rP (t:dI) (V:Nat->Int) (q:Nat):List bR:=nT t V (q+3) (q)++[⟨4,0,3,7,0,t.base+2⟩,⟨2,0,4,3,0,0⟩,⟨1,0,6,0,0,64⟩,⟨3,13,4,6,0,0⟩]++gq t V (q+5) 4 (q+2)++[⟨13,0,0,0,0,6⟩,⟨2,0,5,3,0,0⟩,⟨3,1,5,5,0,0⟩,⟨1,0,4,0,0,t.log⟩,⟨3,1,5,4,0,0⟩,⟨5,0,5,1,0,0⟩,⟨1,0,4,0,0,1⟩,⟨3,1,3,4,0,0⟩,⟨5,0,7,3,0,t.base+2⟩,⟨5,0,5,2,0,1⟩,⟨12,0,1,2,0,3⟩]
def nK (p:Nat):List Int:=[((p+27:Nat):Int),((p+28:Nat):Int),((p+19:Nat):Int)]++kG (p)++eP (p+16)
theorem rE (p:Nat):(nK p).length=6:=by simp[nK,eX,bB]
theorem Ww (h:At V c0 p ls R) (hp:p+29<=262144):At V (c0.write t) (p+29) (ls++nK p) (R++rP t V ls.length):=by
 obtain rfl:=h.aO;have ZR:c0.aO.length=c0.aO.length+0:=by rfl
 have h1:=h.label;have edn:(c0.label).aO.length=c0.aO.length+1:=by simp[Cd.label]
 have h2:=h1.label;have ahr:(c0.label.label).aO.length=c0.aO.length+2:=by simp[Cd.label]
 have h3:=h2.label;have h4:=FE (t:=t) h3 ((c0).aO.length) (by omega);have h5:=h4.put ⟨4,0,3,7,0,t.base+2⟩ (by omega);have h6:=h5.put ⟨2,0,4,3,0,0⟩ (by omega);have h7:=(h6.put ⟨1,0,6,0,0,64⟩ (by omega)).put ⟨3,13,4,6,0,0⟩ (by omega);have h8:=mP (t:=t) h7 4 ((c0.label.label).aO.length) (by omega);have h9:=h8.put ⟨13,0,0,0,0,6⟩ (by omega);have h10:=h9.here (c0.label.label).aO.length;have h11:=h10.put ⟨2,0,5,3,0,0⟩ (by omega);have h12:=h11.put ⟨3,1,5,5,0,0⟩ (by omega);have CK:=(h12.put ⟨1,0,4,0,0,t.log⟩ (by omega)).put ⟨3,1,5,4,0,0⟩ (by omega);have xY:=CK.put ⟨5,0,5,1,0,0⟩ (by omega);have ES:=(xY.put ⟨1,0,4,0,0,1⟩ (by omega)).put ⟨3,1,3,4,0,0⟩ (by omega);have h16:=ES.put ⟨5,0,7,3,0,t.base+2⟩ (by omega);have Mt:=h16.here (c0).aO.length;have h18:=Mt.put ⟨5,0,5,2,0,1⟩ (by omega);have h19:=h18.here (c0.label).aO.length;have h20:=h19.put ⟨12,0,1,2,0,3⟩ (by omega);refine h20.cast (by omega) ?_ ?_
 ·simp[nK,eX,bB,Cd.label,fE,eD]<;>omega
 ·simp[rP,Cd.label,eX,bB]
def pR (t:dI) (V:Nat->Int) (q:Nat):List bR:=[⟨4,0,3,5,0,0⟩,⟨1,0,4,0,0,15⟩,⟨3,6,3,4,0,0⟩,⟨1,0,4,0,0,1⟩,⟨3,9,4,3,0,0⟩,⟨3,7,2,4,0,0⟩]
def nQ (p:Nat):List Int:=[]
theorem qo (p:Nat):(nQ p).length=0:=by simp[nQ]
theorem Qr (h:At V c0 p ls R) (hp:p+6<=262144):At V (c0.En t) (p+6) (ls++nQ p) (R++pR t V ls.length):=by
 obtain rfl:=h.aO;have h1:=h.put ⟨4,0,3,5,0,0⟩ (by omega);have h2:=(h1.put ⟨1,0,4,0,0,15⟩ (by omega)).put ⟨3,6,3,4,0,0⟩ (by omega);have h3:=h2.put ⟨1,0,4,0,0,1⟩ (by omega);have h4:=h3.put ⟨3,9,4,3,0,0⟩ (by omega);have h5:=h4.put ⟨3,7,2,4,0,0⟩ (by omega);refine h5.cast (by omega) ?_ ?_
 ·simp[nQ]
 ·simp[pR,Cd.label]
def oH (t:dI) (V:Nat->Int) (q:Nat):List bR:=[⟨4,0,2,5,0,0⟩,⟨4,0,3,5,0,1⟩,⟨5,0,2,3,0,0⟩]
def mO (p:Nat):List Int:=[]
theorem o_ (p:Nat):(mO p).length=0:=by simp[mO]
theorem MK (h:At V c0 p ls R) (hp:p+3<=262144):At V (c0.Ac t) (p+3) (ls++mO p) (R++oH t V ls.length):=by
 obtain rfl:=h.aO;have h1:=h.put ⟨4,0,2,5,0,0⟩ (by omega);have h2:=h1.put ⟨4,0,3,5,0,1⟩ (by omega);have h3:=h2.put ⟨5,0,2,3,0,0⟩ (by omega);refine h3.cast (by omega) ?_ ?_
 ·simp[mO]
 ·simp[oH,Cd.label]
def oC (t:dI) (V:Nat->Int) (q:Nat):List bR:=nR t V (q)++[⟨5,0,5,1,0,0⟩]
def kS (p:Nat):List Int:=[]++mU (p)
theorem pz (p:Nat):(kS p).length=0:=by simp[kS,dh]
theorem NP (h:At V c0 p ls R) (hp:p+4<=262144):At V (c0.y_ t) (p+4) (ls++kS p) (R++oC t V ls.length):=by
 obtain rfl:=h.aO;have h1:=CF (t:=t) h (by omega);have h2:=h1.put ⟨5,0,5,1,0,0⟩ (by omega);refine h2.cast (by omega) ?_ ?_
 ·simp[kS,dh,Cd.label,fE,eD]<;>omega
 ·simp[oC,Cd.label,dh]
def oG (t:dI) (V:Nat->Int) (q:Nat):List bR:=rF t V (q)++[⟨4,0,2,5,0,0⟩]++nR t V (q)++[⟨5,0,5,2,0,0⟩]
def kM (p:Nat):List Int:=[]++qj (p)++mU (p+4)
theorem pG (p:Nat):(kM p).length=0:=by simp[kM,dh,gH]
theorem Nn (h:At V c0 p ls R) (hp:p+8<=262144):At V (c0.za t) (p+8) (ls++kM p) (R++oG t V ls.length):=by
 obtain rfl:=h.aO;have h1:=NM (t:=t) h (by omega);have h2:=h1.put ⟨4,0,2,5,0,0⟩ (by omega);have h3:=CF (t:=t) h2 (by omega);have h4:=h3.put ⟨5,0,5,2,0,0⟩ (by omega);refine h4.cast (by omega) ?_ ?_
 ·simp[kM,dh,gH,Cd.label,fE,eD]<;>omega
 ·simp[oG,Cd.label,dh,gH]
def qh (t:dI) (V:Nat->Int) (q:Nat) (rel:Nat):List bR:=nR t V (q)++[⟨4,0,3,5,0,0⟩,⟨2,0,4,3,0,0⟩,⟨1,0,2,0,0,1⟩,⟨3,6,4,2,0,0⟩]++gq t V (q) 4 rel++[⟨2,0,4,3,0,0⟩,⟨1,0,2,0,0,(2*t.th+1)⟩,⟨8,0,5,4,2,0⟩,⟨3,2,4,3,0,0⟩]++gq t V (q+1) 4 rel++rF t V (q+2)++[⟨5,0,5,3,0,0⟩,⟨1,0,4,0,0,1⟩,⟨3,9,4,6,0,0⟩,⟨4,0,3,7,0,t.base+6⟩,⟨3,7,3,4,0,0⟩,⟨5,0,7,3,0,t.base+6⟩]
def lM (p:Nat):List Int:=[]++mU (p)++eP (p+7)++eP (p+13)++qj (p+15)
theorem qp (p:Nat):(lM p).length=2:=by simp[lM,dh,gH,bB]
theorem Sj (h:At V c0 p ls R) (rel:Nat) (hp:p+24<=262144):At V (c0.Dt t rel) (p+24) (ls++lM p) (R++qh t V ls.length rel):=by
 obtain rfl:=h.aO;have h1:=CF (t:=t) h (by omega);have h2:=h1.put ⟨4,0,3,5,0,0⟩ (by omega);have h3:=h2.put ⟨2,0,4,3,0,0⟩ (by omega);have h4:=h3.put ⟨1,0,2,0,0,1⟩ (by omega);have h5:=h4.put ⟨3,6,4,2,0,0⟩ (by omega);have h6:=mP (t:=t) h5 4 rel (by omega);have h7:=h6.put ⟨2,0,4,3,0,0⟩ (by omega);have h8:=h7.put ⟨1,0,2,0,0,(2*t.th+1)⟩ (by omega);have h9:=h8.put ⟨8,0,5,4,2,0⟩ (by omega);have h10:=h9.put ⟨3,2,4,3,0,0⟩ (by omega);have h11:=mP (t:=t) h10 4 rel (by omega);have h12:=NM (t:=t) h11 (by omega);have CK:=h12.put ⟨5,0,5,3,0,0⟩ (by omega);have xY:=CK.put ⟨1,0,4,0,0,1⟩ (by omega);have ES:=xY.put ⟨3,9,4,6,0,0⟩ (by omega);have h16:=ES.put ⟨4,0,3,7,0,t.base+6⟩ (by omega);have Mt:=h16.put ⟨3,7,3,4,0,0⟩ (by omega);have h18:=Mt.put ⟨5,0,7,3,0,t.base+6⟩ (by omega);refine h18.cast (by omega) ?_ ?_
 ·simp[lM,dh,gH,bB,Cd.label,fE,eD]<;>omega
 ·simp[qh,Cd.label,dh,gH,bB]
def pW (t:dI) (V:Nat->Int) (q:Nat) (rel:Nat):List bR:=nR t V (q+1)++[⟨4,0,2,5,0,0⟩,⟨2,0,4,2,0,0⟩,⟨1,0,3,0,0,1⟩,⟨3,6,4,3,0,0⟩,⟨7,0,4,0,0,V (q)⟩,⟨1,0,3,0,0,(2*t.th+1)⟩,⟨3,2,2,3,0,0⟩]++gq t V (q+1) 2 rel++rF t V (q+2)++[⟨4,0,2,5,0,0⟩,⟨1,0,3,0,0,1⟩,⟨3,10,2,3,0,0⟩,⟨4,0,4,7,0,t.base+0⟩,⟨3,13,4,2,0,0⟩]++gq t V (q+2) 4 rel
def lU (p:Nat):List Int:=[((p+16:Nat):Int)]++mU (p)++eP (p+10)++qj (p+12)++eP (p+20)
theorem qx (p:Nat):(lU p).length=3:=by simp[lU,dh,gH,bB]
theorem PR (h:At V c0 p ls R) (rel:Nat) (hp:p+22<=262144):At V (c0.Du t rel) (p+22) (ls++lU p) (R++pW t V ls.length rel):=by
 obtain rfl:=h.aO;have ag7:c0.aO.length=c0.aO.length+0:=by rfl
 have h1:=h.label;have h2:=CF (t:=t) h1 (by omega);have h3:=h2.put ⟨4,0,2,5,0,0⟩ (by omega);have h4:=h3.put ⟨2,0,4,2,0,0⟩ (by omega);have h5:=(h4.put ⟨1,0,3,0,0,1⟩ (by omega)).put ⟨3,6,4,3,0,0⟩ (by omega);have h6:=h5.zero 4 (c0).aO.length (by omega);have h7:=(h6.put ⟨1,0,3,0,0,(2*t.th+1)⟩ (by omega)).put ⟨3,2,2,3,0,0⟩ (by omega);have h8:=mP (t:=t) h7 2 rel (by omega);have h9:=NM (t:=t) h8 (by omega);have h10:=h9.put ⟨4,0,2,5,0,0⟩ (by omega);have h11:=h10.here (c0).aO.length;have h12:=(h11.put ⟨1,0,3,0,0,1⟩ (by omega)).put ⟨3,10,2,3,0,0⟩ (by omega);have CK:=h12.put ⟨4,0,4,7,0,t.base+0⟩ (by omega);have xY:=CK.put ⟨3,13,4,2,0,0⟩ (by omega);have ES:=mP (t:=t) xY 4 rel (by omega);refine ES.cast (by omega) ?_ ?_
 ·simp[lU,dh,gH,bB,Cd.label,fE,eD]<;>omega
 ·simp[pW,Cd.label,dh,gH,bB]
def mD (t:dI) (V:Nat->Int) (q:Nat):List bR:=[⟨4,0,6,7,0,t.base+2⟩,⟨1,0,5,0,0,t.log⟩,⟨7,0,6,0,0,V (q+1)⟩]++pR t V (q+2)++[⟨1,0,4,0,0,2⟩,⟨3,1,5,4,0,0⟩,⟨1,0,4,0,0,1⟩,⟨3,2,6,4,0,0⟩,⟨6,0,0,0,0,V (q)⟩]
def jE (p:Nat):List Int:=[((p+2:Nat):Int),((p+14:Nat):Int)]++nQ (p+3)
theorem kK (p:Nat):(jE p).length=2:=by simp[jE,qo]
theorem Io (h:At V c0 p ls R) (hp:p+14<=262144):At V (c0.uI t) (p+14) (ls++jE p) (R++mD t V ls.length):=by
 obtain rfl:=h.aO;have DD:c0.aO.length=c0.aO.length+0:=by rfl
 have h1:=h.label;have Ru:(c0.label).aO.length=c0.aO.length+1:=by simp[Cd.label]
 have h2:=h1.label;have h3:=h2.put ⟨4,0,6,7,0,t.base+2⟩ (by omega);have h4:=h3.put ⟨1,0,5,0,0,t.log⟩ (by omega);have h5:=h4.here (c0).aO.length;have h6:=h5.zero 6 (c0.label).aO.length (by omega);have h7:=Qr (t:=t) h6 (by omega);have h8:=(h7.put ⟨1,0,4,0,0,2⟩ (by omega)).put ⟨3,1,5,4,0,0⟩ (by omega);have h9:=(h8.put ⟨1,0,4,0,0,1⟩ (by omega)).put ⟨3,2,6,4,0,0⟩ (by omega);have h10:=h9.jump (c0).aO.length (by omega);have h11:=h10.here (c0.label).aO.length;refine h11.cast (by omega) ?_ ?_
 ·simp[jE,qo,Cd.label,fE,eD]<;>omega
 ·simp[mD,Cd.label,qo]
def lJ (t:dI) (V:Nat->Int) (q:Nat):List bR:=[⟨4,0,6,7,0,t.base+2⟩,⟨1,0,5,0,0,t.log⟩,⟨7,0,6,0,0,V (q+1)⟩]++oH t V (q+2)++[⟨1,0,4,0,0,2⟩,⟨3,1,5,4,0,0⟩,⟨1,0,4,0,0,1⟩,⟨3,2,6,4,0,0⟩,⟨6,0,0,0,0,V (q)⟩]
def jv (p:Nat):List Int:=[((p+2:Nat):Int),((p+11:Nat):Int)]++mO (p+3)
theorem iA (p:Nat):(jv p).length=2:=by simp[jv,o_]
theorem GG (h:At V c0 p ls R) (hp:p+11<=262144):At V (c0.uo t) (p+11) (ls++jv p) (R++lJ t V ls.length):=by
 obtain rfl:=h.aO;have DD:c0.aO.length=c0.aO.length+0:=by rfl
 have h1:=h.label;have Ru:(c0.label).aO.length=c0.aO.length+1:=by simp[Cd.label]
 have h2:=h1.label;have h3:=h2.put ⟨4,0,6,7,0,t.base+2⟩ (by omega);have h4:=h3.put ⟨1,0,5,0,0,t.log⟩ (by omega);have h5:=h4.here (c0).aO.length;have h6:=h5.zero 6 (c0.label).aO.length (by omega);have h7:=MK (t:=t) h6 (by omega);have h8:=(h7.put ⟨1,0,4,0,0,2⟩ (by omega)).put ⟨3,1,5,4,0,0⟩ (by omega);have h9:=(h8.put ⟨1,0,4,0,0,1⟩ (by omega)).put ⟨3,2,6,4,0,0⟩ (by omega);have h10:=h9.jump (c0).aO.length (by omega);have h11:=h10.here (c0.label).aO.length;refine h11.cast (by omega) ?_ ?_
 ·simp[jv,o_,Cd.label,fE,eD]<;>omega
 ·simp[lJ,Cd.label,o_]
def lI (t:dI) (V:Nat->Int) (q:Nat) (rel:Nat):List bR:=[⟨1,0,6,0,0,0⟩,⟨2,0,4,6,0,0⟩,⟨1,0,3,0,0,16⟩,⟨3,13,4,3,0,0⟩,⟨7,0,4,0,0,V (q+2)⟩,⟨4,0,4,7,0,t.base+7⟩,⟨3,10,4,6,0,0⟩,⟨1,0,3,0,0,1⟩,⟨3,6,4,3,0,0⟩,⟨7,0,4,0,0,V (q+1)⟩]++qh t V (q+3) rel++[⟨1,0,3,0,0,1⟩,⟨3,1,6,3,0,0⟩,⟨6,0,0,0,0,V (q)⟩]
def jC (p:Nat):List Int:=[((p+1:Nat):Int),((p+34:Nat):Int),((p+37:Nat):Int)]++lM (p+10)
theorem nI (p:Nat):(jC p).length=5:=by simp[jC,qp]
theorem IZ (h:At V c0 p ls R) (rel:Nat) (hp:p+37<=262144):At V (c0.ug t rel) (p+37) (ls++jC p) (R++lI t V ls.length rel):=by
 obtain rfl:=h.aO;have DD:c0.aO.length=c0.aO.length+0:=by rfl
 have h1:=h.label;have Ty:(c0.label).aO.length=c0.aO.length+1:=by simp[Cd.label]
 have h2:=h1.label;have Ru:(c0.label.label).aO.length=c0.aO.length+2:=by simp[Cd.label]
 have h3:=h2.label;have h4:=h3.put ⟨1,0,6,0,0,0⟩ (by omega);have h5:=h4.here (c0).aO.length;have h6:=h5.put ⟨2,0,4,6,0,0⟩ (by omega);have h7:=(h6.put ⟨1,0,3,0,0,16⟩ (by omega)).put ⟨3,13,4,3,0,0⟩ (by omega);have h8:=h7.zero 4 (c0.label.label).aO.length (by omega);have h9:=h8.put ⟨4,0,4,7,0,t.base+7⟩ (by omega);have h10:=h9.put ⟨3,10,4,6,0,0⟩ (by omega);have h11:=(h10.put ⟨1,0,3,0,0,1⟩ (by omega)).put ⟨3,6,4,3,0,0⟩ (by omega);have h12:=h11.zero 4 (c0.label).aO.length (by omega);have CK:=Sj (t:=t) h12 rel (by omega);have xY:=CK.here (c0.label).aO.length;have ES:=(xY.put ⟨1,0,3,0,0,1⟩ (by omega)).put ⟨3,1,6,3,0,0⟩ (by omega);have h16:=ES.jump (c0).aO.length (by omega);have Mt:=h16.here (c0.label.label).aO.length;refine Mt.cast (by omega) ?_ ?_
 ·simp[jC,qp,Cd.label,fE,eD]<;>omega
 ·simp[lI,Cd.label,qp]
def lQ (t:dI) (V:Nat->Int) (q:Nat) (rel:Nat):List bR:=[⟨1,0,6,0,0,0⟩,⟨2,0,4,6,0,0⟩,⟨1,0,3,0,0,16⟩,⟨3,13,4,3,0,0⟩,⟨7,0,4,0,0,V (q+2)⟩,⟨4,0,4,7,0,t.base+1⟩,⟨3,10,4,6,0,0⟩,⟨1,0,3,0,0,1⟩,⟨3,6,4,3,0,0⟩,⟨7,0,4,0,0,V (q+1)⟩]++pW t V (q+3) rel++[⟨1,0,3,0,0,1⟩,⟨3,1,6,3,0,0⟩,⟨6,0,0,0,0,V (q)⟩]
def jq (p:Nat):List Int:=[((p+1:Nat):Int),((p+32:Nat):Int),((p+35:Nat):Int)]++lU (p+10)
theorem nH (p:Nat):(jq p).length=6:=by simp[jq,qx]
theorem Il (h:At V c0 p ls R) (rel:Nat) (hp:p+35<=262144):At V (c0.uu t rel) (p+35) (ls++jq p) (R++lQ t V ls.length rel):=by
 obtain rfl:=h.aO;have DD:c0.aO.length=c0.aO.length+0:=by rfl
 have h1:=h.label;have Ty:(c0.label).aO.length=c0.aO.length+1:=by simp[Cd.label]
 have h2:=h1.label;have Ru:(c0.label.label).aO.length=c0.aO.length+2:=by simp[Cd.label]
 have h3:=h2.label;have h4:=h3.put ⟨1,0,6,0,0,0⟩ (by omega);have h5:=h4.here (c0).aO.length;have h6:=h5.put ⟨2,0,4,6,0,0⟩ (by omega);have h7:=(h6.put ⟨1,0,3,0,0,16⟩ (by omega)).put ⟨3,13,4,3,0,0⟩ (by omega);have h8:=h7.zero 4 (c0.label.label).aO.length (by omega);have h9:=h8.put ⟨4,0,4,7,0,t.base+1⟩ (by omega);have h10:=h9.put ⟨3,10,4,6,0,0⟩ (by omega);have h11:=(h10.put ⟨1,0,3,0,0,1⟩ (by omega)).put ⟨3,6,4,3,0,0⟩ (by omega);have h12:=h11.zero 4 (c0.label).aO.length (by omega);have CK:=PR (t:=t) h12 rel (by omega);have xY:=CK.here (c0.label).aO.length;have ES:=(xY.put ⟨1,0,3,0,0,1⟩ (by omega)).put ⟨3,1,6,3,0,0⟩ (by omega);have h16:=ES.jump (c0).aO.length (by omega);have Mt:=h16.here (c0.label.label).aO.length;refine Mt.cast (by omega) ?_ ?_
 ·simp[jq,qx,Cd.label,fE,eD]<;>omega
 ·simp[lQ,Cd.label,qx]
def lF (t:dI) (V:Nat->Int) (q:Nat):List bR:=[⟨1,0,6,0,0,0⟩,⟨2,0,4,6,0,0⟩,⟨1,0,3,0,0,16⟩,⟨3,13,4,3,0,0⟩,⟨7,0,4,0,0,V (q+2)⟩,⟨4,0,4,7,0,t.base+6⟩,⟨3,10,4,6,0,0⟩,⟨1,0,3,0,0,1⟩,⟨3,6,4,3,0,0⟩,⟨7,0,4,0,0,V (q+1)⟩]++oC t V (q+3)++[⟨1,0,3,0,0,1⟩,⟨3,1,6,3,0,0⟩,⟨6,0,0,0,0,V (q)⟩]
def jw (p:Nat):List Int:=[((p+1:Nat):Int),((p+14:Nat):Int),((p+17:Nat):Int)]++kS (p+10)
theorem jF (p:Nat):(jw p).length=3:=by simp[jw,pz]
theorem IV (h:At V c0 p ls R) (hp:p+17<=262144):At V (c0.uH t) (p+17) (ls++jw p) (R++lF t V ls.length):=by
 obtain rfl:=h.aO;have DD:c0.aO.length=c0.aO.length+0:=by rfl
 have h1:=h.label;have Ty:(c0.label).aO.length=c0.aO.length+1:=by simp[Cd.label]
 have h2:=h1.label;have Ru:(c0.label.label).aO.length=c0.aO.length+2:=by simp[Cd.label]
 have h3:=h2.label;have h4:=h3.put ⟨1,0,6,0,0,0⟩ (by omega);have h5:=h4.here (c0).aO.length;have h6:=h5.put ⟨2,0,4,6,0,0⟩ (by omega);have h7:=(h6.put ⟨1,0,3,0,0,16⟩ (by omega)).put ⟨3,13,4,3,0,0⟩ (by omega);have h8:=h7.zero 4 (c0.label.label).aO.length (by omega);have h9:=h8.put ⟨4,0,4,7,0,t.base+6⟩ (by omega);have h10:=h9.put ⟨3,10,4,6,0,0⟩ (by omega);have h11:=(h10.put ⟨1,0,3,0,0,1⟩ (by omega)).put ⟨3,6,4,3,0,0⟩ (by omega);have h12:=h11.zero 4 (c0.label).aO.length (by omega);have CK:=NP (t:=t) h12 (by omega);have xY:=CK.here (c0.label).aO.length;have ES:=(xY.put ⟨1,0,3,0,0,1⟩ (by omega)).put ⟨3,1,6,3,0,0⟩ (by omega);have h16:=ES.jump (c0).aO.length (by omega);have Mt:=h16.here (c0.label.label).aO.length;refine Mt.cast (by omega) ?_ ?_
 ·simp[jw,pz,Cd.label,fE,eD]<;>omega
 ·simp[lF,Cd.label,pz]
def lZ (t:dI) (V:Nat->Int) (q:Nat):List bR:=[⟨1,0,6,0,0,0⟩,⟨2,0,4,6,0,0⟩,⟨1,0,3,0,0,16⟩,⟨3,13,4,3,0,0⟩,⟨7,0,4,0,0,V (q+2)⟩,⟨4,0,4,7,0,t.base+6⟩,⟨3,10,4,6,0,0⟩,⟨1,0,3,0,0,1⟩,⟨3,6,4,3,0,0⟩,⟨7,0,4,0,0,V (q+1)⟩]++oG t V (q+3)++[⟨1,0,3,0,0,1⟩,⟨3,1,6,3,0,0⟩,⟨6,0,0,0,0,V (q)⟩]
def jo (p:Nat):List Int:=[((p+1:Nat):Int),((p+18:Nat):Int),((p+21:Nat):Int)]++kM (p+10)
theorem kP (p:Nat):(jo p).length=3:=by simp[jo,pG]
theorem H_ (h:At V c0 p ls R) (hp:p+21<=262144):At V (c0.tV t) (p+21) (ls++jo p) (R++lZ t V ls.length):=by
 obtain rfl:=h.aO;have DD:c0.aO.length=c0.aO.length+0:=by rfl
 have h1:=h.label;have Ty:(c0.label).aO.length=c0.aO.length+1:=by simp[Cd.label]
 have h2:=h1.label;have Ru:(c0.label.label).aO.length=c0.aO.length+2:=by simp[Cd.label]
 have h3:=h2.label;have h4:=h3.put ⟨1,0,6,0,0,0⟩ (by omega);have h5:=h4.here (c0).aO.length;have h6:=h5.put ⟨2,0,4,6,0,0⟩ (by omega);have h7:=(h6.put ⟨1,0,3,0,0,16⟩ (by omega)).put ⟨3,13,4,3,0,0⟩ (by omega);have h8:=h7.zero 4 (c0.label.label).aO.length (by omega);have h9:=h8.put ⟨4,0,4,7,0,t.base+6⟩ (by omega);have h10:=h9.put ⟨3,10,4,6,0,0⟩ (by omega);have h11:=(h10.put ⟨1,0,3,0,0,1⟩ (by omega)).put ⟨3,6,4,3,0,0⟩ (by omega);have h12:=h11.zero 4 (c0.label).aO.length (by omega);have CK:=Nn (t:=t) h12 (by omega);have xY:=CK.here (c0.label).aO.length;have ES:=(xY.put ⟨1,0,3,0,0,1⟩ (by omega)).put ⟨3,1,6,3,0,0⟩ (by omega);have h16:=ES.jump (c0).aO.length (by omega);have Mt:=h16.here (c0.label.label).aO.length;refine Mt.cast (by omega) ?_ ?_
 ·simp[jo,pG,Cd.label,fE,eD]<;>omega
 ·simp[lZ,Cd.label,pG]
def rT (t:dI) (V:Nat->Int) (q:Nat) (rel:Nat):List bR:=[⟨1,0,2,0,0,0⟩]++mD t V (q)++[⟨5,0,7,2,0,t.base+7⟩]++lI t V (q+2) rel
def nN (p:Nat):List Int:=[]++jE (p+1)++jC (p+16)
theorem gG (p:Nat):(nN p).length=7:=by simp[nN,kK,nI]
theorem SG (h:At V c0 p ls R) (rel:Nat) (hp:p+53<=262144):At V (c0.aR t rel) (p+53) (ls++nN p) (R++rT t V ls.length rel):=by
 obtain rfl:=h.aO;have h1:=h.put ⟨1,0,2,0,0,0⟩ (by omega);have h2:=Io (t:=t) h1 (by omega);have h3:=h2.put ⟨5,0,7,2,0,t.base+7⟩ (by omega);have h4:=IZ (t:=t) h3 rel (by omega);refine h4.cast (by omega) ?_ ?_
 ·simp[nN,kK,nI,Cd.label,fE,eD]<;>omega
 ·simp[rT,Cd.label,kK,nI]
def ng (t:dI) (V:Nat->Int) (q:Nat) (rel:Nat):List bR:=lQ t V (q) rel
def j3 (p:Nat):List Int:=[]++jq (p)
theorem gN (p:Nat):(j3 p).length=6:=by simp[j3,nH]
theorem Kh (h:At V c0 p ls R) (rel:Nat) (hp:p+35<=262144):At V (c0.validate t rel) (p+35) (ls++j3 p) (R++ng t V ls.length rel):=by
 obtain rfl:=h.aO;have h1:=Il (t:=t) h rel (by omega);refine h1.cast (by omega) ?_ ?_
 ·simp[j3,nH,Cd.label,fE,eD]<;>omega
 ·simp[ng,Cd.label,nH]
def p9 (t:dI) (V:Nat->Int) (q:Nat) (abort:Nat):List bR:=[⟨4,0,0,7,0,t.base+2⟩,⟨7,0,0,0,0,V (q+1)⟩]++rT t V (q+4) (q)++[⟨1,0,1,0,0,1⟩,⟨9,0,7,1,0,t.words+1⟩,⟨1,0,4,0,0,1⟩,⟨3,1,1,4,0,0⟩,⟨5,0,7,1,0,t.base+7⟩,⟨2,0,2,1,0,0⟩,⟨1,0,4,0,0,2305843009213693952⟩,⟨3,13,2,4,0,0⟩]++gq t V (q+11) 2 (q+3)++[⟨13,0,0,0,0,7⟩]++ng t V (q+12) (q)++[⟨4,0,1,7,0,t.base+7⟩,⟨1,0,2,0,0,1⟩,⟨12,0,1,2,0,7⟩]++lJ t V (q+18)++[⟨4,0,1,7,0,t.base+7⟩,⟨3,1,1,1,0,0⟩]++lF t V (q+20)++[⟨6,0,0,0,0,V (q+2)⟩]++lZ t V (q+23)++[⟨6,0,0,0,0,V (abort)⟩,⟨4,0,1,7,0,t.base+0⟩,⟨12,0,1,7,0,7⟩]++uk t V (q+26)
def lY (p:Nat):List Int:=[((p+135:Nat):Int),((p+157:Nat):Int),((p+159:Nat):Int),((p+66:Nat):Int)]++nN (p+2)++eP (p+63)++j3 (p+66)++jv (p+104)++jw (p+117)++jo (p+135)++oV (p+159)
theorem vJ (p:Nat):(lY p).length=28:=by simp[lY,iA,gG,kP,jF,tu,bB,gN]
theorem Rs (h:At V c0 p ls R) (abort:Nat) (hp:p+169<=262144):At V (c0.aQ t abort) (p+169) (ls++lY p) (R++p9 t V ls.length abort):=by
 obtain rfl:=h.aO;have ah1:c0.aO.length=c0.aO.length+0:=by rfl
 have h1:=h.label;have ero:(c0.label).aO.length=c0.aO.length+1:=by simp[Cd.label]
 have h2:=h1.label;have etl:(c0.label.label).aO.length=c0.aO.length+2:=by simp[Cd.label]
 have h3:=h2.label;have ahL:(c0.label.label.label).aO.length=c0.aO.length+3:=by simp[Cd.label]
 have h4:=h3.label;have h5:=h4.put ⟨4,0,0,7,0,t.base+2⟩ (by omega);have h6:=h5.zero 0 (c0.label).aO.length (by omega);have h7:=SG (t:=t) h6 ((c0).aO.length) (by omega);have h8:=h7.put ⟨1,0,1,0,0,1⟩ (by omega);have h9:=h8.put ⟨9,0,7,1,0,t.words+1⟩ (by omega);have h10:=(h9.put ⟨1,0,4,0,0,1⟩ (by omega)).put ⟨3,1,1,4,0,0⟩ (by omega);have h11:=h10.put ⟨5,0,7,1,0,t.base+7⟩ (by omega);have h12:=h11.put ⟨2,0,2,1,0,0⟩ (by omega);have CK:=(h12.put ⟨1,0,4,0,0,2305843009213693952⟩ (by omega)).put ⟨3,13,2,4,0,0⟩ (by omega);have xY:=mP (t:=t) CK 2 ((c0.label.label.label).aO.length) (by omega);have ES:=xY.put ⟨13,0,0,0,0,7⟩ (by omega);have h16:=ES.here (c0.label.label.label).aO.length;have Mt:=Kh (t:=t) h16 ((c0).aO.length) (by omega);have h18:=Mt.put ⟨4,0,1,7,0,t.base+7⟩ (by omega);have h19:=h18.put ⟨1,0,2,0,0,1⟩ (by omega);have h20:=h19.put ⟨12,0,1,2,0,7⟩ (by omega);have h21:=GG (t:=t) h20 (by omega);have h22:=h21.put ⟨4,0,1,7,0,t.base+7⟩ (by omega);have h23:=h22.put ⟨3,1,1,1,0,0⟩ (by omega);have h24:=IV (t:=t) h23 (by omega);have h25:=h24.jump (c0.label.label).aO.length (by omega);have h26:=h25.here (c0).aO.length;have h27:=H_ (t:=t) h26 (by omega);have h28:=h27.jump abort (by omega);have h29:=h28.here (c0.label).aO.length;have h30:=h29.put ⟨4,0,1,7,0,t.base+0⟩ (by omega);have h31:=h30.put ⟨12,0,1,7,0,7⟩ (by omega);have h32:=h31.here (c0.label.label).aO.length;have h33:=Ya (t:=t) h32 (by omega);refine h33.cast (by omega) ?_ ?_
 ·simp[lY,iA,gG,kP,jF,tu,bB,gN,Cd.label,fE,eD]<;>omega
 ·simp[p9,Cd.label,iA,gG,kP,jF,tu,bB,gN]
def pM (t:dI) (V:Nat->Int) (q:Nat):List bR:=[⟨4,0,1,7,0,t.base+4⟩,⟨5,0,7,1,0,t.base+5⟩,⟨5,0,7,7,0,t.base+1⟩,⟨5,0,7,7,0,t.base+2⟩,⟨5,0,7,7,0,t.base+3⟩,⟨5,0,7,7,0,t.base+6⟩,⟨15,0,0,7,0,t.words+1⟩,⟨5,0,7,0,0,t.base+0⟩]
def kJ (p:Nat):List Int:=[]
theorem Cm (p:Nat):(kJ p).length=0:=by simp[kJ]
theorem PD (h:At V c0 p ls R) (hp:p+8<=262144):At V (c0.Al t) (p+8) (ls++kJ p) (R++pM t V ls.length):=by
 obtain rfl:=h.aO;have h1:=h.put ⟨4,0,1,7,0,t.base+4⟩ (by omega);have h2:=h1.put ⟨5,0,7,1,0,t.base+5⟩ (by omega);have h3:=h2.put ⟨5,0,7,7,0,t.base+1⟩ (by omega);have h4:=h3.put ⟨5,0,7,7,0,t.base+2⟩ (by omega);have h5:=h4.put ⟨5,0,7,7,0,t.base+3⟩ (by omega);have h6:=h5.put ⟨5,0,7,7,0,t.base+6⟩ (by omega);have h7:=h6.put ⟨15,0,0,7,0,t.words+1⟩ (by omega);have h8:=h7.put ⟨5,0,7,0,0,t.base+0⟩ (by omega);refine h8.cast (by omega) ?_ ?_
 ·simp[kJ]
 ·simp[pM,Cd.label]
def qf (t:dI) (V:Nat->Int) (q:Nat) (oJ:Int) (mY:Int) (ov:Int) (abort:Nat):List bR:=[⟨1,0,1,0,0,mY⟩]++tN t V (q) abort++[⟨4,0,1,7,0,t.sum⟩,⟨3,1,1,2,0,0⟩,⟨5,0,7,1,0,t.sum⟩]
def lV (p:Nat):List Int:=[]++oU (p+1)
theorem BZ (p:Nat):(lV p).length=7:=by simp[lV,sV]
theorem Q3 (h:At V c0 p ls R) (oJ:Int) (mY:Int) (ov:Int) (abort:Nat) (hp:p+48<=262144):At V (c0.AR t oJ mY ov abort) (p+48) (ls++lV p) (R++qf t V ls.length oJ mY ov abort):=by
 obtain rfl:=h.aO;have h1:=h.put ⟨1,0,1,0,0,mY⟩ (by omega);have h2:=YS (t:=t) h1 abort (by omega);have h3:=h2.put ⟨4,0,1,7,0,t.sum⟩ (by omega);have h4:=h3.put ⟨3,1,1,2,0,0⟩ (by omega);have h5:=h4.put ⟨5,0,7,1,0,t.sum⟩ (by omega);refine h5.cast (by omega) ?_ ?_
 ·simp[lV,sV,Cd.label,fE,eD]<;>omega
 ·simp[qf,Cd.label,sV]
def pY (t:dI) (V:Nat->Int) (q:Nat) (oJ:Int) (mY:Int) (ov:Int) (abort:Nat):List bR:=[⟨1,0,1,0,0,mY⟩,⟨4,0,2,7,0,t.sum⟩,⟨1,0,3,0,0,ov⟩,⟨3,1,2,3,0,0⟩]++rP t V (q)
def lT (p:Nat):List Int:=[]++nK (p+4)
theorem Ch (p:Nat):(lT p).length=6:=by simp[lT,rE]
theorem Rb (h:At V c0 p ls R) (oJ:Int) (mY:Int) (ov:Int) (abort:Nat) (hp:p+33<=262144):At V (c0.AA t oJ mY ov abort) (p+33) (ls++lT p) (R++pY t V ls.length oJ mY ov abort):=by
 obtain rfl:=h.aO;have h1:=h.put ⟨1,0,1,0,0,mY⟩ (by omega);have h2:=h1.put ⟨4,0,2,7,0,t.sum⟩ (by omega);have h3:=(h2.put ⟨1,0,3,0,0,ov⟩ (by omega)).put ⟨3,1,2,3,0,0⟩ (by omega);have h4:=Ww (t:=t) h3 (by omega);refine h4.cast (by omega) ?_ ?_
 ·simp[lT,rE,Cd.label,fE,eD]<;>omega
 ·simp[pY,Cd.label,rE]
end
end Go.Proofs.YtopdcjimpdalpaaGreat

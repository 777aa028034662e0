import Derived.Test.YtopdcjimpdalpaaGreatQ22
import Derived.Deep.CutRange
namespace Go.Proofs.YtopdcjimpdalpaaGreat
open Go.RowKit
set_option linter.all false
set_option maxHeartbeats 8000000
set_option maxRecDepth 100000
section
variable {w w':World}
def dM (n:Nat):List Int:=List.replicate n 32
def yF (words:Int) (n:Nat):List gP:=PY words (dM n)
def dz (words:Int) (n:Nat):Int:=mkS words (dM n)
theorem DR (zs:List Int):∀{s:Int×Bool},(∀z∈zs,0<=z)->qR s.1->(fin zs s).2=false->dN (placesOf zs s)=zs:=by
 induction zs with
 |nil=>intro s _ _ _;rfl
 |cons n l ih=>
  intro s hz hs hf;have hn:=hz n List.mem_cons_self;have h1:=iU hn hs;have h2:=iU (n:=128) (by decide) h1;have h3:=iU (n:=64) (by decide) h2;have h4:=iU (n:=4096) (by decide) h3;have ht:(tk n s).1=s.1+n:=by
   unfold tk;split
   ·rename_i hc;exfalso;have:(fin l (FI n s)).2=true:=BQ l (rG (rG (rG (by unfold tk;rw[if_pos hc]))));unfold fin at hf;rw[this] at hf;cases hf
   ·rfl
  unfold placesOf dN;rw[List.map_cons];congr 1
  ·unfold p9 wrap64;obtain⟨a1,a2⟩:=hs;obtain⟨b1,b2⟩:=h1;simp only;rw[ht] at b1 b2⊢;omega
  ·exact ih (fun z hm=>hz z (List.mem_cons_of_mem _ hm)) h4 hf
theorem tT (n:Nat):∀z∈dM n,0<=z:=fun z hz=>by rw[(List.mem_replicate.1 hz).2];decide
theorem AA {words:Int} {n:Nat} (h:fK words (dM n)=0):ic words (dz words n) (yF words n)/\(yF words n).length=n:=by
 have hw:=o7 h;have hp:yF words n=placesOf (dM n) (s0 words):=if_pos h;have hf:(fin (dM n) (s0 words)).2=false:=by
  cases hq:(fin (dM n) (s0 words)).2 with
  |false=>rfl
  |true=>
   exfalso;unfold fK at h;split at h
   ·cases h
   ·split at h
    ·cases h
    ·split at h
     ·cases h
     ·first
      |cases h
      |(rw[if_pos hq] at h;cases h)
 have hfr:dN (yF words n)=dM n:=by
  rw[hp];exact DR _ (tT n) (iU (by decide) (iU hw.1 ⟨by decide,by decide⟩)) hf
 refine⟨⟨fun p hp'=>?_,by rw[hfr];exact h,by rw[hfr];rfl,by rw[hfr];rfl⟩,by rw[hp,qy];simp[dM]⟩;have:p9 p∈dM n:=by rw[<-hfr];exact List.mem_map_of_mem hp'
 rw[(List.mem_replicate.1 this).2];decide
def fE (words:Int) (n i:Nat):dw:=nN words (dz words n) ((yF words n).getD i ⟨0,0,0,0,0⟩) i
def Ns (words:Int) (n i:Nat) (rows:List (List Tx)):Cd:=(gU (fE words n i) rows).halt
def xA (p:Value×List (Value×List Tx)):List Value:=[p.1]
theorem qc:∀p,(xA p).length=1:=fun _=>rfl
structure xu (w:World) (v:Value) (ts:List (Value×List (Value×List Tx))):Prop where
 rows:fI xA w 1 v ts
 each:∀p∈ts,qo w p.1 p.2
 tot:∀p∈ts,di p.2<=262144
theorem xu.below {v:Value} {ts:List (Value×List (Value×List Tx))} (h:xu w v ts) (hb:Below w.heap.size w w'):xu w' v ts:=⟨Rd.below h.rows hb,fun p hp=>(h.each p hp).below hb,h.tot⟩
def rowsOf (p:Value×List (Value×List Tx)):List (List Tx):=p.2.map Prod.snd
structure p_ (w:World) (base:Nat) (cs:List (Nat×List bM)):Prop where
 blk:∀p∈cs,w.heap[p.1]? =some (.cells (p.2.flatMap bR).toArray 107 (0,0))/\base<=p.1
 inj:(cs.map Prod.fst).Nodup
def uH (p:Nat×List bM):Value:=.slice (some ⟨p.1,0,none⟩) p.2.length p.2.length
theorem p_.below {base:Nat} {cs:List (Nat×List bM)} (h:p_ w base cs) (hb:Below w.heap.size w w'):p_ w' base cs:=⟨fun p hp=>⟨Go.Proofs.YtopdcjimpdalpaaGreat.blk hb (h.blk p hp).1,(h.blk p hp).2⟩,h.inj⟩
def iN (cs:List (Nat×List bM)):Nat:=(cs.map fun p=>p.2.length).sum
structure mD (words:Int) (n:Nat) (ts:List (Value×List (Value×List Tx))) (cs:List (Nat×List bM)):Prop where
 len:cs.length=ts.length
 at_:∀(i:Nat) p t,cs[i]? =some p->ts[i]? =some t->p.2=(Ns words n i (rowsOf t)).done/\(Ns words n i (rowsOf t)).over=false
def Nc (words:Int) (ts:List (Value×List (Value×List Tx))):Prop:=
 4<ts.length\/fK words (dM ts.length)=3\/
 (∃i t j,ts[i]? =some t/\j<=t.2.length/\((gU (fE words ts.length i) ((t.2.take j).map Prod.snd)).over=true\/(gU (fE words ts.length i) ((t.2.take j).map Prod.snd)).halt.over=true))\/
 (∃i cs,i<=ts.length/\mD words ts.length (ts.take i) cs/\262144<iN cs)
def zI (words:Int) (ts:List (Value×List (Value×List Tx))) (w:World) (e:Ending) (w':World):Prop:=
 Below w.heap.size w w'/\
 ((∃en,e= .returned (.tuple #[.agg #[.slice none 0 0,.int .i64 0,.slice none 0 0],.int .i64 en])/\
   (en=1/\(words<0\/∃t∈ts,gN words t.2=false)\/en=3/\Nc words ts))\/
  ∃(co:Option Addr) (cc:Nat) (cs:List (Nat×List bM)),e= .returned (.tuple #[.agg #[.slice co cs.length cc,.int .i64 (dz words ts.length),.slice none 0 0],.int .i64 0])/\
   w'.ownsRow w.heap.size 57 1 (.slice co cs.length cc) cs.length (cs.map uH)/\p_ w' w.heap.size cs/\mD words ts.length ts cs/\iN cs<=262144/\
   fK words (dM ts.length)=0/\ts.length<=4/\∀t∈ts,gN words t.2=true)
theorem O0 (words:Int) (n:Nat):fK words (dM n)=0\/fK words (dM n)=1/\words<0\/fK words (dM n)=3:=by
 unfold fK;split
 ·rename_i h;exact .inr (.inl ⟨rfl,h⟩)
 ·split
  ·rename_i h;obtain⟨j,hj,hn⟩:=h;exfalso;have:=tT n (nth (dM n) j) (by unfold nth;rw[List.getD_eq_getElem?_getD,dZ hj];exact List.getElem_mem hj);omega
  ·split
   ·exact .inr (.inr rfl)
   ·split
    ·exact .inr (.inr rfl)
    ·exact .inl rfl
theorem rZ (n:Nat):(dM n).length=n:=by simp[dM]
def xB (n k:Nat):List Value:=(List.replicate k (32:Int)++List.replicate (n - k) 0).map (Value.int .i64)
theorem OX {n k:Nat} (h:k<n):(xB n k).set k (.int .i64 32)=xB n (k+1):=by
 unfold xB;rw[show n - k=(n - (k+1))+1 from by omega,List.replicate_succ,List.map_append,List.set_append_right _ _ (by simp),List.length_map,List.length_replicate,Nat.sub_self,List.map_cons,List.set_cons_zero,List.replicate_succ',List.append_assoc,List.map_append];rfl
theorem TJ {n k:Nat} (h:k<n):(xB n k)[k]? =some (.int .i64 0):=by
 unfold xB;rw[show n - k=(n - (k+1))+1 from by omega,List.replicate_succ,List.getElem?_map,List.getElem?_append_right (by simp),List.length_replicate,Nat.sub_self];rfl
theorem mD.snoc {words:Int} {n j:Nat} {ts:List (Value×List (Value×List Tx))} {cs:List (Nat×List bM)} {t:Value×List (Value×List Tx)} {p:Nat×List bM} (h:mD words n (ts.take j) cs) (ht:ts[j]? =some t)
  (hp:p.2=(Ns words n j (rowsOf t)).done/\(Ns words n j (rowsOf t)).over=false):mD words n (ts.take (j+1)) (cs++[p]):=by
 have hj:=(bE.1 ht).1;have hl:=h.len;rw[List.length_take,Nat.min_eq_left (by omega)] at hl;refine⟨by rw[List.length_append,List.length_take];simp;omega,fun i q u hq hu=>?_⟩;rcases Nat.lt_or_ge i j with hi|hi
 ·rw[List.getElem?_append_left (by omega)] at hq;rw[List.getElem?_take_of_lt (by omega)] at hu;exact h.at_ i q u hq (by rw[List.getElem?_take_of_lt hi];exact hu)
 ·have hi2:=(bE.1 hu).1;rw[List.length_take] at hi2;obtain rfl:i=j:=by omega
  rw[List.getElem?_append_right (by omega),hl,Nat.sub_self] at hq;simp only[List.getElem?_cons_zero,bU] at hq;subst hq;rw[List.getElem?_take_of_lt (by omega),ht] at hu;cases hu;exact hp
theorem Ls:(Tryz.prog.info? 57).map (fun i=>(i.zero,i.size,i.bytes))=some (some (.slice none 0 0),1,24):=by kernel_rfl
theorem EZ {ta:Option Addr} {tc:Nat} {ts:List (Value×List (Value×List Tx))} (h:xu w (.slice ta ts.length tc) ts) (hl:ts.length<=9000000000000) (words:Int):
  Calls Tryz.prog 11 #[.int .i64 words,.slice ta ts.length tc] w (zI words ts w):=by
 have H:=ag h;have HL:=ag hl;clear h;have HR0:=ag (aX w (.cells #[.slice none 0 0,.int .i64 0,.slice none 0 0] 30));have HB0:=ag ((aQ w.heap.size w).alloc (aR _) (.cells #[.slice none 0 0,.int .i64 0,.slice none 0 0] 30));obtain⟨i0,hi,hz0,hz1,hz2⟩:=info_parts zQ;by_cases h4:4<ts.length
 ·have q1:((ts.length:Int)>4):=by omega
  have H4:=ag h4;clear h4;go_in;go_wp2_with fail;refine bodyPost_ret (v:=.tuple #[.agg #[.slice none 0 0,.int .i64 0,.slice none 0 0],.int .i64 3]) (by simp[results,Tryz.results11,go_sem]) rfl ?_;exact⟨HB0.out,.inl ⟨3,rfl,.inr ⟨rfl,.inl H4.out⟩⟩⟩
 ·have q1:¬((ts.length:Int)>4):=by omega
  go_in;have H4:=ag h4;go_wp2_with (at_make;refine mq _ rfl _ _ 72 rfl 3 i0 _ 1 [.int .i64 0] Tryz.underlying72 hi hz0 hz1 rfl rfl (by decide) _ _ _ _ ts.length ts.length rfl rfl rfl rfl (aR _) (by rw[hz2];have:=H4.out;omega) (by have:=H4.out;unfold maxLen;omega) ?_);intro w1 hg1 hs1 hb1;have hb1:Below (w.alloc (.cells #[.slice none 0 0,.int .i64 0,.slice none 0 0] 30)).heap.size (w.alloc (.cells #[.slice none 0 0,.int .i64 0,.slice none 0 0] 30)) w1:=by first|exact hb1|(rw[World.size_alloc];exact hb1)
  have hg1:w1.heap[w.heap.size+1]? =_:=hg1;have hs1:w1.heap.size=w.heap.size+1+1:=hs1;obtain⟨br,hbr⟩:∃b,b=w.heap.size:=⟨_,rfl⟩;have tK:=ag hbr;have HR1:=ag (blk hb1 HR0.out);have HB1:=ag (HB0.out.trans (hb1.mono HB0.out.size));obtain⟨bf,hbf⟩:∃b,b=w.heap.size+1:=⟨_,rfl⟩;have HBF:=ag hbf;rw[<-hbf] at hg1⊢;rw[<-hbr] at HR1⊢;have HF1:=ag (show w1.heap[bf]? =some (.cells (xB ts.length 0).toArray 3 (0,0)) from by rw[hg1];unfold xB;simp);have HS1:=ag (show bf<w1.heap.size from by omega);clear hg1 hs1 hb1 hbr hbf HR0 HB0 hi hz0 hz1 hz2;go_wp2_with fail;have h4':ts.length<=4:=by have:=H4.out;omega
  go_loopw [25] (fun i wr=>∃k:Nat,k<=ts.length/\i= .int .i64 (k:Int)/\Hid (wr.heap[bf]? =some (.cells (xB ts.length k).toArray 3 (0,0)))/\Hid (Below w.heap.size w wr)/\Hid (wr.heap[br]? =some (.cells #[.slice none 0 0,.int .i64 0,.slice none 0 0] 30 (0,0)))) (fun i _=>((ts.length:Int) - intOf i).toNat)
  case atStart=>exact⟨0,Nat.zero_le _,rfl,HF1,HB1,HR1⟩
  case round=>
   obtain⟨k,hk,rfl,HF,HB,HR⟩:=hrel;clear HF1 HB1 HR1;by_cases hlt:k<ts.length
   ·have f0:wr.frozen? ⟨bf,k,none⟩=false:=aJ HF.out;have d0:wr.cell? ⟨bf,k,none⟩=some (.int .i64 0):=af HF.out (by rw[List.getElem?_toArray];exact TJ hlt);have Zn:=ag (show(wr.setCell ⟨bf,k,none⟩ (.int .i64 32)).heap[bf]? =some (.cells (xB ts.length (k+1)).toArray 3 (0,0)) from by
     rw[aK (o:=k) (.int .i64 32) HF.out,<-OX hlt];simp)
    have HB2:=ag (HB.out.setCell (p:=⟨bf,k,none⟩) (by have:=HBF.out;show w.heap.size<=bf;omega) (.int .i64 32));have HR2:=ag (jV (a:=⟨bf,k,none⟩) (u:=.int .i64 32) HR.out (by have:=HBF.out;have:=tK.out;show br≠bf;omega));have hw1:IntKind.i64.wrap ((k:Int)+1)=k+1:=IntWalk.i64_in _ (by omega);go_wp2_with fail;exact⟨⟨k+1,by omega,by go_num,Zn,HB2,HR2⟩,by simp[intOf];omega⟩
   ·obtain rfl:k=ts.length:=by omega
    have Xh:=ag (show Calls Tryz.prog 18 #[.int .i64 words,.slice (some ⟨bf,0,none⟩) ts.length ts.length] wr (rU words (dM ts.length) wr) from by
     have h9:=CF words (some ⟨bf,0,none⟩) (dM ts.length) ts.length wr ⟨_,_,rfl,by rw[rZ];exact aR _,fun i hi=>⟨bf,0,rfl,lt_of_block HF.out,af HF.out (by
      rw[rZ] at hi;unfold xB dM nth;simp[hi])⟩⟩ (by rw[rZ];omega)
     rw[rZ] at h9;exact h9)
    clear hlt;go_wp2_with fail;refine Xh.out.mono ?_;intro e w2 hm;obtain⟨mo,mc,rfl,hmo,hb2⟩:=MkU.of hm;have J4:=ag (dm hmo (Nat.zero_le _));have HB2:=ag (HB.out.trans (hb2.mono HB.out.size));have HR2:=ag (blk hb2 HR.out);have HMC:=ag (O0 words ts.length);clear hm hmo hb2 Xh;obtain⟨me,hme⟩:∃x,x=fK words (dM ts.length):=⟨_,rfl⟩;obtain⟨ms,hms⟩:∃x,x=mkS words (dM ts.length):=⟨_,rfl⟩;obtain⟨mw,hmw⟩:∃x,x=mkW words (dM ts.length):=⟨_,rfl⟩;obtain⟨mp,hmp⟩:∃x,x=PY words (dM ts.length):=⟨_,rfl⟩;rw[<-hmp] at J4;rw[<-hme,<-hms,<-hmw,<-hmp];have Re:=ag hme;have UD:=ag hms;have HMW:=ag hmw;have XE:=ag hmp;clear hme hms hmw hmp;by_cases he:me=0
    ·subst he;have yo:=ag ((HB2.out.alloc HB2.out.size (.cells #[.int .i64 mw,.slice mo mp.length mc,.int .i64 ms] 46)).alloc (by have:=HB2.out.size;rw[World.size_alloc];omega) (.cells #[.slice none 0 0,.int .i64 ms,.slice none 0 0] 30));have HR4:=ag (bz (o:=(.cells #[.slice none 0 0,.int .i64 ms,.slice none 0 0] 30)) (bz (o:=(.cells #[.int .i64 mw,.slice mo mp.length mc,.int .i64 ms] 46)) HR2.out));have HQ4:=ag (bz (o:=(.cells #[.slice none 0 0,.int .i64 ms,.slice none 0 0] 30)) (aX w2 (.cells #[.int .i64 mw,.slice mo mp.length mc,.int .i64 ms] 46)));have HM4:=ag (j3 w2 (.cells #[.int .i64 mw,.slice mo mp.length mc,.int .i64 ms] 46) (.cells #[.slice none 0 0,.int .i64 ms,.slice none 0 0] 30));have Yr:=ag (bD J4.out (((bH.refl (fun _=>False) w2).alloc (.cells #[.int .i64 mw,.slice mo mp.length mc,.int .i64 ms] 46)).alloc (.cells #[.slice none 0 0,.int .i64 ms,.slice none 0 0] 30)) (fun _ _ e=>e));have HS4:=ag (show w2.heap.size+2<=((w2.alloc (.cells #[.int .i64 mw,.slice mo mp.length mc,.int .i64 ms] 46)).alloc (.cells #[.slice none 0 0,.int .i64 ms,.slice none 0 0] 30)).heap.size from by rw[World.size_alloc,World.size_alloc];omega);have Mm:=ag (AA (words:=words) (n:=ts.length) Re.out.symm);go_wp2_with fail;obtain⟨bm,hbm⟩:∃b,b=w2.heap.size+1:=⟨_,rfl⟩;obtain⟨bq,hbq⟩:∃b,b=w2.heap.size:=⟨_,rfl⟩;have UK:=ag (show w.heap.size<=bq/\bm=bq+1/\br<bq from by have h1:=lt_of_block HR2.out;have h2:=HB2.out.size;omega);rw[<-hbm] at HM4⊢;rw[<-hbq] at HQ4 HS4⊢;clear hbm hbq;generalize(w2.alloc (.cells #[.int .i64 mw,.slice mo mp.length mc,.int .i64 ms] 46)).alloc (.cells #[.slice none 0 0,.int .i64 ms,.slice none 0 0] 30)=w4 at yo HR4 HQ4 HM4 Yr HS4⊢;have hmw:mw=words:=by rw[HMW.out];exact if_pos Re.out.symm
     rw[hmw] at HQ4⊢;have HPM:=ag (show ic words ms mp/\mp.length=ts.length from by rw[UD.out,XE.out];exact Mm.out);clear hmw HMC;have h4':ts.length<=4:=by have:=H4.out;omega
     go_loopw [47,11] (fun i cv wr=>∃(j:Nat) (cs:List (Nat×List bM)) (co:Option Addr) (cc:Nat),j<=ts.length/\i= .int .i64 (j:Int)/\cv= .int .i64 (iN cs:Int)/\Hid (cs.length=j)/\Hid (iN cs<=262144)/\Hid (wr.heap[bm]? =some (.cells #[.slice co j cc,.int .i64 ms,.slice none 0 0] 30 (0,0)))/\Hid (wr.ownsRow (bm+1) 57 1 (.slice co j cc) j (cs.map uH))/\Hid (p_ wr (bm+1) cs)/\Hid (mD words ts.length (ts.take j) cs)/\Hid (∀t∈ts.take j,gN words t.2=true)/\
      Hid (wr.heap[bq]? =some (.cells #[.int .i64 words,.slice mo mp.length mc,.int .i64 ms] 46 (0,0)))/\Hid (wr.heap[br]? =some (.cells #[.slice none 0 0,.int .i64 0,.slice none 0 0] 30 (0,0)))/\Hid (Below w.heap.size w wr)/\Hid (wr.ownsRow 0 87 5 (.slice mo mp.length mc) mp.length (mp.flatMap FE))/\Hid (bm+1<=wr.heap.size)) (fun i _ _=>((ts.length:Int) - intOf i).toNat)
     case atStart=>exact⟨0,[],none,0,Nat.zero_le _,rfl,rfl,ag rfl,ag (by simp[iN]),HM4,ag (World.ownsRow_nil _ _ _ _),ag ⟨fun p hp=>(by cases hp),List.nodup_nil⟩,ag ⟨by simp,fun i p t hp=>by simp at hp⟩,ag (fun t ht=>by simp at ht),HQ4,HR4,yo,Yr,ag (by have:=HS4.out;have:=UK.out;omega)⟩
     case round=>
      obtain⟨j,cs,co,cc,hj,rfl,rfl,NA,aar,HM,HO,Zz,HCA,zC,HQ,UB,Fa,HPR,Xc⟩:=hrel;clear HM4 HQ4 HR4 yo Yr;have h4':ts.length<=4:=by have:=H4.out;omega
      by_cases hlt:j<ts.length
      ·obtain⟨⟨tv,rows⟩,hx⟩:=bW hlt;obtain⟨g9,ado,rfl,hg9,hc⟩:=fI.at qc (Rd.below H.out.rows Fa.out) hx;have d0:=hc 0 _ rfl;simp only[Nat.mul_one,Nat.add_zero] at d0;have hE:=(H.out.each _ (bA hx)).below Fa.out;obtain⟨ro,rc,AJ⟩:=Rd.shape hE.rows;simp only at AJ;subst AJ;have HE:=ag hE;have Uo:=ag (show di rows<=262144 from H.out.tot _ (bA hx));have HX:=ag hx;have Nn:=ag (dx hx);have q0:wr.cell? ⟨bq,0,none⟩=some (.int .i64 words):=af HQ.out rfl;have q1:wr.cell? ⟨bq,1,none⟩=some (.slice mo mp.length mc):=af HQ.out rfl;have q2:wr.cell? ⟨bq,2,none⟩=some (.int .i64 ms):=af HQ.out rfl;have hw1:IntKind.i64.wrap ((j:Int)+1)=j+1:=IntWalk.i64_in _ (by omega);clear hx hc hE;go_wp2_with fail;refine(Ga (ps:=mp) (rs:=rows) (Rd.iV HPR.out) HE.out (by have:=HPM.out.2;omega) Uo.out words ms (j:Int)).mono ?_;rintro e w5 ⟨hb5,hpost⟩;have qj:=ag (Fa.out.trans (hb5.mono Fa.out.size));have ZC:=ag (bD HPR.out (bH.of_below (S:=fun _=>False) hb5) (fun _ _ e=>e));have DJ:=ag (blk hb5 UB.out);have HQ5:=ag (blk hb5 HQ.out);have Xf:=ag (blk hb5 HM.out);have UJ:=ag (bD HO.out (bH.of_below (S:=fun _=>False) hb5) (fun _ _ e=>e));have aaK:=ag (Zz.out.below hb5);have Vu:=ag (Nat.le_trans Xc.out hb5.size);have HWS:=ag hb5.size;clear hb5 d0 q0 q1 q2;rcases hpost with⟨rfl,hno⟩|⟨k,p,hk,hp,Xb,hok,hpost⟩
       ·have JJ:=ag (show gN words rows=false from by
         cases hq:gN words rows with
         |false=>rfl
         |true=>exact absurd ⟨HPM.out.1,by omega,by have:=HPM.out.2;omega,hq⟩ hno)
        clear hno;have r0:w5.cell? ⟨br,0,none⟩=some (.slice none 0 0):=af DJ.out rfl;have r1:w5.cell? ⟨br,1,none⟩=some (.int .i64 0):=af DJ.out rfl;have r2:w5.cell? ⟨br,2,none⟩=some (.slice none 0 0):=af DJ.out rfl;have Su:w5.frozen? ⟨br,0,none⟩=false:=aJ DJ.out;have Vw:w5.frozen? ⟨br,1,none⟩=false:=aJ DJ.out;have V5:w5.frozen? ⟨br,2,none⟩=false:=aJ DJ.out;go_wp2_with fail;have E5:=ag (show Below w.heap.size w (((w5.setCell ⟨br,0,none⟩ (.slice none 0 0)).setCell ⟨br,1,none⟩ (.int .i64 0)).setCell ⟨br,2,none⟩ (.slice none 0 0)) from((qj.out.setCell (p:=⟨br,0,none⟩) (Nat.le_of_eq tK.out.symm) _).setCell (p:=⟨br,1,none⟩) (Nat.le_of_eq tK.out.symm) _).setCell (p:=⟨br,2,none⟩) (Nat.le_of_eq tK.out.symm) _);have hfin:=aK (o:=2) (.slice none 0 0) (aK (o:=1) (.int .i64 0) (aK (o:=0) (.slice none 0 0) DJ.out));generalize(((w5.setCell ⟨br,0,none⟩ (.slice none 0 0)).setCell ⟨br,1,none⟩ (.int .i64 0)).setCell ⟨br,2,none⟩ (.slice none 0 0))=w9 at E5 hfin⊢;have k0:w9.cell? ⟨br,0,none⟩=some (.slice none 0 0):=af hfin rfl;have k1:w9.cell? ⟨br,1,none⟩=some (.int .i64 0):=af hfin rfl;have k2:w9.cell? ⟨br,2,none⟩=some (.slice none 0 0):=af hfin rfl;clear hfin r0 r1 r2 Su Vw V5;refine bodyPost_ret (v:=.tuple #[.agg #[.slice none 0 0,.int .i64 0,.slice none 0 0],.int .i64 1]) (by simp[results,Tryz.results11,go_sem,k0,k1,k2]) rfl ?_;exact⟨E5.out,.inl ⟨1,rfl,.inl ⟨rfl,.inr ⟨_,bA HX.out,JJ.out⟩⟩⟩⟩
       ·obtain rfl:k=j:=by omega
        have htx:nN words ms p k=fE words ts.length k:=by
         unfold fE dz yF;rw[<-XE.out,<-UD.out,List.getD_eq_getElem?_getD,hp];rfl
        rw[htx] at hpost;have adD:=ag hok;clear hk hp Xb htx hok;rcases hpost with⟨rfl,jj,hjj,hov⟩|⟨g,rfl,hg,hge,hov,Bo⟩
        ·have UU:=ag (show Nc words ts from .inr (.inr (.inl ⟨k,_,jj,HX.out,hjj,hov⟩)));clear hjj hov;have r0:w5.cell? ⟨br,0,none⟩=some (.slice none 0 0):=af DJ.out rfl;have r1:w5.cell? ⟨br,1,none⟩=some (.int .i64 0):=af DJ.out rfl;have r2:w5.cell? ⟨br,2,none⟩=some (.slice none 0 0):=af DJ.out rfl;have Su:w5.frozen? ⟨br,0,none⟩=false:=aJ DJ.out;have Vw:w5.frozen? ⟨br,1,none⟩=false:=aJ DJ.out;have V5:w5.frozen? ⟨br,2,none⟩=false:=aJ DJ.out;go_wp2_with fail;have E5:=ag (show Below w.heap.size w (((w5.setCell ⟨br,0,none⟩ (.slice none 0 0)).setCell ⟨br,1,none⟩ (.int .i64 0)).setCell ⟨br,2,none⟩ (.slice none 0 0)) from((qj.out.setCell (p:=⟨br,0,none⟩) (Nat.le_of_eq tK.out.symm) _).setCell (p:=⟨br,1,none⟩) (Nat.le_of_eq tK.out.symm) _).setCell (p:=⟨br,2,none⟩) (Nat.le_of_eq tK.out.symm) _);have hfin:=aK (o:=2) (.slice none 0 0) (aK (o:=1) (.int .i64 0) (aK (o:=0) (.slice none 0 0) DJ.out));generalize(((w5.setCell ⟨br,0,none⟩ (.slice none 0 0)).setCell ⟨br,1,none⟩ (.int .i64 0)).setCell ⟨br,2,none⟩ (.slice none 0 0))=w9 at E5 hfin⊢;have k0:w9.cell? ⟨br,0,none⟩=some (.slice none 0 0):=af hfin rfl;have k1:w9.cell? ⟨br,1,none⟩=some (.int .i64 0):=af hfin rfl;have k2:w9.cell? ⟨br,2,none⟩=some (.slice none 0 0):=af hfin rfl;clear hfin r0 r1 r2 Su Vw V5;refine bodyPost_ret (v:=.tuple #[.agg #[.slice none 0 0,.int .i64 0,.slice none 0 0],.int .i64 3]) (by simp[results,Tryz.results11,go_sem,k0,k1,k2]) rfl ?_;exact⟨E5.out,.inl ⟨3,rfl,.inr ⟨rfl,UU.out⟩⟩⟩
        ·obtain⟨D,hD⟩:∃D,D=(gU (fE words ts.length k) (rows.map Prod.snd)).halt.done:=⟨_,rfl⟩;have hDl:D.length=(gU (fE words ts.length k) (rows.map Prod.snd)).halt.ops.length:=by rw[hD,Sa]
         rw[<-hD] at hg;rw[<-hDl] at Bo⊢;have aaE:=ag (HCA.out.snoc (p:=(g,D)) HX.out ⟨hD,hov⟩);have adW:=ag (show ∀t∈ts.take (k+1),gN words t.2=true from fun t ht=>by
          rw[Nn.out] at ht;rcases List.mem_append.1 ht with ht|ht
          ·exact zC.out t ht
          ·simp at ht;subst ht;exact adD.out)
         have Ze:=ag (show iN (cs++[(g,D)])=iN cs+D.length from by unfold iN;rw[List.map_append,List.sum_append];simp);have abp:=ag (show p_ w5 (bm+1) (cs++[(g,D)]) from⟨fun p hp=>by
          rcases List.mem_append.1 hp with hp|hp
          ·exact aaK.out.blk p hp
          ·simp at hp;subst hp;exact⟨hg,Nat.le_trans Xc.out hge⟩,by
          rw[List.map_append,List.nodup_append];refine⟨aaK.out.inj,by simp,fun a ha b hb=>?_⟩;simp at hb;subst hb;obtain⟨p,hp,rfl⟩:=List.mem_map.1 ha;have h1:=lt_of_block (Zz.out.blk p hp).1;omega⟩)
         have aa1:=ag Bo;have hsum:=aar.out;have e2:IntKind.i64.wrap ((iN cs:Int)+(D.length:Int))=(iN cs:Int)+(D.length:Int):=IntWalk.i64_in _ (by omega);clear hD hDl hg hge hov;by_cases hbig:262144<iN cs+D.length
         ·have hd:(iN cs:Int)+(D.length:Int)>262144:=by omega
          have UU:=ag (show Nc words ts from .inr (.inr (.inr ⟨k+1,_,by omega,aaE.out,by rw[Ze.out];exact hbig⟩)));clear hbig hsum Bo;have r0:w5.cell? ⟨br,0,none⟩=some (.slice none 0 0):=af DJ.out rfl;have r1:w5.cell? ⟨br,1,none⟩=some (.int .i64 0):=af DJ.out rfl;have r2:w5.cell? ⟨br,2,none⟩=some (.slice none 0 0):=af DJ.out rfl;have Su:w5.frozen? ⟨br,0,none⟩=false:=aJ DJ.out;have Vw:w5.frozen? ⟨br,1,none⟩=false:=aJ DJ.out;have V5:w5.frozen? ⟨br,2,none⟩=false:=aJ DJ.out;go_wp2_with fail;have E5:=ag (show Below w.heap.size w (((w5.setCell ⟨br,0,none⟩ (.slice none 0 0)).setCell ⟨br,1,none⟩ (.int .i64 0)).setCell ⟨br,2,none⟩ (.slice none 0 0)) from((qj.out.setCell (p:=⟨br,0,none⟩) (Nat.le_of_eq tK.out.symm) _).setCell (p:=⟨br,1,none⟩) (Nat.le_of_eq tK.out.symm) _).setCell (p:=⟨br,2,none⟩) (Nat.le_of_eq tK.out.symm) _);have hfin:=aK (o:=2) (.slice none 0 0) (aK (o:=1) (.int .i64 0) (aK (o:=0) (.slice none 0 0) DJ.out));generalize(((w5.setCell ⟨br,0,none⟩ (.slice none 0 0)).setCell ⟨br,1,none⟩ (.int .i64 0)).setCell ⟨br,2,none⟩ (.slice none 0 0))=w9 at E5 hfin⊢;have k0:w9.cell? ⟨br,0,none⟩=some (.slice none 0 0):=af hfin rfl;have k1:w9.cell? ⟨br,1,none⟩=some (.int .i64 0):=af hfin rfl;have k2:w9.cell? ⟨br,2,none⟩=some (.slice none 0 0):=af hfin rfl;clear hfin r0 r1 r2 Su Vw V5;refine bodyPost_ret (v:=.tuple #[.agg #[.slice none 0 0,.int .i64 0,.slice none 0 0],.int .i64 3]) (by simp[results,Tryz.results11,go_sem,k0,k1,k2]) rfl ?_;exact⟨E5.out,.inl ⟨3,rfl,.inr ⟨rfl,UU.out⟩⟩⟩
         ·have hd:¬((iN cs:Int)+(D.length:Int)>262144):=by omega
          have adj:=ag hbig;clear hbig hsum Bo;have m0:w5.cell? ⟨bm,0,none⟩=some (.slice co k cc):=af Xf.out rfl;obtain⟨i1,hi,hz0,hz1,hz2⟩:=info_parts Ls;go_wp2_with (at_builtin;refine Hid.out ?_);refine fe _ rfl _ _ 27 rfl (bm+1) 57 i1 _ 1 24 Tryz.underlying27 hi hz0 hz1 hz2 rfl (by decide) (.slice co k cc) k _ (by simp[Act.eval]) (bD UJ.out ((bH.refl (fun _=>False) w5).alloc _) (fun _ _=>id)) ⟨w5.heap.size,0,none⟩ 1 1 [uH (g,D)] (by simp[Act.eval]) rfl ?c1 ?c2 ?c3 ?c4 ?c5 ?_
          case c1=>exact kK (aX _ _)
          case c2=>intro u hu;simp at hu;subst hu;rfl
          case c3=>unfold maxLen;omega
          case c4=>omega
          case c5=>have:=Vu.out;simp;omega
          intro Xa Xg w6 hown mI iW;have hc6:bH (fun q=>(Value.slice co k cc).ownBlock=some q) w5 w6:=((bH.refl (fun q=>(Value.slice co k cc).ownBlock=some q) w5).alloc _).grown iW (fun q hq=>.inl hq);have hbq:=UK.out;have hlow:∀q,(Value.slice co k cc).ownBlock=some q->bm+1<=q:=fun q hq=>(UJ.out.lt q hq).1
          have hm6:=gV hc6 Xf.out (fun e=>by have:=hlow _ e;omega);have hq6:=gV hc6 HQ5.out (fun e=>by have:=hlow _ e;omega);have hr6:=gV hc6 DJ.out (fun e=>by have:=hlow _ e;omega);have m1:w6.cell? ⟨bm,0,none⟩=some (.slice co k cc):=af hm6 rfl;have m2:w6.frozen? ⟨bm,0,none⟩=false:=aJ hm6;have hp6:=bD ZC.out hc6 (fun q hq=>GK ZC.out hq (dm UJ.out (Nat.zero_le _)) (by decide));have hcb:bH (fun q=>q=bm) w6 (w6.setCell ⟨bm,0,none⟩ (.slice Xa (k+1) Xg)):=(bH.refl (fun q=>q=bm) w6).setCell (p:=⟨bm,0,none⟩) (.inl rfl) _;have HM7:=ag (aK (o:=0) (.slice Xa (k+1) Xg) hm6);have HQ7:=ag (gV hcb hq6 (by omega));have QB:=ag (gV hcb hr6 (by omega));have HP7:=ag (bD hp6 hcb (fun q hq=>xY hp6 hq hm6 (by decide)));have HO7:=ag (show(w6.setCell ⟨bm,0,none⟩ (.slice Xa (k+1) Xg)).ownsRow (bm+1) 57 1 (.slice Xa (k+1) Xg) (k+1) ((cs++[(g,D)]).map uH) from by
           rw[List.map_append];exact bD hown hcb (fun q hq e=>by have:=(hown.lt q hq).1;omega))
          have acO:=ag (show p_ (w6.setCell ⟨bm,0,none⟩ (.slice Xa (k+1) Xg)) (bm+1) (cs++[(g,D)]) from⟨fun p hp=>by
           obtain⟨h1,h2⟩:=abp.out.blk p hp;refine⟨gV hcb (gV hc6 h1 (fun e=>xY UJ.out e h1 (by decide) rfl)) (by omega),h2⟩,abp.out.inj⟩)
          have nP:=ag (show Below w.heap.size w (w6.setCell ⟨bm,0,none⟩ (.slice Xa (k+1) Xg)) from(hc6.below qj.out qj.out.size (fun q hq=>by have:=hlow q hq;omega)).setCell (p:=⟨bm,0,none⟩) (by show w.heap.size<=bm;omega) _);have ach:=ag (show bm+1<=(w6.setCell ⟨bm,0,none⟩ (.slice Xa (k+1) Xg)).heap.size from Nat.le_trans Vu.out (Nat.le_trans hc6.size hcb.size));have aaR:=ag (show(cs++[(g,D)]).length=k+1 from by rw[List.length_append,NA.out];rfl);have aaX:=ag (show iN (cs++[(g,D)])<=262144 from by rw[Ze.out];have:=adj.out;omega);have hw1:IntKind.i64.wrap ((k:Int)+1)=k+1:=IntWalk.i64_in _ (by omega);clear hown mI iW hc6 hm6 hq6 hr6 hp6 hcb hlow hbq m0 hi hz0 hz1 hz2;go_wp2_with fail;exact⟨⟨k+1,_,Xa,Xg,by omega,by go_num,by rw[Ze.out];rfl,aaR,aaX,HM7,HO7,acO,aaE,adW,HQ7,QB,nP,HP7,ach⟩,by simp[intOf];omega⟩
      ·obtain rfl:j=ts.length:=by omega
       have hbq:=UK.out;have hm:=HM.out;have m0:wr.cell? ⟨bm,0,none⟩=some (.slice co ts.length cc):=af hm rfl;have m1:wr.cell? ⟨bm,1,none⟩=some (.int .i64 ms):=af hm rfl;have m2:wr.cell? ⟨bm,2,none⟩=some (.slice none 0 0):=af hm rfl;have Df:=ag (show ∀t∈ts,gN words t.2=true from fun t ht=>zC.out t (by rw[List.take_length];exact ht));have acg:=ag (show mD words ts.length ts cs from by have h9:=HCA.out;rw[List.take_length] at h9;exact h9);clear hm hbq;have r0:wr.cell? ⟨br,0,none⟩=some (.slice none 0 0):=af UB.out rfl;have r1:wr.cell? ⟨br,1,none⟩=some (.int .i64 0):=af UB.out rfl;have r2:wr.cell? ⟨br,2,none⟩=some (.slice none 0 0):=af UB.out rfl;have Su:wr.frozen? ⟨br,0,none⟩=false:=aJ UB.out;have Vw:wr.frozen? ⟨br,1,none⟩=false:=aJ UB.out;have V5:wr.frozen? ⟨br,2,none⟩=false:=aJ UB.out;go_wp2_with fail;have E5:=ag (show Below w.heap.size w (((wr.setCell ⟨br,0,none⟩ (.slice co ts.length cc)).setCell ⟨br,1,none⟩ (.int .i64 ms)).setCell ⟨br,2,none⟩ (.slice none 0 0)) from((Fa.out.setCell (p:=⟨br,0,none⟩) (Nat.le_of_eq tK.out.symm) _).setCell (p:=⟨br,1,none⟩) (Nat.le_of_eq tK.out.symm) _).setCell (p:=⟨br,2,none⟩) (Nat.le_of_eq tK.out.symm) _);have hfin:=aK (o:=2) (.slice none 0 0) (aK (o:=1) (.int .i64 ms) (aK (o:=0) (.slice co ts.length cc) UB.out));have Y4:bH (fun q=>q=br) wr (((wr.setCell ⟨br,0,none⟩ (.slice co ts.length cc)).setCell ⟨br,1,none⟩ (.int .i64 ms)).setCell ⟨br,2,none⟩ (.slice none 0 0)):=(((bH.refl (fun q=>q=br) wr).setCell (p:=⟨br,0,none⟩) (.inl rfl) _).setCell (p:=⟨br,1,none⟩) (.inl rfl) _).setCell (p:=⟨br,2,none⟩) (.inl rfl) _;have HO9:=ag (bD HO.out Y4 (fun q hq e=>by have:=(HO.out.lt q hq).1;have:=UK.out;omega));have HC9:=ag (show ∀p∈cs,((((wr.setCell ⟨br,0,none⟩ (.slice co ts.length cc)).setCell ⟨br,1,none⟩ (.int .i64 ms)).setCell ⟨br,2,none⟩ (.slice none 0 0))).heap[p.1]? =some (.cells (p.2.flatMap bR).toArray 107 (0,0))/\bm+1<=p.1 from fun p hp=>⟨gV Y4 (Zz.out.blk p hp).1 (by have:=(Zz.out.blk p hp).2;have:=UK.out;omega),(Zz.out.blk p hp).2⟩);clear Y4;generalize(((wr.setCell ⟨br,0,none⟩ (.slice co ts.length cc)).setCell ⟨br,1,none⟩ (.int .i64 ms)).setCell ⟨br,2,none⟩ (.slice none 0 0))=w9 at E5 hfin HO9 HC9⊢;have k0:w9.cell? ⟨br,0,none⟩=some (.slice co ts.length cc):=af hfin rfl;have k1:w9.cell? ⟨br,1,none⟩=some (.int .i64 ms):=af hfin rfl;have k2:w9.cell? ⟨br,2,none⟩=some (.slice none 0 0):=af hfin rfl;clear hfin r0 r1 r2 Su Vw V5;refine bodyPost_ret (v:=.tuple #[.agg #[.slice co ts.length cc,.int .i64 ms,.slice none 0 0],.int .i64 0]) (by simp[results,Tryz.results11,go_sem,k0,k1,k2]) rfl ?_;refine⟨E5.out,.inr ⟨co,cc,cs,?_,?_,?_,acg.out,aar.out,Re.out.symm,by have:=H4.out;omega,Df.out⟩⟩
       ·rw[NA.out,UD.out];rfl
       ·rw[NA.out];exact dm HO9.out (by have:=UK.out;omega)
       ·exact⟨fun p hp=>⟨(HC9.out p hp).1,by have:=(HC9.out p hp).2;have:=UK.out;omega⟩,Zz.out.inj⟩
    ·have hd:(me !=0)=true:=by simpa using he
     have HE:=ag he;have HB3:=ag (HB2.out.alloc HB2.out.size (.cells #[.int .i64 mw,.slice mo mp.length mc,.int .i64 ms] 46));have HR3:=ag (bz (o:=(.cells #[.int .i64 mw,.slice mo mp.length mc,.int .i64 ms] 46)) HR2.out);clear he;go_upto_region 10 with fail
     generalize w2.alloc (.cells #[.int .i64 mw,.slice mo mp.length mc,.int .i64 ms] 46)=w3 at HB3 HR3⊢;have r0:w3.cell? ⟨br,0,none⟩=some (.slice none 0 0):=af HR3.out rfl;have r1:w3.cell? ⟨br,1,none⟩=some (.int .i64 0):=af HR3.out rfl;have r2:w3.cell? ⟨br,2,none⟩=some (.slice none 0 0):=af HR3.out rfl;have Su:w3.frozen? ⟨br,0,none⟩=false:=aJ HR3.out;have Vw:w3.frozen? ⟨br,1,none⟩=false:=aJ HR3.out;have V5:w3.frozen? ⟨br,2,none⟩=false:=aJ HR3.out;go_wp2_with fail;have E5:=ag (show Below w.heap.size w (((w3.setCell ⟨br,0,none⟩ (.slice none 0 0)).setCell ⟨br,1,none⟩ (.int .i64 0)).setCell ⟨br,2,none⟩ (.slice none 0 0)) from((HB3.out.setCell (p:=⟨br,0,none⟩) (Nat.le_of_eq tK.out.symm) _).setCell (p:=⟨br,1,none⟩) (Nat.le_of_eq tK.out.symm) _).setCell (p:=⟨br,2,none⟩) (Nat.le_of_eq tK.out.symm) _);have hfin:=aK (o:=2) (.slice none 0 0) (aK (o:=1) (.int .i64 0) (aK (o:=0) (.slice none 0 0) HR3.out));generalize(((w3.setCell ⟨br,0,none⟩ (.slice none 0 0)).setCell ⟨br,1,none⟩ (.int .i64 0)).setCell ⟨br,2,none⟩ (.slice none 0 0))=w4 at E5 hfin⊢;have k0:w4.cell? ⟨br,0,none⟩=some (.slice none 0 0):=af hfin rfl;have k1:w4.cell? ⟨br,1,none⟩=some (.int .i64 0):=af hfin rfl;have k2:w4.cell? ⟨br,2,none⟩=some (.slice none 0 0):=af hfin rfl;clear hfin r0 r1 r2 Su Vw V5;refine bodyPost_ret (v:=.tuple #[.agg #[.slice none 0 0,.int .i64 0,.slice none 0 0],.int .i64 me]) (by simp[results,Tryz.results11,go_sem,k0,k1,k2]) rfl ?_;refine⟨E5.out,.inl ⟨me,rfl,?_⟩⟩;rcases HMC.out with h9|⟨h9,h8⟩|h9
     ·exact absurd (by rw[Re.out];exact h9) HE.out
     ·exact .inl ⟨by rw[Re.out];exact h9,.inl h8⟩
     ·exact .inr ⟨by rw[Re.out];exact h9,.inr (.inl h9)⟩
end
section
def rsv (V:Nat->Int) (c:Cd):List bM:=c.ops.mapIdx (fun i o=>match y8 c.jmp i with
 |none=>o
 |some q=>{o with n:=V q})
structure At (V:Nat->Int) (c:Cd) (p:Nat) (ls:List Int) (R:List bM):Prop where
 over:c.over=false
 len:c.ops.length=p
 aI:c.aI=ls
 keys:∀x∈c.jmp,x.1<p
 res:rsv V c=R
variable {V:Nat->Int} {c c0:Cd} {p:Nat} {ls:List Int} {R:List bM} {t:dw}
theorem BS (l:List (Nat×Nat)) (x:Nat×Nat) (i:Nat):y8 (l++[x]) i=if x.1=i then some x.2 else y8 l i:=by unfold y8;rw[List.foldl_append];rfl
theorem Kg {l:List (Nat×Nat)} {n:Nat} (h:∀x∈l,x.1<n) {i:Nat} (hi:n<=i):y8 l i=none:=by
 have key:∀(l:List (Nat×Nat)) (a:Nat->Option Nat),(∀x∈l,x.1<n)->a i=none->l.foldl (fun a p i=>if p.1=i then some p.2 else a i) a i=none:=by
  intro l;induction l with
  |nil=>intro a _ ha;exact ha
  |cons x l ih=>
   intro a hl ha;refine ih _ (fun y hy=>hl y (List.mem_cons_of_mem _ hy)) ?_;have:=hl x List.mem_cons_self;show(if x.1=i then some x.2 else a i)=none;rw[if_neg (by omega)];exact ha
 exact key l _ h rfl
theorem At.cast (h:At V c p ls R) {p':Nat} {ls':List Int} {R':List bM} (hp:p=p') (hl:ls=ls') (hR:R=R'):At V c p' ls' R':=by subst hp;subst hl;subst hR;exact h
theorem At.put (h:At V c p ls R) (o:bM) (hp:p<262144):At V (c.put o) (p+1) ls (R++[o]):=by
 have e:c.put o={c with ops:=c.ops++[o]}:=by unfold Cd.put;rw[if_neg (by rw[h.len];omega)]
 rw[e];refine⟨h.over,by simp[h.len],h.aI,fun x hx=>Nat.lt_succ_of_lt (h.keys x hx),?_⟩;have hr:=h.res;unfold rsv at hr⊢;simp only;rw[List.mapIdx_append,hr];congr 1
 simp only[List.mapIdx_cons,List.mapIdx_nil,Nat.zero_add,h.len,Kg h.keys (aR _)]
theorem At.mark (h:At V c p ls R) (l:Nat) (o:bM) (hp:p<262144):At V ((c.mark l).put o) (p+1) ls (R++[{o with n:=V l}]):=by
 have e:(c.mark l).put o={c with ops:=c.ops++[o],jmp:=c.jmp++[(c.ops.length,l)]}:=by
  unfold Cd.put Cd.mark;simp only;rw[if_neg (by rw[h.len];omega)]
 rw[e];refine⟨h.over,by simp[h.len],h.aI,fun x hx=>?_,?_⟩
 ·rcases List.mem_append.1 hx with hx|hx
  ·exact Nat.lt_succ_of_lt (h.keys x hx)
  ·simp at hx;rw[hx];simp[h.len]
 ·have hr:=h.res;unfold rsv at hr⊢;simp only;rw[List.mapIdx_append,<-hr];congr 1
  ·refine List.ext_getElem? fun i=>?_
   rw[List.getElem?_mapIdx,List.getElem?_mapIdx];cases ho:c.ops[i]? with
   |none=>rfl
   |some o'=>
    have hi:=(bE.1 ho).1;rw[BS,if_neg (by simp only;omega)]
  ·simp only[List.mapIdx_cons,List.mapIdx_nil,Nat.zero_add,BS,if_pos]
theorem At.jump (h:At V c p ls R) (l:Nat) (hp:p<262144):At V (c.jump l) (p+1) ls (R++[⟨6,0,0,0,0,V l⟩]):=h.mark l _ hp
theorem At.zero (h:At V c p ls R) (r:Int) (l:Nat) (hp:p<262144):At V (c.zero r l) (p+1) ls (R++[⟨7,0,r,0,0,V l⟩]):=h.mark l _ hp
theorem At.label (h:At V c p ls R):At V c.label p (ls++[-1]) R:=⟨h.over,h.len,by unfold Cd.label;rw[h.aI],h.keys,h.res⟩
theorem At.here (h:At V c p ls R) (l:Nat):At V (c.here l) p (ls.set l p) R:=⟨h.over,h.len,by unfold Cd.here;rw[h.aI,h.len],h.keys,h.res⟩
theorem eH (a b:List Int) (j:Nat) (v:Int):(a++b).set (a.length+j) v=a++b.set j v:=by rw[List.set_append_right _ _ (by omega),Nat.add_sub_cancel_left]
theorem dQ (a b:List Int) (v:Int):(a++b).set a.length v=a++b.set 0 v:=eH a b 0 v
def ni (t:dw) (V:Nat->Int) (q:Nat) (found:Nat):List bM:=[⟨4,0,3,7,0,t.base+2⟩,⟨7,0,3,0,0,V (q+1)⟩,⟨1,0,4,0,0,1⟩,⟨3,2,3,4,0,0⟩,⟨2,0,5,3,0,0⟩,⟨3,1,5,5,0,0⟩,⟨1,0,4,0,0,t.log⟩,⟨3,1,5,4,0,0⟩,⟨4,0,6,5,0,0⟩,⟨3,2,6,1,0,0⟩,⟨7,0,6,0,0,V (found)⟩,⟨6,0,0,0,0,V (q)⟩]
def jW (p:Nat):List Int:=[((p+1:Nat):Int),((p+12:Nat):Int)]
theorem d_ (p:Nat):(jW p).length=2:=by simp[jW]
theorem EI (h:At V c0 p ls R) (found:Nat) (hp:p+12<=262144):At V (c0.search t found) (p+12) (ls++jW p) (R++ni t V ls.length found):=by
 obtain rfl:=h.aI;have BV:c0.aI.length=c0.aI.length+0:=by rfl
 have h1:=h.label;have ae0:(c0.label).aI.length=c0.aI.length+1:=by simp[Cd.label]
 have h2:=h1.label;have h3:=h2.put ⟨4,0,3,7,0,t.base+2⟩ (by omega);have h4:=h3.here (c0).aI.length;have h5:=h4.zero 3 (c0.label).aI.length (by omega);have h6:=(h5.put ⟨1,0,4,0,0,1⟩ (by omega)).put ⟨3,2,3,4,0,0⟩ (by omega);have h7:=h6.put ⟨2,0,5,3,0,0⟩ (by omega);have h8:=h7.put ⟨3,1,5,5,0,0⟩ (by omega);have h9:=(h8.put ⟨1,0,4,0,0,t.log⟩ (by omega)).put ⟨3,1,5,4,0,0⟩ (by omega);have h10:=h9.put ⟨4,0,6,5,0,0⟩ (by omega);have h11:=h10.put ⟨3,2,6,1,0,0⟩ (by omega);have h12:=h11.zero 6 found (by omega);have D8:=h12.jump (c0).aI.length (by omega);have yh:=D8.here (c0.label).aI.length;refine yh.cast (by omega) ?_ ?_
 ·simp[jW,Cd.label,eH,dQ]<;>omega
 ·simp[ni,Cd.label]
def fD (t:dw) (V:Nat->Int) (q:Nat) (r:Int) (l:Nat):List bM:=[⟨7,0,r,0,0,V (q)⟩,⟨6,0,0,0,0,V (l)⟩]
def dY (p:Nat):List Int:=[((p+2:Nat):Int)]
theorem a_ (p:Nat):(dY p).length=1:=by simp[dY]
theorem lZ (h:At V c0 p ls R) (r:Int) (l:Nat) (hp:p+2<=262144):At V (c0.unless t r l) (p+2) (ls++dY p) (R++fD t V ls.length r l):=by
 obtain rfl:=h.aI;have eon:c0.aI.length=c0.aI.length+0:=by rfl
 have h1:=h.label;have h2:=h1.zero r (c0).aI.length (by omega);have h3:=h2.jump l (by omega);have h4:=h3.here (c0).aI.length;refine h4.cast (by omega) ?_ ?_
 ·simp[dY,Cd.label,eH,dQ]<;>omega
 ·simp[fD,Cd.label]
def mY (t:dw) (V:Nat->Int) (q:Nat):List bM:=[⟨2,0,5,6,0,0⟩,⟨1,0,4,0,0,(t.words+2)⟩,⟨3,1,5,4,0,0⟩]
def lV (p:Nat):List Int:=[]
theorem bZ (p:Nat):(lV p).length=0:=by simp[lV]
theorem BG (h:At V c0 p ls R) (hp:p+3<=262144):At V (c0.lock t) (p+3) (ls++lV p) (R++mY t V ls.length):=by
 obtain rfl:=h.aI;have h1:=h.put ⟨2,0,5,6,0,0⟩ (by omega);have h2:=(h1.put ⟨1,0,4,0,0,(t.words+2)⟩ (by omega)).put ⟨3,1,5,4,0,0⟩ (by omega);refine h2.cast (by omega) ?_ ?_
 ·simp[lV]
 ·simp[mY,Cd.label]
def qp (t:dw) (V:Nat->Int) (q:Nat):List bM:=[⟨2,0,5,6,0,0⟩,⟨1,0,4,0,0,(t.base+8)⟩,⟨3,1,5,4,0,0⟩]
def oN (p:Nat):List Int:=[]
theorem fQ (p:Nat):(oN p).length=0:=by simp[oN]
theorem Ko (h:At V c0 p ls R) (hp:p+3<=262144):At V (c0.old t) (p+3) (ls++oN p) (R++qp t V ls.length):=by
 obtain rfl:=h.aI;have h1:=h.put ⟨2,0,5,6,0,0⟩ (by omega);have h2:=(h1.put ⟨1,0,4,0,0,(t.base+8)⟩ (by omega)).put ⟨3,1,5,4,0,0⟩ (by omega);refine h2.cast (by omega) ?_ ?_
 ·simp[oN]
 ·simp[qp,Cd.label]
def qL (t:dw) (V:Nat->Int) (q:Nat):List bM:=[⟨1,0,0,0,0,t.arena⟩,⟨5,0,7,0,0,t.base+4⟩]
def oz (p:Nat):List Int:=[]
theorem R8 (h:At V c0 p ls R) (hp:p+2<=262144):At V (c0.start t) (p+2) (ls++oz p) (R++qL t V ls.length):=by
 obtain rfl:=h.aI;have h1:=h.put ⟨1,0,0,0,0,t.arena⟩ (by omega);have h2:=h1.put ⟨5,0,7,0,0,t.base+4⟩ (by omega);refine h2.cast (by omega) ?_ ?_
 ·simp[oz]
 ·simp[qL,Cd.label]
def qD (t:dw) (V:Nat->Int) (q:Nat):List bM:=[⟨12,0,7,7,0,8⟩,⟨4,0,1,7,0,t.base+5⟩,⟨5,0,7,1,0,t.base+4⟩]
def lH (p:Nat):List Int:=[]
theorem CO (p:Nat):(lH p).length=0:=by simp[lH]
theorem SS (h:At V c0 p ls R) (hp:p+3<=262144):At V (c0.abort t) (p+3) (ls++lH p) (R++qD t V ls.length):=by
 obtain rfl:=h.aI;have h1:=h.put ⟨12,0,7,7,0,8⟩ (by omega);have h2:=h1.put ⟨4,0,1,7,0,t.base+5⟩ (by omega);have h3:=h2.put ⟨5,0,7,1,0,t.base+4⟩ (by omega);refine h3.cast (by omega) ?_ ?_
 ·simp[lH]
 ·simp[qD,Cd.label]
def sZ (t:dw) (V:Nat->Int) (q:Nat):List bM:=[⟨1,0,1,0,0,t.prints⟩,⟨4,0,2,7,0,t.base+3⟩,⟨7,0,2,0,0,V (q+1)⟩,⟨4,0,3,1,0,0⟩,⟨11,0,3,0,0,0⟩,⟨1,0,4,0,0,1⟩,⟨3,1,1,4,0,0⟩,⟨1,0,4,0,0,1⟩,⟨3,2,2,4,0,0⟩,⟨6,0,0,0,0,V (q)⟩]
def nW (p:Nat):List Int:=[((p+2:Nat):Int),((p+10:Nat):Int)]
theorem rP (p:Nat):(nW p).length=2:=by simp[nW]
theorem Wt (h:At V c0 p ls R) (hp:p+10<=262144):At V (c0.tell t) (p+10) (ls++nW p) (R++sZ t V ls.length):=by
 obtain rfl:=h.aI;have BV:c0.aI.length=c0.aI.length+0:=by rfl
 have h1:=h.label;have O5:(c0.label).aI.length=c0.aI.length+1:=by simp[Cd.label]
 have h2:=h1.label;have h3:=h2.put ⟨1,0,1,0,0,t.prints⟩ (by omega);have h4:=h3.put ⟨4,0,2,7,0,t.base+3⟩ (by omega);have h5:=h4.here (c0).aI.length;have h6:=h5.zero 2 (c0.label).aI.length (by omega);have h7:=h6.put ⟨4,0,3,1,0,0⟩ (by omega);have h8:=h7.put ⟨11,0,3,0,0,0⟩ (by omega);have h9:=(h8.put ⟨1,0,4,0,0,1⟩ (by omega)).put ⟨3,1,1,4,0,0⟩ (by omega);have h10:=(h9.put ⟨1,0,4,0,0,1⟩ (by omega)).put ⟨3,2,2,4,0,0⟩ (by omega);have h11:=h10.jump (c0).aI.length (by omega);have h12:=h11.here (c0.label).aI.length;refine h12.cast (by omega) ?_ ?_
 ·simp[nW,Cd.label,eH,dQ]<;>omega
 ·simp[sZ,Cd.label]
def sP (t:dw) (V:Nat->Int) (q:Nat) (abort:Nat):List bM:=ni t V (q+2) (q)++[⟨2,0,5,1,0,0⟩,⟨1,0,4,0,0,15⟩,⟨3,6,5,4,0,0⟩,⟨2,0,0,5,0,0⟩,⟨1,0,4,0,0,(t.words+2)⟩,⟨3,1,5,4,0,0⟩,⟨4,0,3,5,0,0⟩,⟨2,0,6,3,0,0⟩,⟨1,0,4,0,0,1⟩,⟨3,6,6,4,0,0⟩]++fD t V (q+4) 6 abort++[⟨2,0,6,3,0,0⟩,⟨1,0,4,0,0,1⟩,⟨3,10,6,4,0,0⟩,⟨4,0,4,7,0,t.base+0⟩,⟨3,13,4,6,0,0⟩]++fD t V (q+5) 4 abort++[⟨4,0,2,1,0,0⟩,⟨4,0,4,5,0,0⟩,⟨3,2,4,3,0,0⟩]++fD t V (q+6) 4 abort++[⟨1,0,4,0,0,1⟩,⟨3,9,4,0,0,0⟩,⟨4,0,6,7,0,t.base+1⟩,⟨3,7,6,4,0,0⟩,⟨5,0,7,6,0,t.base+1⟩,⟨6,0,0,0,0,V (q+1)⟩,⟨4,0,2,5,0,1⟩,⟨12,0,1,2,0,2⟩]
def nX (p:Nat):List Int:=[((p+42:Nat):Int),((p+43:Nat):Int)]++jW (p)++dY (p+22)++dY (p+29)++dY (p+34)
theorem rM (p:Nat):(nX p).length=7:=by simp[nX,d_,a_]
theorem UZ (h:At V c0 p ls R) (abort:Nat) (hp:p+44<=262144):At V (c0.read t abort) (p+44) (ls++nX p) (R++sP t V ls.length abort):=by
 obtain rfl:=h.aI;have YC:c0.aI.length=c0.aI.length+0:=by rfl
 have h1:=h.label;have edn:(c0.label).aI.length=c0.aI.length+1:=by simp[Cd.label]
 have h2:=h1.label;have h3:=EI (t:=t) h2 ((c0).aI.length) (by omega);have h4:=h3.put ⟨2,0,5,1,0,0⟩ (by omega);have h5:=(h4.put ⟨1,0,4,0,0,15⟩ (by omega)).put ⟨3,6,5,4,0,0⟩ (by omega);have h6:=h5.put ⟨2,0,0,5,0,0⟩ (by omega);have h7:=(h6.put ⟨1,0,4,0,0,(t.words+2)⟩ (by omega)).put ⟨3,1,5,4,0,0⟩ (by omega);have h8:=h7.put ⟨4,0,3,5,0,0⟩ (by omega);have h9:=h8.put ⟨2,0,6,3,0,0⟩ (by omega);have h10:=(h9.put ⟨1,0,4,0,0,1⟩ (by omega)).put ⟨3,6,6,4,0,0⟩ (by omega);have h11:=lZ (t:=t) h10 6 abort (by omega);have h12:=h11.put ⟨2,0,6,3,0,0⟩ (by omega);have D8:=(h12.put ⟨1,0,4,0,0,1⟩ (by omega)).put ⟨3,10,6,4,0,0⟩ (by omega);have yh:=D8.put ⟨4,0,4,7,0,t.base+0⟩ (by omega);have FK:=yh.put ⟨3,13,4,6,0,0⟩ (by omega);have h16:=lZ (t:=t) FK 4 abort (by omega);have KJ:=h16.put ⟨4,0,2,1,0,0⟩ (by omega);have h18:=KJ.put ⟨4,0,4,5,0,0⟩ (by omega);have h19:=h18.put ⟨3,2,4,3,0,0⟩ (by omega);have h20:=lZ (t:=t) h19 4 abort (by omega);have h21:=h20.put ⟨1,0,4,0,0,1⟩ (by omega);have h22:=h21.put ⟨3,9,4,0,0,0⟩ (by omega);have h23:=h22.put ⟨4,0,6,7,0,t.base+1⟩ (by omega);have h24:=h23.put ⟨3,7,6,4,0,0⟩ (by omega);have h25:=h24.put ⟨5,0,7,6,0,t.base+1⟩ (by omega);have h26:=h25.jump (c0.label).aI.length (by omega);have h27:=h26.here (c0).aI.length;have h28:=h27.put ⟨4,0,2,5,0,1⟩ (by omega);have h29:=h28.here (c0.label).aI.length;have h30:=h29.put ⟨12,0,1,2,0,2⟩ (by omega);refine h30.cast (by omega) ?_ ?_
 ·simp[nX,d_,a_,Cd.label,eH,dQ]<;>omega
 ·simp[sP,Cd.label,d_,a_]
def qz (t:dw) (V:Nat->Int) (q:Nat):List bM:=ni t V (q+3) (q)++[⟨4,0,3,7,0,t.base+2⟩,⟨2,0,4,3,0,0⟩,⟨1,0,6,0,0,64⟩,⟨3,13,4,6,0,0⟩]++fD t V (q+5) 4 (q+2)++[⟨13,0,0,0,0,6⟩,⟨2,0,5,3,0,0⟩,⟨3,1,5,5,0,0⟩,⟨1,0,4,0,0,t.log⟩,⟨3,1,5,4,0,0⟩,⟨5,0,5,1,0,0⟩,⟨1,0,4,0,0,1⟩,⟨3,1,3,4,0,0⟩,⟨5,0,7,3,0,t.base+2⟩,⟨5,0,5,2,0,1⟩,⟨12,0,1,2,0,3⟩]
def mM (p:Nat):List Int:=[((p+27:Nat):Int),((p+28:Nat):Int),((p+19:Nat):Int)]++jW (p)++dY (p+16)
theorem qE (p:Nat):(mM p).length=6:=by simp[mM,d_,a_]
theorem Uh (h:At V c0 p ls R) (hp:p+29<=262144):At V (c0.write t) (p+29) (ls++mM p) (R++qz t V ls.length):=by
 obtain rfl:=h.aI;have YC:c0.aI.length=c0.aI.length+0:=by rfl
 have h1:=h.label;have edn:(c0.label).aI.length=c0.aI.length+1:=by simp[Cd.label]
 have h2:=h1.label;have aen:(c0.label.label).aI.length=c0.aI.length+2:=by simp[Cd.label]
 have h3:=h2.label;have h4:=EI (t:=t) h3 ((c0).aI.length) (by omega);have h5:=h4.put ⟨4,0,3,7,0,t.base+2⟩ (by omega);have h6:=h5.put ⟨2,0,4,3,0,0⟩ (by omega);have h7:=(h6.put ⟨1,0,6,0,0,64⟩ (by omega)).put ⟨3,13,4,6,0,0⟩ (by omega);have h8:=lZ (t:=t) h7 4 ((c0.label.label).aI.length) (by omega);have h9:=h8.put ⟨13,0,0,0,0,6⟩ (by omega);have h10:=h9.here (c0.label.label).aI.length;have h11:=h10.put ⟨2,0,5,3,0,0⟩ (by omega);have h12:=h11.put ⟨3,1,5,5,0,0⟩ (by omega);have D8:=(h12.put ⟨1,0,4,0,0,t.log⟩ (by omega)).put ⟨3,1,5,4,0,0⟩ (by omega);have yh:=D8.put ⟨5,0,5,1,0,0⟩ (by omega);have FK:=(yh.put ⟨1,0,4,0,0,1⟩ (by omega)).put ⟨3,1,3,4,0,0⟩ (by omega);have h16:=FK.put ⟨5,0,7,3,0,t.base+2⟩ (by omega);have KJ:=h16.here (c0).aI.length;have h18:=KJ.put ⟨5,0,5,2,0,1⟩ (by omega);have h19:=h18.here (c0.label).aI.length;have h20:=h19.put ⟨12,0,1,2,0,3⟩ (by omega);refine h20.cast (by omega) ?_ ?_
 ·simp[mM,d_,a_,Cd.label,eH,dQ]<;>omega
 ·simp[qz,Cd.label,d_,a_]
def oZ (t:dw) (V:Nat->Int) (q:Nat):List bM:=[⟨4,0,3,5,0,0⟩,⟨1,0,4,0,0,15⟩,⟨3,6,3,4,0,0⟩,⟨1,0,4,0,0,1⟩,⟨3,9,4,3,0,0⟩,⟨3,7,2,4,0,0⟩]
def mX (p:Nat):List Int:=[]
theorem pG (p:Nat):(mX p).length=0:=by simp[mX]
theorem Pf (h:At V c0 p ls R) (hp:p+6<=262144):At V (c0.Cq t) (p+6) (ls++mX p) (R++oZ t V ls.length):=by
 obtain rfl:=h.aI;have h1:=h.put ⟨4,0,3,5,0,0⟩ (by omega);have h2:=(h1.put ⟨1,0,4,0,0,15⟩ (by omega)).put ⟨3,6,3,4,0,0⟩ (by omega);have h3:=h2.put ⟨1,0,4,0,0,1⟩ (by omega);have h4:=h3.put ⟨3,9,4,3,0,0⟩ (by omega);have h5:=h4.put ⟨3,7,2,4,0,0⟩ (by omega);refine h5.cast (by omega) ?_ ?_
 ·simp[mX]
 ·simp[oZ,Cd.label]
def ny (t:dw) (V:Nat->Int) (q:Nat):List bM:=[⟨4,0,2,5,0,0⟩,⟨4,0,3,5,0,1⟩,⟨5,0,2,3,0,0⟩]
def lN (p:Nat):List Int:=[]
theorem oq (p:Nat):(lN p).length=0:=by simp[lN]
theorem KG (h:At V c0 p ls R) (hp:p+3<=262144):At V (c0.zq t) (p+3) (ls++lN p) (R++ny t V ls.length):=by
 obtain rfl:=h.aI;have h1:=h.put ⟨4,0,2,5,0,0⟩ (by omega);have h2:=h1.put ⟨4,0,3,5,0,1⟩ (by omega);have h3:=h2.put ⟨5,0,2,3,0,0⟩ (by omega);refine h3.cast (by omega) ?_ ?_
 ·simp[lN]
 ·simp[ny,Cd.label]
def nI (t:dw) (V:Nat->Int) (q:Nat):List bM:=mY t V (q)++[⟨5,0,5,1,0,0⟩]
def j5 (p:Nat):List Int:=[]++lV (p)
theorem og (p:Nat):(j5 p).length=0:=by simp[j5,bZ]
theorem Lf (h:At V c0 p ls R) (hp:p+4<=262144):At V (c0.yY t) (p+4) (ls++j5 p) (R++nI t V ls.length):=by
 obtain rfl:=h.aI;have h1:=BG (t:=t) h (by omega);have h2:=h1.put ⟨5,0,5,1,0,0⟩ (by omega);refine h2.cast (by omega) ?_ ?_
 ·simp[j5,bZ,Cd.label,eH,dQ]<;>omega
 ·simp[nI,Cd.label,bZ]
def nJ (t:dw) (V:Nat->Int) (q:Nat):List bM:=qp t V (q)++[⟨4,0,2,5,0,0⟩]++mY t V (q)++[⟨5,0,5,2,0,0⟩]
def j6 (p:Nat):List Int:=[]++oN (p)++lV (p+4)
theorem ou (p:Nat):(j6 p).length=0:=by simp[j6,bZ,fQ]
theorem Mf (h:At V c0 p ls R) (hp:p+8<=262144):At V (c0.yB t) (p+8) (ls++j6 p) (R++nJ t V ls.length):=by
 obtain rfl:=h.aI;have h1:=Ko (t:=t) h (by omega);have h2:=h1.put ⟨4,0,2,5,0,0⟩ (by omega);have h3:=BG (t:=t) h2 (by omega);have h4:=h3.put ⟨5,0,5,2,0,0⟩ (by omega);refine h4.cast (by omega) ?_ ?_
 ·simp[j6,bZ,fQ,Cd.label,eH,dQ]<;>omega
 ·simp[nJ,Cd.label,bZ,fQ]
def oO (t:dw) (V:Nat->Int) (q:Nat) (rel:Nat):List bM:=mY t V (q)++[⟨4,0,3,5,0,0⟩,⟨2,0,4,3,0,0⟩,⟨1,0,2,0,0,1⟩,⟨3,6,4,2,0,0⟩]++fD t V (q) 4 rel++[⟨2,0,4,3,0,0⟩,⟨1,0,2,0,0,(2*t.th+1)⟩,⟨8,0,5,4,2,0⟩,⟨3,2,4,3,0,0⟩]++fD t V (q+1) 4 rel++qp t V (q+2)++[⟨5,0,5,3,0,0⟩,⟨1,0,4,0,0,1⟩,⟨3,9,4,6,0,0⟩,⟨4,0,3,7,0,t.base+6⟩,⟨3,7,3,4,0,0⟩,⟨5,0,7,3,0,t.base+6⟩]
def kT (p:Nat):List Int:=[]++lV (p)++dY (p+7)++dY (p+13)++oN (p+15)
theorem pF (p:Nat):(kT p).length=2:=by simp[kT,bZ,fQ,a_]
theorem NN (h:At V c0 p ls R) (rel:Nat) (hp:p+24<=262144):At V (c0.Cb t rel) (p+24) (ls++kT p) (R++oO t V ls.length rel):=by
 obtain rfl:=h.aI;have h1:=BG (t:=t) h (by omega);have h2:=h1.put ⟨4,0,3,5,0,0⟩ (by omega);have h3:=h2.put ⟨2,0,4,3,0,0⟩ (by omega);have h4:=h3.put ⟨1,0,2,0,0,1⟩ (by omega);have h5:=h4.put ⟨3,6,4,2,0,0⟩ (by omega);have h6:=lZ (t:=t) h5 4 rel (by omega);have h7:=h6.put ⟨2,0,4,3,0,0⟩ (by omega);have h8:=h7.put ⟨1,0,2,0,0,(2*t.th+1)⟩ (by omega);have h9:=h8.put ⟨8,0,5,4,2,0⟩ (by omega);have h10:=h9.put ⟨3,2,4,3,0,0⟩ (by omega);have h11:=lZ (t:=t) h10 4 rel (by omega);have h12:=Ko (t:=t) h11 (by omega);have D8:=h12.put ⟨5,0,5,3,0,0⟩ (by omega);have yh:=D8.put ⟨1,0,4,0,0,1⟩ (by omega);have FK:=yh.put ⟨3,9,4,6,0,0⟩ (by omega);have h16:=FK.put ⟨4,0,3,7,0,t.base+6⟩ (by omega);have KJ:=h16.put ⟨3,7,3,4,0,0⟩ (by omega);have h18:=KJ.put ⟨5,0,7,3,0,t.base+6⟩ (by omega);refine h18.cast (by omega) ?_ ?_
 ·simp[kT,bZ,fQ,a_,Cd.label,eH,dQ]<;>omega
 ·simp[oO,Cd.label,bZ,fQ,a_]
def o9 (t:dw) (V:Nat->Int) (q:Nat) (rel:Nat):List bM:=mY t V (q+1)++[⟨4,0,2,5,0,0⟩,⟨2,0,4,2,0,0⟩,⟨1,0,3,0,0,1⟩,⟨3,6,4,3,0,0⟩,⟨7,0,4,0,0,V (q)⟩,⟨1,0,3,0,0,(2*t.th+1)⟩,⟨3,2,2,3,0,0⟩]++fD t V (q+1) 2 rel++qp t V (q+2)++[⟨4,0,2,5,0,0⟩,⟨1,0,3,0,0,1⟩,⟨3,10,2,3,0,0⟩,⟨4,0,4,7,0,t.base+0⟩,⟨3,13,4,2,0,0⟩]++fD t V (q+2) 4 rel
def lq (p:Nat):List Int:=[((p+16:Nat):Int)]++lV (p)++dY (p+10)++oN (p+12)++dY (p+20)
theorem pK (p:Nat):(lq p).length=3:=by simp[lq,bZ,fQ,a_]
theorem PZ (h:At V c0 p ls R) (rel:Nat) (hp:p+22<=262144):At V (c0.Di t rel) (p+22) (ls++lq p) (R++o9 t V ls.length rel):=by
 obtain rfl:=h.aI;have aeu:c0.aI.length=c0.aI.length+0:=by rfl
 have h1:=h.label;have h2:=BG (t:=t) h1 (by omega);have h3:=h2.put ⟨4,0,2,5,0,0⟩ (by omega);have h4:=h3.put ⟨2,0,4,2,0,0⟩ (by omega);have h5:=(h4.put ⟨1,0,3,0,0,1⟩ (by omega)).put ⟨3,6,4,3,0,0⟩ (by omega);have h6:=h5.zero 4 (c0).aI.length (by omega);have h7:=(h6.put ⟨1,0,3,0,0,(2*t.th+1)⟩ (by omega)).put ⟨3,2,2,3,0,0⟩ (by omega);have h8:=lZ (t:=t) h7 2 rel (by omega);have h9:=Ko (t:=t) h8 (by omega);have h10:=h9.put ⟨4,0,2,5,0,0⟩ (by omega);have h11:=h10.here (c0).aI.length;have h12:=(h11.put ⟨1,0,3,0,0,1⟩ (by omega)).put ⟨3,10,2,3,0,0⟩ (by omega);have D8:=h12.put ⟨4,0,4,7,0,t.base+0⟩ (by omega);have yh:=D8.put ⟨3,13,4,2,0,0⟩ (by omega);have FK:=lZ (t:=t) yh 4 rel (by omega);refine FK.cast (by omega) ?_ ?_
 ·simp[lq,bZ,fQ,a_,Cd.label,eH,dQ]<;>omega
 ·simp[o9,Cd.label,bZ,fQ,a_]
def lI (t:dw) (V:Nat->Int) (q:Nat):List bM:=[⟨4,0,6,7,0,t.base+2⟩,⟨1,0,5,0,0,t.log⟩,⟨7,0,6,0,0,V (q+1)⟩]++oZ t V (q+2)++[⟨1,0,4,0,0,2⟩,⟨3,1,5,4,0,0⟩,⟨1,0,4,0,0,1⟩,⟨3,2,6,4,0,0⟩,⟨6,0,0,0,0,V (q)⟩]
def jf (p:Nat):List Int:=[((p+2:Nat):Int),((p+14:Nat):Int)]++mX (p+3)
theorem ku (p:Nat):(jf p).length=2:=by simp[jf,pG]
theorem Fy (h:At V c0 p ls R) (hp:p+14<=262144):At V (c0.sO t) (p+14) (ls++jf p) (R++lI t V ls.length):=by
 obtain rfl:=h.aI;have BV:c0.aI.length=c0.aI.length+0:=by rfl
 have h1:=h.label;have O5:(c0.label).aI.length=c0.aI.length+1:=by simp[Cd.label]
 have h2:=h1.label;have h3:=h2.put ⟨4,0,6,7,0,t.base+2⟩ (by omega);have h4:=h3.put ⟨1,0,5,0,0,t.log⟩ (by omega);have h5:=h4.here (c0).aI.length;have h6:=h5.zero 6 (c0.label).aI.length (by omega);have h7:=Pf (t:=t) h6 (by omega);have h8:=(h7.put ⟨1,0,4,0,0,2⟩ (by omega)).put ⟨3,1,5,4,0,0⟩ (by omega);have h9:=(h8.put ⟨1,0,4,0,0,1⟩ (by omega)).put ⟨3,2,6,4,0,0⟩ (by omega);have h10:=h9.jump (c0).aI.length (by omega);have h11:=h10.here (c0.label).aI.length;refine h11.cast (by omega) ?_ ?_
 ·simp[jf,pG,Cd.label,eH,dQ]<;>omega
 ·simp[lI,Cd.label,pG]
def lu (t:dw) (V:Nat->Int) (q:Nat):List bM:=[⟨4,0,6,7,0,t.base+2⟩,⟨1,0,5,0,0,t.log⟩,⟨7,0,6,0,0,V (q+1)⟩]++ny t V (q+2)++[⟨1,0,4,0,0,2⟩,⟨3,1,5,4,0,0⟩,⟨1,0,4,0,0,1⟩,⟨3,2,6,4,0,0⟩,⟨6,0,0,0,0,V (q)⟩]
def jg (p:Nat):List Int:=[((p+2:Nat):Int),((p+11:Nat):Int)]++lN (p+3)
theorem gX (p:Nat):(jg p).length=2:=by simp[jg,oq]
theorem F6 (h:At V c0 p ls R) (hp:p+11<=262144):At V (c0.rY t) (p+11) (ls++jg p) (R++lu t V ls.length):=by
 obtain rfl:=h.aI;have BV:c0.aI.length=c0.aI.length+0:=by rfl
 have h1:=h.label;have O5:(c0.label).aI.length=c0.aI.length+1:=by simp[Cd.label]
 have h2:=h1.label;have h3:=h2.put ⟨4,0,6,7,0,t.base+2⟩ (by omega);have h4:=h3.put ⟨1,0,5,0,0,t.log⟩ (by omega);have h5:=h4.here (c0).aI.length;have h6:=h5.zero 6 (c0.label).aI.length (by omega);have h7:=KG (t:=t) h6 (by omega);have h8:=(h7.put ⟨1,0,4,0,0,2⟩ (by omega)).put ⟨3,1,5,4,0,0⟩ (by omega);have h9:=(h8.put ⟨1,0,4,0,0,1⟩ (by omega)).put ⟨3,2,6,4,0,0⟩ (by omega);have h10:=h9.jump (c0).aI.length (by omega);have h11:=h10.here (c0.label).aI.length;refine h11.cast (by omega) ?_ ?_
 ·simp[jg,oq,Cd.label,eH,dQ]<;>omega
 ·simp[lu,Cd.label,oq]
def lC (t:dw) (V:Nat->Int) (q:Nat) (rel:Nat):List bM:=[⟨1,0,6,0,0,0⟩,⟨2,0,4,6,0,0⟩,⟨1,0,3,0,0,16⟩,⟨3,13,4,3,0,0⟩,⟨7,0,4,0,0,V (q+2)⟩,⟨4,0,4,7,0,t.base+7⟩,⟨3,10,4,6,0,0⟩,⟨1,0,3,0,0,1⟩,⟨3,6,4,3,0,0⟩,⟨7,0,4,0,0,V (q+1)⟩]++oO t V (q+3) rel++[⟨1,0,3,0,0,1⟩,⟨3,1,6,3,0,0⟩,⟨6,0,0,0,0,V (q)⟩]
def ja (p:Nat):List Int:=[((p+1:Nat):Int),((p+34:Nat):Int),((p+37:Nat):Int)]++kT (p+10)
theorem mK (p:Nat):(ja p).length=5:=by simp[ja,pF]
theorem Fh (h:At V c0 p ls R) (rel:Nat) (hp:p+37<=262144):At V (c0.sM t rel) (p+37) (ls++ja p) (R++lC t V ls.length rel):=by
 obtain rfl:=h.aI;have BV:c0.aI.length=c0.aI.length+0:=by rfl
 have h1:=h.label;have Ue:(c0.label).aI.length=c0.aI.length+1:=by simp[Cd.label]
 have h2:=h1.label;have O5:(c0.label.label).aI.length=c0.aI.length+2:=by simp[Cd.label]
 have h3:=h2.label;have h4:=h3.put ⟨1,0,6,0,0,0⟩ (by omega);have h5:=h4.here (c0).aI.length;have h6:=h5.put ⟨2,0,4,6,0,0⟩ (by omega);have h7:=(h6.put ⟨1,0,3,0,0,16⟩ (by omega)).put ⟨3,13,4,3,0,0⟩ (by omega);have h8:=h7.zero 4 (c0.label.label).aI.length (by omega);have h9:=h8.put ⟨4,0,4,7,0,t.base+7⟩ (by omega);have h10:=h9.put ⟨3,10,4,6,0,0⟩ (by omega);have h11:=(h10.put ⟨1,0,3,0,0,1⟩ (by omega)).put ⟨3,6,4,3,0,0⟩ (by omega);have h12:=h11.zero 4 (c0.label).aI.length (by omega);have D8:=NN (t:=t) h12 rel (by omega);have yh:=D8.here (c0.label).aI.length;have FK:=(yh.put ⟨1,0,3,0,0,1⟩ (by omega)).put ⟨3,1,6,3,0,0⟩ (by omega);have h16:=FK.jump (c0).aI.length (by omega);have KJ:=h16.here (c0.label.label).aI.length;refine KJ.cast (by omega) ?_ ?_
 ·simp[ja,pF,Cd.label,eH,dQ]<;>omega
 ·simp[lC,Cd.label,pF]
def lD (t:dw) (V:Nat->Int) (q:Nat) (rel:Nat):List bM:=[⟨1,0,6,0,0,0⟩,⟨2,0,4,6,0,0⟩,⟨1,0,3,0,0,16⟩,⟨3,13,4,3,0,0⟩,⟨7,0,4,0,0,V (q+2)⟩,⟨4,0,4,7,0,t.base+1⟩,⟨3,10,4,6,0,0⟩,⟨1,0,3,0,0,1⟩,⟨3,6,4,3,0,0⟩,⟨7,0,4,0,0,V (q+1)⟩]++o9 t V (q+3) rel++[⟨1,0,3,0,0,1⟩,⟨3,1,6,3,0,0⟩,⟨6,0,0,0,0,V (q)⟩]
def iX (p:Nat):List Int:=[((p+1:Nat):Int),((p+32:Nat):Int),((p+35:Nat):Int)]++lq (p+10)
theorem mQ (p:Nat):(iX p).length=6:=by simp[iX,pK]
theorem Gt (h:At V c0 p ls R) (rel:Nat) (hp:p+35<=262144):At V (c0.su t rel) (p+35) (ls++iX p) (R++lD t V ls.length rel):=by
 obtain rfl:=h.aI;have BV:c0.aI.length=c0.aI.length+0:=by rfl
 have h1:=h.label;have Ue:(c0.label).aI.length=c0.aI.length+1:=by simp[Cd.label]
 have h2:=h1.label;have O5:(c0.label.label).aI.length=c0.aI.length+2:=by simp[Cd.label]
 have h3:=h2.label;have h4:=h3.put ⟨1,0,6,0,0,0⟩ (by omega);have h5:=h4.here (c0).aI.length;have h6:=h5.put ⟨2,0,4,6,0,0⟩ (by omega);have h7:=(h6.put ⟨1,0,3,0,0,16⟩ (by omega)).put ⟨3,13,4,3,0,0⟩ (by omega);have h8:=h7.zero 4 (c0.label.label).aI.length (by omega);have h9:=h8.put ⟨4,0,4,7,0,t.base+1⟩ (by omega);have h10:=h9.put ⟨3,10,4,6,0,0⟩ (by omega);have h11:=(h10.put ⟨1,0,3,0,0,1⟩ (by omega)).put ⟨3,6,4,3,0,0⟩ (by omega);have h12:=h11.zero 4 (c0.label).aI.length (by omega);have D8:=PZ (t:=t) h12 rel (by omega);have yh:=D8.here (c0.label).aI.length;have FK:=(yh.put ⟨1,0,3,0,0,1⟩ (by omega)).put ⟨3,1,6,3,0,0⟩ (by omega);have h16:=FK.jump (c0).aI.length (by omega);have KJ:=h16.here (c0.label.label).aI.length;refine KJ.cast (by omega) ?_ ?_
 ·simp[iX,pK,Cd.label,eH,dQ]<;>omega
 ·simp[lD,Cd.label,pK]
def kM (t:dw) (V:Nat->Int) (q:Nat):List bM:=[⟨1,0,6,0,0,0⟩,⟨2,0,4,6,0,0⟩,⟨1,0,3,0,0,16⟩,⟨3,13,4,3,0,0⟩,⟨7,0,4,0,0,V (q+2)⟩,⟨4,0,4,7,0,t.base+6⟩,⟨3,10,4,6,0,0⟩,⟨1,0,3,0,0,1⟩,⟨3,6,4,3,0,0⟩,⟨7,0,4,0,0,V (q+1)⟩]++nI t V (q+3)++[⟨1,0,3,0,0,1⟩,⟨3,1,6,3,0,0⟩,⟨6,0,0,0,0,V (q)⟩]
def iY (p:Nat):List Int:=[((p+1:Nat):Int),((p+14:Nat):Int),((p+17:Nat):Int)]++j5 (p+10)
theorem jd (p:Nat):(iY p).length=3:=by simp[iY,og]
theorem Fj (h:At V c0 p ls R) (hp:p+17<=262144):At V (c0.sG t) (p+17) (ls++iY p) (R++kM t V ls.length):=by
 obtain rfl:=h.aI;have BV:c0.aI.length=c0.aI.length+0:=by rfl
 have h1:=h.label;have Ue:(c0.label).aI.length=c0.aI.length+1:=by simp[Cd.label]
 have h2:=h1.label;have O5:(c0.label.label).aI.length=c0.aI.length+2:=by simp[Cd.label]
 have h3:=h2.label;have h4:=h3.put ⟨1,0,6,0,0,0⟩ (by omega);have h5:=h4.here (c0).aI.length;have h6:=h5.put ⟨2,0,4,6,0,0⟩ (by omega);have h7:=(h6.put ⟨1,0,3,0,0,16⟩ (by omega)).put ⟨3,13,4,3,0,0⟩ (by omega);have h8:=h7.zero 4 (c0.label.label).aI.length (by omega);have h9:=h8.put ⟨4,0,4,7,0,t.base+6⟩ (by omega);have h10:=h9.put ⟨3,10,4,6,0,0⟩ (by omega);have h11:=(h10.put ⟨1,0,3,0,0,1⟩ (by omega)).put ⟨3,6,4,3,0,0⟩ (by omega);have h12:=h11.zero 4 (c0.label).aI.length (by omega);have D8:=Lf (t:=t) h12 (by omega);have yh:=D8.here (c0.label).aI.length;have FK:=(yh.put ⟨1,0,3,0,0,1⟩ (by omega)).put ⟨3,1,6,3,0,0⟩ (by omega);have h16:=FK.jump (c0).aI.length (by omega);have KJ:=h16.here (c0.label.label).aI.length;refine KJ.cast (by omega) ?_ ?_
 ·simp[iY,og,Cd.label,eH,dQ]<;>omega
 ·simp[kM,Cd.label,og]
def kU (t:dw) (V:Nat->Int) (q:Nat):List bM:=[⟨1,0,6,0,0,0⟩,⟨2,0,4,6,0,0⟩,⟨1,0,3,0,0,16⟩,⟨3,13,4,3,0,0⟩,⟨7,0,4,0,0,V (q+2)⟩,⟨4,0,4,7,0,t.base+6⟩,⟨3,10,4,6,0,0⟩,⟨1,0,3,0,0,1⟩,⟨3,6,4,3,0,0⟩,⟨7,0,4,0,0,V (q+1)⟩]++nJ t V (q+3)++[⟨1,0,3,0,0,1⟩,⟨3,1,6,3,0,0⟩,⟨6,0,0,0,0,V (q)⟩]
def jh (p:Nat):List Int:=[((p+1:Nat):Int),((p+18:Nat):Int),((p+21:Nat):Int)]++j6 (p+10)
theorem kr (p:Nat):(jh p).length=3:=by simp[jh,ou]
theorem GN (h:At V c0 p ls R) (hp:p+21<=262144):At V (c0.sS t) (p+21) (ls++jh p) (R++kU t V ls.length):=by
 obtain rfl:=h.aI;have BV:c0.aI.length=c0.aI.length+0:=by rfl
 have h1:=h.label;have Ue:(c0.label).aI.length=c0.aI.length+1:=by simp[Cd.label]
 have h2:=h1.label;have O5:(c0.label.label).aI.length=c0.aI.length+2:=by simp[Cd.label]
 have h3:=h2.label;have h4:=h3.put ⟨1,0,6,0,0,0⟩ (by omega);have h5:=h4.here (c0).aI.length;have h6:=h5.put ⟨2,0,4,6,0,0⟩ (by omega);have h7:=(h6.put ⟨1,0,3,0,0,16⟩ (by omega)).put ⟨3,13,4,3,0,0⟩ (by omega);have h8:=h7.zero 4 (c0.label.label).aI.length (by omega);have h9:=h8.put ⟨4,0,4,7,0,t.base+6⟩ (by omega);have h10:=h9.put ⟨3,10,4,6,0,0⟩ (by omega);have h11:=(h10.put ⟨1,0,3,0,0,1⟩ (by omega)).put ⟨3,6,4,3,0,0⟩ (by omega);have h12:=h11.zero 4 (c0.label).aI.length (by omega);have D8:=Mf (t:=t) h12 (by omega);have yh:=D8.here (c0.label).aI.length;have FK:=(yh.put ⟨1,0,3,0,0,1⟩ (by omega)).put ⟨3,1,6,3,0,0⟩ (by omega);have h16:=FK.jump (c0).aI.length (by omega);have KJ:=h16.here (c0.label.label).aI.length;refine KJ.cast (by omega) ?_ ?_
 ·simp[jh,ou,Cd.label,eH,dQ]<;>omega
 ·simp[kU,Cd.label,ou]
def qN (t:dw) (V:Nat->Int) (q:Nat) (rel:Nat):List bM:=[⟨1,0,2,0,0,0⟩]++lI t V (q)++[⟨5,0,7,2,0,t.base+7⟩]++lC t V (q+2) rel
def mR (p:Nat):List Int:=[]++jf (p+1)++ja (p+16)
theorem f_ (p:Nat):(mR p).length=7:=by simp[mR,ku,mK]
theorem Ub (h:At V c0 p ls R) (rel:Nat) (hp:p+53<=262144):At V (c0.aN t rel) (p+53) (ls++mR p) (R++qN t V ls.length rel):=by
 obtain rfl:=h.aI;have h1:=h.put ⟨1,0,2,0,0,0⟩ (by omega);have h2:=Fy (t:=t) h1 (by omega);have h3:=h2.put ⟨5,0,7,2,0,t.base+7⟩ (by omega);have h4:=Fh (t:=t) h3 rel (by omega);refine h4.cast (by omega) ?_ ?_
 ·simp[mR,ku,mK,Cd.label,eH,dQ]<;>omega
 ·simp[qN,Cd.label,ku,mK]
def mH (t:dw) (V:Nat->Int) (q:Nat) (rel:Nat):List bM:=lD t V (q) rel
def jF (p:Nat):List Int:=[]++iX (p)
theorem fV (p:Nat):(jF p).length=6:=by simp[jF,mQ]
theorem IG (h:At V c0 p ls R) (rel:Nat) (hp:p+35<=262144):At V (c0.validate t rel) (p+35) (ls++jF p) (R++mH t V ls.length rel):=by
 obtain rfl:=h.aI;have h1:=Gt (t:=t) h rel (by omega);refine h1.cast (by omega) ?_ ?_
 ·simp[jF,mQ,Cd.label,eH,dQ]<;>omega
 ·simp[mH,Cd.label,mQ]
def oL (t:dw) (V:Nat->Int) (q:Nat) (abort:Nat):List bM:=[⟨4,0,0,7,0,t.base+2⟩,⟨7,0,0,0,0,V (q+1)⟩]++qN t V (q+4) (q)++[⟨1,0,1,0,0,1⟩,⟨9,0,7,1,0,t.words+1⟩,⟨1,0,4,0,0,1⟩,⟨3,1,1,4,0,0⟩,⟨5,0,7,1,0,t.base+7⟩,⟨2,0,2,1,0,0⟩,⟨1,0,4,0,0,2305843009213693952⟩,⟨3,13,2,4,0,0⟩]++fD t V (q+11) 2 (q+3)++[⟨13,0,0,0,0,7⟩]++mH t V (q+12) (q)++[⟨4,0,1,7,0,t.base+7⟩,⟨1,0,2,0,0,1⟩,⟨12,0,1,2,0,7⟩]++lu t V (q+18)++[⟨4,0,1,7,0,t.base+7⟩,⟨3,1,1,1,0,0⟩]++kM t V (q+20)++[⟨6,0,0,0,0,V (q+2)⟩]++kU t V (q+23)++[⟨6,0,0,0,0,V (abort)⟩,⟨4,0,1,7,0,t.base+0⟩,⟨12,0,1,7,0,7⟩]++sZ t V (q+26)
def kW (p:Nat):List Int:=[((p+135:Nat):Int),((p+157:Nat):Int),((p+159:Nat):Int),((p+66:Nat):Int)]++mR (p+2)++dY (p+63)++jF (p+66)++jg (p+104)++iY (p+117)++jh (p+135)++nW (p+159)
theorem uS (p:Nat):(kW p).length=28:=by simp[kW,gX,f_,kr,jd,rP,a_,fV]
theorem OT (h:At V c0 p ls R) (abort:Nat) (hp:p+169<=262144):At V (c0.aL t abort) (p+169) (ls++kW p) (R++oL t V ls.length abort):=by
 obtain rfl:=h.aI;have afC:c0.aI.length=c0.aI.length+0:=by rfl
 have h1:=h.label;have ero:(c0.label).aI.length=c0.aI.length+1:=by simp[Cd.label]
 have h2:=h1.label;have etl:(c0.label.label).aI.length=c0.aI.length+2:=by simp[Cd.label]
 have h3:=h2.label;have aeE:(c0.label.label.label).aI.length=c0.aI.length+3:=by simp[Cd.label]
 have h4:=h3.label;have h5:=h4.put ⟨4,0,0,7,0,t.base+2⟩ (by omega);have h6:=h5.zero 0 (c0.label).aI.length (by omega);have h7:=Ub (t:=t) h6 ((c0).aI.length) (by omega);have h8:=h7.put ⟨1,0,1,0,0,1⟩ (by omega);have h9:=h8.put ⟨9,0,7,1,0,t.words+1⟩ (by omega);have h10:=(h9.put ⟨1,0,4,0,0,1⟩ (by omega)).put ⟨3,1,1,4,0,0⟩ (by omega);have h11:=h10.put ⟨5,0,7,1,0,t.base+7⟩ (by omega);have h12:=h11.put ⟨2,0,2,1,0,0⟩ (by omega);have D8:=(h12.put ⟨1,0,4,0,0,2305843009213693952⟩ (by omega)).put ⟨3,13,2,4,0,0⟩ (by omega);have yh:=lZ (t:=t) D8 2 ((c0.label.label.label).aI.length) (by omega);have FK:=yh.put ⟨13,0,0,0,0,7⟩ (by omega);have h16:=FK.here (c0.label.label.label).aI.length;have KJ:=IG (t:=t) h16 ((c0).aI.length) (by omega);have h18:=KJ.put ⟨4,0,1,7,0,t.base+7⟩ (by omega);have h19:=h18.put ⟨1,0,2,0,0,1⟩ (by omega);have h20:=h19.put ⟨12,0,1,2,0,7⟩ (by omega);have h21:=F6 (t:=t) h20 (by omega);have h22:=h21.put ⟨4,0,1,7,0,t.base+7⟩ (by omega);have h23:=h22.put ⟨3,1,1,1,0,0⟩ (by omega);have h24:=Fj (t:=t) h23 (by omega);have h25:=h24.jump (c0.label.label).aI.length (by omega);have h26:=h25.here (c0).aI.length;have h27:=GN (t:=t) h26 (by omega);have h28:=h27.jump abort (by omega);have h29:=h28.here (c0.label).aI.length;have h30:=h29.put ⟨4,0,1,7,0,t.base+0⟩ (by omega);have h31:=h30.put ⟨12,0,1,7,0,7⟩ (by omega);have h32:=h31.here (c0.label.label).aI.length;have h33:=Wt (t:=t) h32 (by omega);refine h33.cast (by omega) ?_ ?_
 ·simp[kW,gX,f_,kr,jd,rP,a_,fV,Cd.label,eH,dQ]<;>omega
 ·simp[oL,Cd.label,gX,f_,kr,jd,rP,a_,fV]
def oP (t:dw) (V:Nat->Int) (q:Nat):List bM:=[⟨4,0,1,7,0,t.base+4⟩,⟨5,0,7,1,0,t.base+5⟩,⟨5,0,7,7,0,t.base+1⟩,⟨5,0,7,7,0,t.base+2⟩,⟨5,0,7,7,0,t.base+3⟩,⟨5,0,7,7,0,t.base+6⟩,⟨15,0,0,7,0,t.words+1⟩,⟨5,0,7,0,0,t.base+0⟩]
def jY (p:Nat):List Int:=[]
theorem Br (p:Nat):(jY p).length=0:=by simp[jY]
theorem Po (h:At V c0 p ls R) (hp:p+8<=262144):At V (c0.Ac t) (p+8) (ls++jY p) (R++oP t V ls.length):=by
 obtain rfl:=h.aI;have h1:=h.put ⟨4,0,1,7,0,t.base+4⟩ (by omega);have h2:=h1.put ⟨5,0,7,1,0,t.base+5⟩ (by omega);have h3:=h2.put ⟨5,0,7,7,0,t.base+1⟩ (by omega);have h4:=h3.put ⟨5,0,7,7,0,t.base+2⟩ (by omega);have h5:=h4.put ⟨5,0,7,7,0,t.base+3⟩ (by omega);have h6:=h5.put ⟨5,0,7,7,0,t.base+6⟩ (by omega);have h7:=h6.put ⟨15,0,0,7,0,t.words+1⟩ (by omega);have h8:=h7.put ⟨5,0,7,0,0,t.base+0⟩ (by omega);refine h8.cast (by omega) ?_ ?_
 ·simp[jY]
 ·simp[oP,Cd.label]
def oF (t:dw) (V:Nat->Int) (q:Nat) (mZ:Int) (l9:Int) (ov:Int) (abort:Nat):List bM:=[⟨1,0,1,0,0,l9⟩]++sP t V (q) abort++[⟨4,0,1,7,0,t.sum⟩,⟨3,1,1,2,0,0⟩,⟨5,0,7,1,0,t.sum⟩]
def kR (p:Nat):List Int:=[]++nX (p+1)
theorem Bt (p:Nat):(kR p).length=7:=by simp[kR,rM]
theorem Qi (h:At V c0 p ls R) (mZ:Int) (l9:Int) (ov:Int) (abort:Nat) (hp:p+48<=262144):At V (c0.zS t mZ l9 ov abort) (p+48) (ls++kR p) (R++oF t V ls.length mZ l9 ov abort):=by
 obtain rfl:=h.aI;have h1:=h.put ⟨1,0,1,0,0,l9⟩ (by omega);have h2:=UZ (t:=t) h1 abort (by omega);have h3:=h2.put ⟨4,0,1,7,0,t.sum⟩ (by omega);have h4:=h3.put ⟨3,1,1,2,0,0⟩ (by omega);have h5:=h4.put ⟨5,0,7,1,0,t.sum⟩ (by omega);refine h5.cast (by omega) ?_ ?_
 ·simp[kR,rM,Cd.label,eH,dQ]<;>omega
 ·simp[oF,Cd.label,rM]
def oK (t:dw) (V:Nat->Int) (q:Nat) (mZ:Int) (l9:Int) (ov:Int) (abort:Nat):List bM:=[⟨1,0,1,0,0,l9⟩,⟨4,0,2,7,0,t.sum⟩,⟨1,0,3,0,0,ov⟩,⟨3,1,2,3,0,0⟩]++qz t V (q)
def kZ (p:Nat):List Int:=[]++mM (p+4)
theorem Ba (p:Nat):(kZ p).length=6:=by simp[kZ,qE]
theorem Ph (h:At V c0 p ls R) (mZ:Int) (l9:Int) (ov:Int) (abort:Nat) (hp:p+33<=262144):At V (c0.Aa t mZ l9 ov abort) (p+33) (ls++kZ p) (R++oK t V ls.length mZ l9 ov abort):=by
 obtain rfl:=h.aI;have h1:=h.put ⟨1,0,1,0,0,l9⟩ (by omega);have h2:=h1.put ⟨4,0,2,7,0,t.sum⟩ (by omega);have h3:=(h2.put ⟨1,0,3,0,0,ov⟩ (by omega)).put ⟨3,1,2,3,0,0⟩ (by omega);have h4:=Uh (t:=t) h3 (by omega);refine h4.cast (by omega) ?_ ?_
 ·simp[kZ,qE,Cd.label,eH,dQ]<;>omega
 ·simp[oK,Cd.label,qE]
end
end Go.Proofs.YtopdcjimpdalpaaGreat

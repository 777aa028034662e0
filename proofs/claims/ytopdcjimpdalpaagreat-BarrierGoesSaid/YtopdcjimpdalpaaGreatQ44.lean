import Derived.Test.YtopdcjimpdalpaaGreatQ43
import Derived.Test.YtopdcjimpdalpaaGreatQ42
import Derived.Deep.CutRange
import Derived.Deep.RegionWith
import Derived.StillTailTactics
namespace Go.Proofs.YtopdcjimpdalpaaGreat
open Go.RowKit
set_option linter.all false
set_option maxHeartbeats 4000000
set_option maxRecDepth 100000
theorem BP {l:List (Int×Int)} {a:Int} {k:Nat} {c:Int×Int} (hc:l[k]? =some c) (ha:c.1=a):place l a<=k:=by
 rcases Nat.lt_or_ge k (place l a) with h|h
 ·have:=List.not_of_lt_findIdx h;obtain⟨hk,rfl⟩:=bE.1 hc;simp[ha] at this
 ·exact h
section
variable {w w':World}
structure V_ (a:bV):Prop where
 th:0<=a.th/\a.th<4
 kind:a.kind=0/\a.fin= -1\/(a.kind=1\/a.kind=2\/a.kind=3)/\a.uU<a.fin
 uU:0<=a.uU
 clock:0<=a.clock
 plain:a.kind≠1->a.place=0/\a.writer=false
 evs:∀e∈a.done,e.th=a.th/\0<=e.a/\e.a<262144/\(e.k=2\/e.k=3)
 few:a.done.length<=2097152
structure IJ (w:World) (v:Value) (ps:List (bV×Value)):Prop where
 row:fI enc2 w 8 v ps
 evs:∀p∈ps,fI Ch w 4 p.2 p.1.done
theorem IJ.below {v:Value} {ps:List (bV×Value)} (h:IJ w v ps) (hb:Below w.heap.size w w'):IJ w' v ps:=⟨Rd.below h.row hb,fun p hp=>Rd.below (h.evs p hp) hb⟩
theorem IJ.of {base:Nat} {v:Value} {ps:List (bV×Value)} (h:vO w base v ps):IJ w v ps:=
 ⟨Rd.iV h.row,fun p hp=>by
  obtain⟨j,hj⟩:=List.getElem?_of_mem hp;exact Rd.iV (h.own j p hj)⟩
end
section
variable {w w':World}
structure yT (w:World) (v:Value) (ts:vw):Prop where
 rows:fI xA w 1 v ts
 each:∀p∈ts,qo w p.1 p.2
 len:ts.length<=9223372036854775807
 Xx:∀p∈ts,p.2.length<=9223372036854775807
 XK:∀p∈ts,∀q∈p.2,q.2.length<=9223372036854775807
 wf:∀p∈ts,∀q∈p.2,∀o∈q.2,yG o
theorem yT.below {v:Value} {ts:vw} (h:yT w v ts) (hb:Below w.heap.size w w'):yT w' v ts:=⟨Rd.below h.rows hb,fun p hp=>(h.each p hp).below hb,h.len,h.Xx,h.XK,h.wf⟩
theorem yT.at {v:Value} {ts:vw} (h:yT w v ts) (ht:∀p∈ts,di p.2<=262144):xu w v ts:=⟨h.rows,h.each,ht⟩
theorem Q4 {ta:Option Addr} {tc:Nat} {ts:vw} (h:yT w (.slice ta ts.length tc) ts):
  Calls Tryz.prog 9 #[.slice ta ts.length tc] w fun e w'=>∃z:Int,e= .returned (.int .i64 z)/\0<=z/\z<=9223372036854775807/\(z<=262144->∀p∈ts,di p.2<=262144)/\Below w.heap.size w w':=by
 have H:=ag h;have hlen:=h.len;clear h;go_in;go_wp2_with fail;go_loopw [3,4] (fun z i wr=>∃(j:Nat) (y:Int),j<=ts.length/\i= .int .i64 (j:Int)/\z= .int .i64 y/\0<=y/\y<=1310721/\Hid (y<=262144->∀p∈ts.take j,di p.2<=262144)/\Hid (Below w.heap.size w wr)) (fun _ i _=>ts.length - (intOf i).toNat)
 case atStart=>exact⟨0,0,Nat.zero_le _,rfl,rfl,by decide,by decide,fun _ p hp=>by simp at hp,aQ _ _⟩
 case round=>
  obtain⟨j,y,hj,rfl,rfl,hy0,hy1,HT,HB⟩:=hrel;by_cases hlt:j<ts.length
  ·by_cases hy:y<1048576
   ·obtain⟨t,hx⟩:=bW hlt;obtain⟨g,off,rfl,hg,hc⟩:=fI.at qc (Rd.below H.out.rows HB.out) hx;have hrows:=(H.out.each t (bA hx)).below HB.out;obtain⟨ra,rc,AJ⟩:=mE hrows.rows;have d0:wr.cell? ⟨g,off+j,none⟩=some (.slice ra t.2.length rc):=by have:=hc 0 _ rfl;rw[<-AJ];simpa [xA] using this
    rw[AJ] at hrows;have HR:=ag hrows;have HL:=ag (H.out.Xx t (bA hx));have HE:=ag (H.out.XK t (bA hx));have Nn:=ag (show ∀p∈ts.take (j+1),p∈ts.take j\/p=t from fun p hp=>by
     rw[List.take_add_one,hx,Option.toList_some] at hp;rcases List.mem_append.1 hp with hp|hp
     ·exact .inl hp
     ·exact .inr (List.mem_singleton.1 hp))
    have Fp:=ag hlt;clear hx hc AJ hrows;go_wp2_with fail;refine(KO HR.out HL.out HE.out).mono ?_;rintro e w1 ⟨z,rfl,hz0,hz1,hz2,hb⟩;have HB1:=ag (gH HB.out hb);have HT1:=ag (show y+z<=262144->∀p∈ts.take (j+1),di p.2<=262144 from fun hle p hp=>by
     rcases Nn.out p hp with hp|rfl
     ·exact HT.out (by omega) p hp
     ·have:=hz2 (by omega);omega)
    clear hz2 hb d0;go_wp2_with fail;exact⟨⟨j+1,y+z,by have:=Fp.out;omega,by go_num,by go_num,by omega,by omega,ag HT1.out,HB1⟩,by simp[intOf];have:=Fp.out;omega⟩
   ·have HT1:=ag (show y<=262144->∀p∈ts,di p.2<=262144 from fun hle=>by omega);have HY:=ag (show 0<=y/\y<=9223372036854775807 by omega);clear hy0 hy1;go_wp2_with fail;go_ret;exact⟨y,rfl,HY.out.1,HY.out.2,by simpa using HT1.out,HB.out⟩
  ·obtain rfl:j=ts.length:=by omega
   have hT:=HT.out;rw[List.take_length] at hT;have HT1:=ag hT;have HY:=ag (show 0<=y/\y<=9223372036854775807 by omega);clear hT hy0 hy1;go_wp2_with fail;go_ret;exact⟨y,rfl,HY.out.1,HY.out.2,by simpa using HT1.out,HB.out⟩
theorem Qd {words:Int} {ts:vw} (h:∀t∈ts,gN words t.2=true):∀r∈ts.map rowsOf,∀l∈r,∀o∈l,(o.kind=2\/o.kind=3)/\1<=o.at_/\o.at_<=words:=by
 intro r hr l hl o ho;obtain⟨t,ht,rfl⟩:=List.mem_map.1 hr;obtain⟨p,hp,rfl⟩:=List.mem_map.1 hl;have h1:=List.all_eq_true.1 (h t ht) p hp;have h2:=List.all_eq_true.1 h1 o ho;unfold lY at h2;simp at h2;omega
theorem Jd (words:Int) (ts:vw):(ts.mapIdx fun i t=>bI (fE words ts.length i) (rowsOf t))=(List.range (ts.map rowsOf).length).map (fun n=>bI (fE words (ts.map rowsOf).length n) ((ts.map rowsOf).getD n [])):=by
 refine List.ext_getElem (by simp) fun i h1 h2=>?_
 simp only[List.length_mapIdx] at h1;simp[List.getD_eq_getElem?_getD,h1]
theorem Px {words:Int} {ts:vw} {cs:List (Nat×List bM)} (h:mD words ts.length ts cs):(∀t∈ts,ig (rowsOf t)<=262144)/\cs.map Prod.snd=ts.mapIdx (fun i t=>bI (fE words ts.length i) (rowsOf t)):=by
 have h1:∀t∈ts,ig (rowsOf t)<=262144:=fun t ht=>by
  obtain⟨i,hi⟩:=List.getElem?_of_mem ht;have hil:=(bE.1 hi).1;have hc:=dZ (show i<cs.length by rw[h.len];exact hil);exact Et (h.at_ i _ _ hc hi).2
 exact⟨h1,xN h h1⟩
structure SQ (w:World) (words:Int) (ts:vw) (co:Option Addr) (cc:Nat) (l:List (Value×List bM)):Prop where
 code:pI w (.slice co l.length cc) l
 is:l.map (·.2)=ts.mapIdx (fun i t=>bI (fE words ts.length i) (rowsOf t))
 len:l.length<=4
 chk:dB (dz words ts.length) l []=0
 plan:fK words (dM ts.length)=0
 few:ts.length<=4
 rows:∀t∈ts,gN words t.2=true
 each:∀p∈l,p.2.length<=262144
def Og (words:Int) (ts:vw) (w:World) (e:Ending) (w':World):Prop:=
 Below w.heap.size w w'/\((∃en:Int,en≠0/\e= .returned (.tuple #[.agg #[.slice none 0 0,.int .i64 0,.slice none 0 0],.int .i64 en]))\/
  ∃co cc l,e= .returned (.tuple #[.agg #[.slice co l.length cc,.int .i64 (dz words ts.length),.slice none 0 0],.int .i64 0])/\SQ w' words ts co cc l)
theorem KS {cs:List (Nat×List bM)} {p:Nat×List bM} (h:p∈cs):p.2.length<=iN cs:=by
 unfold iN;induction cs with
 |nil=>cases h
 |cons a l ih=>
  rcases List.mem_cons.1 h with rfl|h
  ·simp
  ·have:=ih h;simp;omega
theorem aa_ {words:Int} {ts:vw} {e:Ending} (h:zI words ts w e w') (hw:∀p∈ts,∀q∈p.2,∀o∈q.2,yG o):Og words ts w e w':=by
 obtain⟨hb,h⟩:=h;refine⟨hb,?_⟩;rcases h with⟨en,rfl,h⟩|⟨co,cc,cs,rfl,hown,hin,hcs,hsum,TF,hlen,hrows⟩
 ·exact .inl ⟨en,by rcases h with⟨rfl, -⟩|⟨rfl, -⟩<;>decide,rfl⟩
 ·obtain⟨hp,hc⟩:=Px hcs;have hcl:=hcs.len;have hok:∀p∈cs,bB p.2:=by
   intro p hp2;obtain⟨k,hk,e⟩:=List.getElem_of_mem hp2;have hkt:k<ts.length:=by omega
   have h3:(cs.map Prod.snd)[k]'(by simpa using hk)=(ts.mapIdx (fun i t=>bI (fE words ts.length i) (rowsOf t)))[k]'(by simpa using hkt):=by simp only[hc]
   rw[List.getElem_map,List.getElem_mapIdx,e] at h3;rw[h3];refine FQ (Im TF hkt) (hp _ (List.getElem_mem hkt)) fun l hl o ho=>?_
   obtain⟨q,hq,rfl⟩:=List.mem_map.1 hl;exact hw _ (List.getElem_mem hkt) q hq o ho
  obtain⟨l,hll,hcode,hl2⟩:=IY hown hin hok;obtain⟨w0,hsz,hle, -⟩:=KX TF;have VW:=Ew (mem:=dz words ts.length) hl2 hsum (by omega) (by omega) hok;refine .inr ⟨co,cc,l,by rw[hll],hcode,hl2.trans hc,by omega,VW,TF,hlen,hrows,fun p hp2=>?_⟩;have h1:p.2∈l.map (·.2):=List.mem_map_of_mem hp2;rw[hl2] at h1;obtain⟨q,hq,e⟩:=List.mem_map.1 h1;rw[<-e];exact Nat.le_trans (KS hq) hsum
end
section
variable {w w':World}
theorem Hf {α:Type} {l:List α} {f:α->Bool} (h:∀x∈l,f x=true):l.all f=true:=List.all_eq_true.2 h
theorem l_ {α:Type} {l:List α} {j:Nat} {x y:α} (h:l[j]? =some x) (hy:y∈l.take (j+1)):y∈l.take j\/y=x:=by
 rw[dx h] at hy;rcases List.mem_append.1 hy with hy|hy
 ·exact .inl hy
 ·exact .inr (by simpa using hy)
def Vg (words:Int) (ts:vw) (w:World) (e:Ending) (w':World):Prop:=∃b,e= .returned (.bool b)/\(b=true↔∀t∈ts,gN words t.2=true)/\Below w.heap.size w w'
theorem U1 {ta:Option Addr} {tc:Nat} {ts:vw} (h:xu w (.slice ta ts.length tc) ts) (hl:ts.length<=9000000000000) (words:Int):
  Calls Tryz.prog 12 #[.int .i64 words,.slice ta ts.length tc] w (Vg words ts w):=by
 have H:=ag h;have HL:=ag hl;clear h;go_in;go_wp2_with fail;go_loopw [5] (fun i wr=>∃a:Nat,a<=ts.length/\i= .int .i64 (a:Int)/\wr=w/\Hid (∀t∈ts.take a,gN words t.2=true)) (fun i _=>ts.length - (intOf i).toNat)
 case atStart=>exact⟨0,Nat.zero_le _,rfl,rfl,fun t ht=>by simp at ht⟩
 case round=>
  obtain⟨a,ha,rfl,rfl,HA⟩:=hrel;have hll:=HL.out;by_cases hlt:a<ts.length
  ·obtain⟨t,hx⟩:=bW hlt;obtain⟨g,off,rfl,hg,hc⟩:=fI.at qc H.out.rows hx;have hrows:=H.out.each t (bA hx);obtain⟨ra,rc,AJ⟩:=mE hrows.rows;have d0:wr.cell? ⟨g,off+a,none⟩=some (.slice ra t.2.length rc):=by have:=hc 0 _ rfl;rw[<-AJ];simpa [xA] using this
   have htl:t.2.length<=262144:=by
    have h1:=H.out.tot t (bA hx);unfold di at h1;have h2:∀l:List (Value×List Tx),l.length<=(l.map fun p=>p.2.length+1).sum:=by
     intro l;induction l with
     |nil=>simp
     |cons q r ih=>simp only[List.length_cons,List.map_cons,List.sum_cons];omega
    exact Nat.le_trans (h2 _) h1
   have htt:=H.out.tot t (bA hx);rw[AJ] at hrows;have HT:=ag hx;have HR:=ag hrows;have HTT:=ag htt;have Fp:=ag hlt;clear hx hc AJ hrows htt;go_wp2_with fail;go_loopw [6] (fun k wr'=>∃b:Nat,b<=t.2.length/\k= .int .i64 (b:Int)/\wr'=wr/\Hid (∀p∈t.2.take b,p.2.all (lY words)=true)) (fun k _=>t.2.length - (intOf k).toNat)
   case atStart=>exact⟨0,Nat.zero_le _,rfl,rfl,fun t ht=>by simp at ht⟩
   case round=>
    obtain⟨b,hb,rfl,rfl,HB⟩:=hrel;by_cases hlt2:b<t.2.length
    ·obtain⟨p,hx⟩:=bW hlt2;obtain⟨g2,XN,hra,hg2,hc⟩:=fI.at (enc:=encR) (fun _=>rfl) HR.out.rows hx;obtain⟨pa,pc,hpv⟩:=mE (HR.out.each p (bA hx));have d1:wr.cell? ⟨g2,XN+b,none⟩=some (.slice pa p.2.length pc):=by have:=hc 0 _ rfl;rw[<-hpv];simpa [encR] using this
     have hpl:p.2.length<=262144:=by
      have h1:=HTT.out;have h2:=DY t.2 (b+1);rw[pW hx] at h2;omega
     have hp:=HR.out.each p (bA hx);rw[hpv] at hp;subst hra;have HP:=ag hp;have HX:=ag hx;clear hx hc hpv hp;go_wp2_with fail;go_loopw [8] (fun n wr'=>∃c:Nat,c<=p.2.length/\n= .int .i64 (c:Int)/\wr'=wr/\Hid (∀o∈p.2.take c,lY words o=true)) (fun n _=>p.2.length - (intOf n).toNat)
     case atStart=>exact⟨0,Nat.zero_le _,rfl,rfl,fun t ht=>by simp at ht⟩
     case round=>
      obtain⟨c,hc,rfl,rfl,HC⟩:=hrel;by_cases hlt3:c<p.2.length
      ·obtain⟨o,hx⟩:=bW hlt3;obtain⟨g3,ZU,hpa,hg3,hcc⟩:=fI.at qB HP.out hx;subst hpa;obtain⟨mZ,kind,oa,ov⟩:=o;have e1:wr.cell? ⟨g3,ZU+c*4+1,none⟩=some (.int .u8 kind):=hcc 1 _ rfl;have e2:wr.cell? ⟨g3,ZU+c*4+2,none⟩=some (.int .i64 oa):=hcc 2 _ rfl;have HO:=ag hx;clear hx hcc;have agx:=ag hlt3;by_cases hk:kind=2\/kind=3
       ·by_cases h1:oa<1
        ·have HE:=ag (show lY words ⟨mZ,kind,oa,ov⟩=false from by simp[lY];omega);have JJ:=ag (show ¬∀t∈ts,gN words t.2=true from fun hall=>by
         have h1:=List.all_eq_true.1 (hall t (bA HT.out)) p (bA HX.out);have h2:=List.all_eq_true.1 h1 _ (bA HO.out);rw[HE.out] at h2;cases h2)
         have q1:decide (oa<1)=true:=decide_eq_true h1;rcases hk with rfl|rfl;all_goals (
          go_wp2_with fail;go_ret;exact⟨false,rfl,⟨fun h=>(by cases h),fun h=>absurd h JJ.out⟩,aQ _ _⟩)
        ·have q1:decide (oa<1)=false:=decide_eq_false h1;by_cases h2:oa>words
         ·have HE:=ag (show lY words ⟨mZ,kind,oa,ov⟩=false from by simp[lY];omega);have JJ:=ag (show ¬∀t∈ts,gN words t.2=true from fun hall=>by
          have h1:=List.all_eq_true.1 (hall t (bA HT.out)) p (bA HX.out);have h2:=List.all_eq_true.1 h1 _ (bA HO.out);rw[HE.out] at h2;cases h2)
          have q2:decide (oa>words)=true:=decide_eq_true h2;rcases hk with rfl|rfl;all_goals (
           go_wp2_with fail;go_ret;exact⟨false,rfl,⟨fun h=>(by cases h),fun h=>absurd h JJ.out⟩,aQ _ _⟩)
         ·have HC':=ag (show ∀u∈p.2.take (c+1),lY words u=true from fun u hu=>by
           rcases l_ HO.out hu with hu|rfl
           ·exact HC.out u hu
           ·simp[lY];omega)
          have q2:decide (oa>words)=false:=decide_eq_false h2;rcases hk with rfl|rfl;all_goals (
           go_wp2_with fail;exact⟨⟨c+1,by omega,by go_num,trivial,HC'⟩,by simp[intOf];omega⟩)
       ·have HE:=ag (show lY words ⟨mZ,kind,oa,ov⟩=false from by simp[lY];omega);have JJ:=ag (show ¬∀t∈ts,gN words t.2=true from fun hall=>by
        have h1:=List.all_eq_true.1 (hall t (bA HT.out)) p (bA HX.out);have h2:=List.all_eq_true.1 h1 _ (bA HO.out);rw[HE.out] at h2;cases h2)
        have q1:(kind !=2)=true:=by simp;omega
        have q2:(kind !=3)=true:=by simp;omega
        clear hk;go_wp2_with fail;go_ret;exact⟨false,rfl,⟨fun h=>(by cases h),fun h=>absurd h JJ.out⟩,aQ _ _⟩
      ·obtain rfl:c=p.2.length:=by omega
       have hc':=HC.out;rw[List.take_length] at hc';have HB':=ag (show ∀q∈t.2.take (b+1),q.2.all (lY words)=true from fun q hq=>by
        rcases l_ HX.out hq with hq|rfl
        ·exact HB.out q hq
        ·exact Hf hc')
       clear hc';go_wp2_with fail;exact⟨⟨b+1,by omega,by go_num,trivial,HB'⟩,by simp[intOf];omega⟩
    ·obtain rfl:b=t.2.length:=by omega
     have hb':=HB.out;rw[List.take_length] at hb';have Ja:=ag (show ∀u∈ts.take (a+1),gN words u.2=true from fun u hu=>by
      rcases l_ HT.out hu with hu|rfl
      ·exact HA.out u hu
      ·exact Hf hb')
     clear hb';have hlt:=Fp.out;go_wp2_with fail;exact⟨⟨a+1,by omega,by go_num,trivial,Ja⟩,by simp[intOf];omega⟩
  ·obtain rfl:a=ts.length:=by omega
   have ha':=HA.out;rw[List.take_length] at ha';have Ja:=ag ha';clear ha';go_wp2_with fail;go_ret;exact⟨true,rfl,⟨fun _=>Ja.out,fun _=>rfl⟩,aQ _ _⟩
def VR (words:Int) (ts:vw):Prop:=(∀t∈ts,t.2.length<=16/\∀p∈t.2,p.2.length<=8)/\0<=words/\words<=65536/\ts.length<=4
def VL (words:Int) (ts:vw) (w:World) (e:Ending) (w':World):Prop:=∃b,e= .returned (.bool b)/\(b=true->VR words ts)/\Below w.heap.size w w'
theorem Wv {ta:Option Addr} {tc:Nat} {ts:vw} (h:xu w (.slice ta ts.length tc) ts) (hl:ts.length<=9000000000000) (words:Int):
  Calls Tryz.prog 10 #[.int .i64 words,.slice ta ts.length tc] w (VL words ts w):=by
 have H:=ag h;have HL:=ag hl;clear h;go_in;go_wp2_with fail;go_loopw [5] (fun i wr=>∃a:Nat,a<=ts.length/\i= .int .i64 (a:Int)/\wr=w/\Hid (∀t∈ts.take a,t.2.length<=16/\∀p∈t.2,p.2.length<=8)) (fun i _=>ts.length - (intOf i).toNat)
 case atStart=>exact⟨0,Nat.zero_le _,rfl,rfl,fun t ht=>by simp at ht⟩
 case round=>
  obtain⟨a,ha,rfl,rfl,HA⟩:=hrel;have hll:=HL.out;by_cases hlt:a<ts.length
  ·obtain⟨t,hx⟩:=bW hlt;obtain⟨g,off,rfl,hg,hc⟩:=fI.at qc H.out.rows hx;have hrows:=H.out.each t (bA hx);obtain⟨ra,rc,AJ⟩:=mE hrows.rows;have d0:wr.cell? ⟨g,off+a,none⟩=some (.slice ra t.2.length rc):=by have:=hc 0 _ rfl;rw[<-AJ];simpa [xA] using this
   rw[AJ] at hrows;have HT:=ag hx;have HR:=ag hrows;have Fp:=ag hlt;clear hx hc AJ hrows;by_cases h16:t.2.length<=16
   ·have q1:decide ((t.2.length:Int)>16)=false:=decide_eq_false (by omega);go_wp2_with fail;go_loopw [6] (fun k wr'=>∃b:Nat,b<=t.2.length/\k= .int .i64 (b:Int)/\wr'=wr/\Hid (∀p∈t.2.take b,p.2.length<=8)) (fun k _=>t.2.length - (intOf k).toNat)
    case atStart=>exact⟨0,Nat.zero_le _,rfl,rfl,fun t ht=>by simp at ht⟩
    case round=>
     obtain⟨b,hb,rfl,rfl,HB⟩:=hrel;by_cases hlt2:b<t.2.length
     ·obtain⟨p,hx⟩:=bW hlt2;obtain⟨g2,XN,hra,hg2,hc⟩:=fI.at (enc:=encR) (fun _=>rfl) HR.out.rows hx;obtain⟨pa,pc,hpv⟩:=mE (HR.out.each p (bA hx));have d1:wr.cell? ⟨g2,XN+b,none⟩=some (.slice pa p.2.length pc):=by have:=hc 0 _ rfl;rw[<-hpv];simpa [encR] using this
      subst hra;have HX:=ag hx;clear hx hc hpv;by_cases h8:p.2.length<=8
      ·have q2:decide ((p.2.length:Int)>8)=false:=decide_eq_false (by omega);have HB':=ag (show ∀q∈t.2.take (b+1),q.2.length<=8 from fun q hq=>by
        rcases l_ HX.out hq with hq|rfl
        ·exact HB.out q hq
        ·exact h8)
       go_wp2_with fail;exact⟨⟨b+1,by omega,by go_num,trivial,HB'⟩,by simp[intOf];omega⟩
      ·have q2:decide ((p.2.length:Int)>8)=true:=decide_eq_true (by omega);go_wp2_with fail;go_ret;exact⟨false,rfl,fun h=>(by cases h),aQ _ _⟩
     ·obtain rfl:b=t.2.length:=by omega
      have hb':=HB.out;rw[List.take_length] at hb';have Ja:=ag (show ∀u∈ts.take (a+1),u.2.length<=16/\∀p∈u.2,p.2.length<=8 from fun u hu=>by
       rcases l_ HT.out hu with hu|rfl
       ·exact HA.out u hu
       ·exact⟨h16,hb'⟩)
      clear hb';have hlt:=Fp.out;go_wp2_with fail;exact⟨⟨a+1,by omega,by go_num,trivial,Ja⟩,by simp[intOf];omega⟩
   ·have q1:decide ((t.2.length:Int)>16)=true:=decide_eq_true (by omega);go_wp2_with fail;go_ret;exact⟨false,rfl,fun h=>(by cases h),aQ _ _⟩
  ·obtain rfl:a=ts.length:=by omega
   have ha':=HA.out;rw[List.take_length] at ha';have Ja:=ag ha';clear ha';by_cases k1:words>=0
   ·have q1:decide (words>=0)=true:=decide_eq_true k1;by_cases k2:words<=65536
    ·have q2:decide (words<=65536)=true:=decide_eq_true k2;by_cases k3:(ts.length:Int)<=4
     ·have q3:decide ((ts.length:Int)<=4)=true:=decide_eq_true k3;go_wp2_with fail;go_ret;exact⟨true,rfl,fun _=>⟨Ja.out,k1,k2,by omega⟩,aQ _ _⟩
     ·have q3:decide ((ts.length:Int)<=4)=false:=decide_eq_false k3;go_wp2_with fail;go_ret;exact⟨false,rfl,fun h=>(by cases h),aQ _ _⟩
    ·have q2:decide (words<=65536)=false:=decide_eq_false k2;go_wp2_with fail;go_ret;exact⟨false,rfl,fun h=>(by cases h),aQ _ _⟩
   ·have q1:decide (words>=0)=false:=decide_eq_false k1;go_wp2_with fail;go_ret;exact⟨false,rfl,fun h=>(by cases h),aQ _ _⟩
end
section
variable {w w':World} {W:zB} {mm:MM} {B b T n:Nat} {c:Int}
theorem Ox {words:Int} {ts:vw} (h:VR words ts):pR ts<=262144:=by
 have h1:∀l:vw,(∀t∈l,t.2.length<=16/\∀p∈t.2,p.2.length<=8)->pR l<=9107*l.length:=fun l=>by
  induction l with
  |nil=>intro _;simp[pR]
  |cons t r ih=>
   intro hl;have h2:=ih fun x hx=>hl x (List.mem_cons_of_mem _ hx)
   have h3:=hl t List.mem_cons_self;have h4:=Al (rs:=rowsOf t) (fun x hx=>by
    obtain⟨q,hq,rfl⟩:=List.mem_map.1 hx;exact h3.2 q hq)
   have h5:(rowsOf t).length=t.2.length:=by unfold rowsOf;simp
   unfold pR at h2⊢;rw[List.map_cons,List.sum_cons,List.length_cons];unfold ig at h2⊢;omega
 have:=h1 ts h.1;have:=h.2.2.2;omega
theorem Mg {ta:Option Addr} {tc:Nat} {ts:vw} (h:yT w (.slice ta ts.length tc) ts) (ht:∀p∈ts,di p.2<=262144) {words:Int} (hf:VR words ts):
  Calls Tryz.prog 11 #[.int .i64 words,.slice ta ts.length tc] w fun e w'=>Below w.heap.size w w'/\((∃en:Int,en≠0/\e= .returned (.tuple #[.agg #[.slice none 0 0,.int .i64 0,.slice none 0 0],.int .i64 en])/\¬∀t∈ts,gN words t.2=true)\/
   ∃co cc l,e= .returned (.tuple #[.agg #[.slice co l.length cc,.int .i64 (dz words ts.length),.slice none 0 0],.int .i64 0])/\SQ w' words ts co cc l):=by
 refine(EZ (h.at ht) (by have:=hf.2.2.2;omega) words).mono fun e w1 hp=>?_
 obtain⟨hb,hq⟩:=aa_ hp h.wf;refine⟨hb,hq.imp (fun⟨en,hne,he⟩=>⟨en,hne,he,fun hr=>?_⟩) id⟩;obtain⟨-,co,cc,cs,e', -⟩:=Ep hp hf.2.1 hf.2.2.1 hf.2.2.2 (Ox hf) hr;rw[he] at e';simp only[Ending.returned.injEq,Value.tuple.injEq] at e';have e2:=congrArg (fun a=>a[1]?) e';simp at e2;exact hne e2
def Gs (W:zB) (w:World) (B b T:Nat) (mm:MM):Prop:=iO w B b mm T/\jK W (mm,(T:Int))
theorem jK.mono {d:Int} (h:jK W (mm,c)) (hd:c<=d):jK W (mm,d):=by
 obtain⟨m,ks,h⟩:=h;exact⟨m,ks,h.tL,h.inv,Int.le_trans h.bX hd,h.op,h.row,h.ks⟩
theorem Gs.below (h:Gs W w B b T mm) (hb:Below w.heap.size w w'):Gs W w' B b T mm:=⟨h.1.below hb,h.2⟩
theorem Ni (h:Gs W w B b T mm) (ok:oH W) (sm:Small W) (hT:T<1000000000) (z:Int):
  Calls Tryz.prog 16 #[.pointer (some ⟨b,0,none⟩),.int .i64 z] w fun r w'=>r= .returned (.bool (mm.step z).1)/\Gs W w' B b (T+1) (mm.step z).2/\Below B w w':=by
 refine(MU h.1 hT z).mono ?_;rintro r w' ⟨rfl,h1,h2⟩;have h3:=h.2.act ok sm (by simp only;omega) (.step z);have h4:=TD (mm,(T:Int)) (.step z);exact⟨rfl,⟨h1,jK.mono (c:=(mV (mm,(T:Int)) (.step z)).2) h3 (by have:(mV (mm,(T:Int)) (.step z)).2<=T+1:=h4;omega)⟩,h2⟩
theorem CV (h:Gs W w B b T mm) (ok:oH W) (sm:Small W) (hT:T<1000000000) (z:Int):
  Calls Tryz.prog 17 #[.pointer (some ⟨b,0,none⟩),.int .i64 z] w fun r w'=>r= .returned (.bool (mm.flush z).1)/\Gs W w' B b T (mm.flush z).2/\Below B w w':=by
 refine(Ic h.1 z).mono ?_;rintro r w' ⟨rfl,h1,h2⟩;exact⟨rfl,⟨h1,h.2.act ok sm (by simp only;omega) (.flush z)⟩,h2⟩
theorem Gs.len (h:Gs W w B b T mm):mm.aM.length=W.N:=by
 obtain⟨-,m,ks,h⟩:=h;exact h.tL.n
theorem Gs.size (h:Gs W w B b T mm):(mm.mem.length:Int)=W.size:=by
 obtain⟨-,m,ks,h⟩:=h;exact h.tL.len
theorem iO.word (h:iO w B b mm T) (hm:0<mm.mem.length):∃mb mc,w.cell? ⟨b,0,none⟩=some (.slice (some ⟨mb,0,none⟩) mm.mem.length mc)/\∀a,a<mm.mem.length->w.cell? ⟨mb,a,none⟩=some (.int .i64 (mm.mem.getD a 0)):=by
 obtain⟨own,xs,mv,tv,ev,h1,h2⟩:=h;obtain⟨mb,mc,rfl, -⟩:=h1.nZ hm;exact⟨mb,mc,h1.iA 0 _ rfl,fun a ha=>h1.yZ ha⟩
theorem iO.xq (h:iO w B b mm T) {t:MT} (ht:mm.aM[n]? =some t):∃tb tc wa wc oa oc,w.cell? ⟨b,1,none⟩=some (.slice (some ⟨tb,0,none⟩) mm.aM.length tc)/\w.cell? ⟨tb,n*13+10,none⟩=some (.slice wa t.wait.length wc)/\
  w.cell? ⟨tb,n*13+11,none⟩=some (.slice oa t.out.length oc)/\w.cell? ⟨tb,n*13+12,none⟩=some (.int .u8 t.fin):=by
 obtain⟨own,xs,mv,tv,ev,h1,h2⟩:=h;obtain⟨x,hx,rfl⟩:∃x,xs[n]? =some x/\x.th=t:=by
  rw[h1.same,List.getElem?_map] at ht;cases hx:xs[n]? with
  |none=>rw[hx] at ht;simp at ht
  |some x=>rw[hx] at ht;simp at ht;exact⟨x,rfl,ht⟩
 obtain⟨tb,tc,rfl, -⟩:=h1.xE hx;have hT:=h1.th n x hx;obtain⟨wa,wc,e1⟩:=hT.wait.shape;obtain⟨oa,oc,e2⟩:=bF hT.out;have hl:mm.aM.length=xs.length:=by rw[h1.same];simp
 refine⟨tb,tc,wa,wc,oa,oc,by rw[hl];exact h1.iA 1 _ rfl,by rw[<-e1];exact h1.cell hx 10 _ rfl,by rw[<-e2];exact h1.cell hx 11 _ rfl,h1.cell hx 12 _ rfl⟩
def zi (w:World) (b n:Nat):Nat:=match w.cell? ⟨b,1,none⟩ with
 |some (.slice (some a) _ _)=>(match w.cell? ⟨a.block,n*13+10,none⟩ with
  |some (.slice _ l _)=>l
  |_=>0)
 |_=>0
theorem iO.waits (h:iO w B b mm T) {t:MT} (ht:mm.aM[n]? =some t):zi w b n=t.wait.length:=by
 obtain⟨tb,tc,wa,wc,oa,oc,e1,e2, -⟩:=h.xq ht;unfold zi;rw[e1];simp only;rw[e2]
theorem iO.drewN (h:iO w B b mm T) (k:Nat):iO (w.drewN k) B b mm T:=h.below (below_drewN (aQ _ _) _)
theorem JH {t:MT} (ht:mm.aM[n]? =some t) (h:(mm.flush n).1=true):∃u,(mm.flush n).2.aM[n]? =some u/\u.wait.length+1=t.wait.length:=by
 unfold MM.flush MM.xq at*;rw[if_neg (by omega),Int.toNat_natCast,ht] at h⊢;simp only at h⊢;cases hw:t.wait with
 |nil=>rw[hw] at h;cases h
 |cons c r=>exact⟨_,MB (mm:={mm with mem:=mm.mem.set c.1.toNat c.2}) ht _,by simp⟩
theorem GA (h:(mm.flush n).1=false):qI mm n/\(mm.flush n).2=mm:=by
 unfold MM.flush MM.xq at*;rw[if_neg (by omega),Int.toNat_natCast] at h⊢;cases ht:mm.aM[n]? with
 |none=>exact⟨fun t q=>(by rw[ht] at q;cases q),rfl⟩
 |some t=>
  rw[ht] at h;simp only at h⊢;cases hw:t.wait with
  |nil=>exact⟨fun u q=>(by rw[ht] at q;cases q;exact hw),rfl⟩
  |cons c r=>rw[hw] at h;cases h
theorem Gw {k:Nat} (h:qI mm k):qI (mm.flush n).2 k:=by
 unfold MM.flush MM.xq;rw[if_neg (by omega),Int.toNat_natCast];cases ht:mm.aM[n]? with
 |none=>exact h
 |some t=>
  simp only;cases hw:t.wait with
  |nil=>exact h
  |cons c r=>
   intro u hu;by_cases e:k=n
   ·subst e;rw[h t ht] at hw;cases hw
   ·simp only[MM.put] at hu;rw[List.getElem?_set_ne (fun q=>e q.symm)] at hu;exact h u hu
theorem Oj {words:Int} (h0:0<=words) (h1:words<=65536) (w:World):Calls Tryz.prog 18 #[.int .i64 words,.slice none 0 0] w fun e w'=>∃(po:Option Addr) (pn pc:Nat) (z:Int),e= .returned (.tuple #[.agg #[.int .i64 words,.slice po pn pc,.int .i64 z],.int .i64 0])/\Below w.heap.size w w':=by
 have hz:Ints w (.slice none ([]:List Int).length 0) []:=⟨.none,0,rfl,by simp,fun i hi=>by simp at hi⟩;refine(CF words none [] 0 w hz (by simp)).mono ?_;rintro e w' ⟨v,rfl, -,hr,hb⟩;have hm:fK words []=0:=wh (n:=0) h0 h1 (by decide);rw[hm,if_pos rfl,if_pos rfl];obtain⟨po,pc,rfl⟩:=bF (hr hm);exact⟨po,_,pc,_,rfl,hb⟩
theorem Wm {words:Int} {s q:Nat} (h0:0<=words) (h1:words<=65536) (hs:s<16) (hq:(q:Int)=words+2+s) (z:Int) (v:Value) (w:World):
  Calls Tryz.prog 20 #[.agg #[.int .i64 words,v,.int .i64 z],.int .i64 (s:Int)] w fun e w'=>e= .returned (.int .i64 (q:Int))/\Below w.heap.size w w':=by
 have e:wrap64 (wrap64 (words+2)+vC (s:Int))=(q:Int):=by
  have h2:vC (s:Int)=s:=by unfold vC;rw[Ut];omega
  rw[h2,hq];unfold wrap64;omega
 have h:=Tf words z (s:Int) v w;rw[e] at h;exact h
theorem LX {a:Int} (h:a%2≠0) (w:World):Calls Tryz.prog 19 #[.int .i64 a] w fun e w'=>e= .returned (.tuple #[.bool true,.int .i64 (a/2),.int .i64 0])/\w'=w:=
 LJ a w (by have ho:a%2=1:=(by omega);rw[Uv,ho];rfl)
theorem OD {a:Int} (h:a%2=0) (w:World):Calls Tryz.prog 19 #[.int .i64 a] w fun e w'=>e= .returned (.tuple #[.bool false,.int .i64 0,.int .i64 (a/2)])/\w'=w:=
 Hq a w (by rw[Uv,h];rfl)
theorem I5 {sl:List gT} {k:Nat} {p:gT} (h:sl.any nC=false) (ht:total sl<=1048576) (hp:sl[k]? =some p):
  p.kind<=2/\0<=p.n/\0<=total (sl.take k)/\total (sl.take k)+p.n<=1048576/\total (sl.take k)+p.n<=total (sl.take (k+1)):=by
 have hbx:nC p=false:=by
  have:=List.any_eq_false.1 h p (bA hp);simpa using this
 have hp2:p.kind<=2/\0<=p.n:=by unfold nC at hbx;simp at hbx;omega
 have h1:=wC (sl.take k) (sl.drop k);rw[List.take_append_drop] at h1;have h2:sl.drop k=p::sl.drop (k+1):=by
  obtain⟨hl,he⟩:=bE.1 hp;rw[<-he];exact List.drop_eq_getElem_cons hl
 have h3:total (sl.drop k)=qA p+total (sl.drop (k+1)):=by rw[h2];simp[total]
 have h4:0<=total (sl.drop (k+1)):=oJ (List.any_eq_false.2 fun y hy=>List.any_eq_false.1 h y (List.mem_of_mem_drop hy));have h5:0<=total (sl.take k):=oJ (List.any_eq_false.2 fun y hy=>List.any_eq_false.1 h y (List.mem_of_mem_take hy));have h7:min p.n 1048577<=qA p:=by unfold qA;split<;>omega
 have h8:total (sl.take (k+1))=total (sl.take k)+qA p:=by rw[dx hp,mO]
 refine⟨hp2.1,hp2.2,h5,by omega,by omega⟩
theorem Va {words:Int} {ts:vw} {co:Option Addr} {cc:Nat} {l:List (Value×List bM)} (h:SQ w words ts co cc l) (hf:VR words ts):
  oH (jq words (ts.map rowsOf))/\Small (jq words (ts.map rowsOf))/\jK (jq words (ts.map rowsOf)) (iC (dz words ts.length) (l.map (·.2)) [],0)/\words+18<=dz words ts.length:=by
 have ok:=Pz (words:=words) (rs:=ts.map rowsOf) (by rw[List.length_map];exact h.plan) (by rw[List.length_map];exact h.few) (fun r hr l hl o ho=>(Qd h.rows r hr l hl o ho).2);obtain⟨w0,hsz,hle, -⟩:=KX h.plan;have hsz2:words+18<=dz words ts.length:=by omega
 refine⟨ok,fun n=>?_,?_,hsz2⟩
 ·show((ts.map rowsOf).getD n []).length<=16/\∀r,(((ts.map rowsOf).getD n []).getD r []).length<=8;rw[List.getD_eq_getElem?_getD,List.getElem?_map];cases ht:ts[n]? with
  |none=>simp
  |some t=>
   have h1:=hf.1 t (bA ht);simp only[Option.map_some,Option.getD_some];refine⟨by simpa [rowsOf] using h1.1,fun r=>?_⟩;rw[List.getD_eq_getElem?_getD];unfold rowsOf;rw[List.getElem?_map];cases hq:t.2[r]? with
   |none=>simp
   |some q=>simpa using h1.2 q (bA hq)
 ·have h1:=jK.start ok (by show words+18<=dz words (ts.map rowsOf).length;rw[List.length_map];exact hsz2);rw[h.is,Jd];have e:dz words ts.length=(jq words (ts.map rowsOf)).size:=by show _=dz words (ts.map rowsOf).length;rw[List.length_map]
  rw[e];have e2:∀n,fE words ts.length n=(jq words (ts.map rowsOf)).tx n:=fun n=>by show _=fE words (ts.map rowsOf).length n;rw[List.length_map]
  exact h1
end
section
variable {w w':World}
theorem Mi {b:Nat} {t:TypeId} {y z:Int} (hb:w.heap[b]? =some (.cells #[.int .i64 y,.int .i64 z] t (0,0))) (hy:0<=y/\y<=9223372036854775807) (hz:0<=z/\z<=9223372036854775807):
  Calls Tryz.prog 8 #[.slice (some ⟨b,0,none⟩) 2 2] w fun e w'=>∃r,e= .returned (.bool r)/\(r=false->y<=262144/\z<=262144)/\Below w.heap.size w w':=by
 have x0:w.cell? ⟨b,0,none⟩=some (.int .i64 y):=af hb rfl;have x1:w.cell? ⟨b,1,none⟩=some (.int .i64 z):=af hb rfl;obtain⟨hy0,hy1⟩:=hy;obtain⟨hz0,hz1⟩:=hz;clear hb;by_cases h1:y>262144
 ·have hn0:¬y<0:=by omega
  go_in;go_wp2_with fail;go_loopw [4,3] (fun i acc wr=>wr=w/\i= .int .i64 0/\acc= .int .i64 0) (fun i _ _=>(2 - intOf i).toNat)
  case atStart=>exact⟨rfl,rfl,rfl⟩
  case round=>
   obtain⟨rfl,rfl,rfl⟩:=hrel;go_wp2;go_ret;exact⟨true,rfl,by simp,aQ _ _⟩
 ·have hn0:¬y<0:=by omega
  by_cases h2:z>262144
  ·have hn1:¬z<0:=by omega
   go_in;go_wp2_with fail;go_loopw [4,3] (fun i acc wr=>wr=w/\(i= .int .i64 0/\acc= .int .i64 0\/i= .int .i64 1/\acc= .int .i64 y)) (fun i _ _=>(2 - intOf i).toNat)
   case atStart=>exact⟨rfl,.inl ⟨rfl,rfl⟩⟩
   case round=>
    obtain⟨rfl,⟨rfl,rfl⟩|⟨rfl,rfl⟩⟩:=hrel
    ·go_wp2;exact⟨⟨trivial,.inr ⟨rfl,rfl⟩⟩,by simp[intOf]⟩
    ·go_wp2;go_ret;exact⟨true,rfl,by simp,aQ _ _⟩
  ·have hn1:¬z<0:=by omega
   by_cases h3:y+z>262144
   ·go_in;go_wp2_with fail;go_loopw [4,3] (fun i acc wr=>wr=w/\(i= .int .i64 0/\acc= .int .i64 0\/i= .int .i64 1/\acc= .int .i64 y)) (fun i _ _=>(2 - intOf i).toNat)
    case atStart=>exact⟨rfl,.inl ⟨rfl,rfl⟩⟩
    case round=>
     obtain⟨rfl,⟨rfl,rfl⟩|⟨rfl,rfl⟩⟩:=hrel
     ·go_wp2;exact⟨⟨trivial,.inr ⟨rfl,rfl⟩⟩,by simp[intOf]⟩
     ·go_wp2;go_ret;exact⟨true,rfl,by simp,aQ _ _⟩
   ·go_in;go_wp2_with fail;go_loopw [4,3] (fun i acc wr=>wr=w/\(i= .int .i64 0/\acc= .int .i64 0\/i= .int .i64 1/\acc= .int .i64 y\/i= .int .i64 2/\acc= .int .i64 (y+z))) (fun i _ _=>(2 - intOf i).toNat)
    case atStart=>exact⟨rfl,.inl ⟨rfl,rfl⟩⟩
    case round=>
     obtain⟨rfl,⟨rfl,rfl⟩|⟨rfl,rfl⟩|⟨rfl,rfl⟩⟩:=hrel
     ·go_wp2;exact⟨⟨trivial,.inr (.inl ⟨rfl,rfl⟩)⟩,by simp[intOf]⟩
     ·go_wp2;exact⟨⟨trivial,.inr (.inr ⟨rfl,rfl⟩)⟩,by simp[intOf]⟩
     ·go_wp2;go_ret;exact⟨false,rfl,fun _=>⟨by omega,by omega⟩,aQ _ _⟩
theorem X_ (zs:List Int):∀{s:Int×Bool},(∀n∈zs,0<=n)->qR s.1->qR (fin zs s).1:=by
 induction zs with
 |nil=>intro s _ h;exact h
 |cons n l ih=>
  intro s hz hs;exact ih (fun x hx=>hz x (List.mem_cons_of_mem _ hx)) (iU (by decide) (iU (by decide) (iU (by decide) (iU (hz n List.mem_cons_self) hs))))
theorem ic.size {words size:Int} {ps:List gP} (h:ic words size ps):1<=size/\size<=262144:=by
 have hw:=o7 h.2.1;have e:mkS words (dN ps)=(fin (dN ps) (s0 words)).1:=if_pos h.2.1;rw[h.2.2.1] at e;rw[e];exact X_ _ (fun n hn=>by
  obtain⟨p,hp,rfl⟩:=List.mem_map.1 hn;have:=h.1 p hp;omega) (iU (by decide) (iU hw.1 ⟨by decide,by decide⟩))
def GoodS (words size:Int) (ps:List gP) (thread:Int) (rs:List (Value×List Tx)):Prop:=(ic words size ps/\0<=thread/\thread<ps.length)/\gN words rs=true
def ZX (words size:Int) (ps:List gP) (thread:Int) (rs:List (Value×List Tx)) (lo:Option Addr) (ln lc:Nat) (en:Int) (w':World):Prop:=
 (en=1/\ln=0/\¬GoodS words size ps thread rs)\/
 (en=3/\ln=0/\GoodS words size ps thread rs/\¬((∀p∈rs,p.2.length<=8)/\rs.length<=16))\/
 (en=0/\GoodS words size ps thread rs/\∃l,l.length=ln/\fI bR w' 6 (.slice lo ln lc) l/\bB l/\l.length<=262144)
theorem ZX.of {words size:Int} {ps:List gP} {thread:Int} {rs:List (Value×List Tx)} {e:Ending} (h:zk words size ps thread rs w e w') (hwf:∀p∈rs,∀o∈p.2,yG o):
  ∃lo ln lc en,e= .returned (.tuple #[.slice lo ln lc,.int .i64 en])/\ZX words size ps thread rs lo ln lc en w'/\Below w.heap.size w w':=by
 obtain⟨hb,hr⟩:=h;rcases hr with⟨rfl,hn⟩|⟨k,p,rfl,hx,hpl,hok,⟨rfl,j,hj,hov⟩|⟨g,rfl,hblk,hg,hov,hlen⟩⟩
 ·exact⟨none,0,0,1,rfl,.inl ⟨rfl,rfl,fun q=>hn ⟨q.1.1,q.1.2.1,q.1.2.2,q.2⟩⟩,hb⟩
 ·have hk:=(bE.1 hx).1;refine⟨none,0,0,3,rfl,.inr (.inl ⟨rfl,rfl,⟨⟨hpl,by omega,by omega⟩,hok⟩,fun hf=>?_⟩),hb⟩;have h1:=Al (rs:=rs.map Prod.snd) (fun l hl=>by
   obtain⟨q,hq,rfl⟩:=List.mem_map.1 hl;exact hf.1 q hq)
  rw[List.length_map] at h1;have h2:=vS (t:=nN words size p k) (rs:=rs.map Prod.snd) (by unfold ig;have:=hf.2;omega) j;rw[<-List.map_take] at h2;rcases hov with hov|hov
  ·rw[h2.1] at hov;cases hov
  ·rw[h2.2] at hov;cases hov
 ·have hk:=(bE.1 hx).1;have hroom:=Et hov;obtain⟨-,hd,hl⟩:=zM (t:=nN words size p k) hroom;rw[hd] at hblk;rw[hl] at hlen⊢;rw[<-EF (nN words size p k)] at hlen⊢;exact⟨_,_,_,0,rfl,.inr (.inr ⟨rfl,⟨⟨hpl,by omega,by omega⟩,hok⟩,_,rfl,vQ dL hblk,FQ (hpl.ok hx) hroom (fun l hl=>by
   obtain⟨q,hq,rfl⟩:=List.mem_map.1 hl;exact hwf q hq),hlen⟩),hb⟩
end
end Go.Proofs.YtopdcjimpdalpaaGreat

import Derived.Test.YtopdcjimpdalpaaGreatR42
import Derived.Test.YtopdcjimpdalpaaGreatR41
import Derived.Deep.CutRange
import Derived.BigQuiet
import Derived.Deep.RegionWith
import Derived.StillTailTactics
namespace Go.Proofs.YtopdcjimpdalpaaGreat
open Go.RowKit
set_option linter.all false
set_option maxHeartbeats 8000000
set_option maxRecDepth 100000
theorem zV {l:List (Int×Int)} {a:Int} {k:Nat} {c:Int×Int} (hc:l[k]? =some c) (ha:c.1=a):place l a<=k:=by
 rcases Nat.lt_or_ge k (place l a) with h|h
 ·have:=List.not_of_lt_findIdx h;obtain⟨hk,rfl⟩:=bu.1 hc;simp[ha] at this
 ·exact h
section
variable {w w':World}
structure xm (a:bJ):Prop where
 th:0<=a.th/\a.th<4
 kind:a.kind=0/\a.fin= -1\/(a.kind=1\/a.kind=2\/a.kind=3)/\a.dN<a.fin
 dN:0<=a.dN
 clock:0<=a.clock
 plain:a.kind≠1->a.place=0/\a.writer=false
 evs:∀e∈a.done,e.th=a.th/\0<=e.a/\e.a<262144/\(e.k=2\/e.k=3)
 few:a.done.length<=2097152
structure tK (w:World) (v:Value) (ps:List (bJ×Value)):Prop where
 row:dH enc2 w 8 v ps
 evs:∀p∈ps,dH iB w 4 p.2 p.1.done
theorem tK.below {v:Value} {ps:List (bJ×Value)} (h:tK w v ps) (hb:Below w.heap.size w w'):tK w' v ps:=⟨Rd.below h.row hb,fun p hp=>Rd.below (h.evs p hp) hb⟩
theorem tK.of {base:Nat} {v:Value} {ps:List (bJ×Value)} (h:vU w base v ps):tK w v ps:=
 ⟨Rd.gu h.row,fun p hp=>by
  obtain⟨j,hj⟩:=List.getElem?_of_mem hp;exact Rd.gu (h.own j p hj)⟩
end
section
variable {w w':World}
structure yu (w:World) (v:Value) (ts:xJ):Prop where
 rows:dH Fy w 1 v ts
 each:∀p∈ts,ry w p.1 p.2
 len:ts.length<=9223372036854775807
 abr:∀p∈ts,p.2.length<=9223372036854775807
 abG:∀p∈ts,∀q∈p.2,q.2.length<=9223372036854775807
 wf:∀p∈ts,∀q∈p.2,∀o∈q.2,Ab o
theorem yu.below {v:Value} {ts:xJ} (h:yu w v ts) (hb:Below w.heap.size w w'):yu w' v ts:=⟨Rd.below h.rows hb,fun p hp=>(h.each p hp).below hb,h.len,h.abr,h.abG,h.wf⟩
theorem yu.at {v:Value} {ts:xJ} (h:yu w v ts) (ht:∀p∈ts,dP p.2<=262144):Bv w v ts:=⟨h.rows,h.each,ht⟩
theorem U7 {ta:Option Addr} {tc:Nat} {ts:xJ} (h:yu w (.slice ta ts.length tc) ts):
  Calls Tryz.prog 9 #[.slice ta ts.length tc] w fun e w'=>∃z:Int,e= .returned (.int .i64 z)/\0<=z/\z<=9223372036854775807/\(z<=262144->∀p∈ts,dP p.2<=262144)/\Below w.heap.size w w':=by
 have H:=ag h;have hlen:=h.len;clear h;go_in;go_wp2_with fail;go_loopw [3,4] (fun z i wr=>∃(j:Nat) (y:Int),j<=ts.length/\i= .int .i64 (j:Int)/\z= .int .i64 y/\0<=y/\y<=1310721/\Hid (y<=262144->∀p∈ts.take j,dP p.2<=262144)/\Hid (Below w.heap.size w wr)) (fun _ i _=>ts.length - (intOf i).toNat)
 case atStart=>exact⟨0,0,Nat.zero_le _,rfl,rfl,by decide,by decide,fun _ p hp=>by simp at hp,au _ _⟩
 case round=>
  obtain⟨j,y,hj,rfl,rfl,hy0,hy1,HT,HB⟩:=hrel;by_cases hlt:j<ts.length
  ·by_cases hy:y<1048576
   ·obtain⟨t,hx⟩:=bE hlt;obtain⟨g,off,rfl,hg,hc⟩:=dH.at Gp (Rd.below H.out.rows HB.out) hx;have hrows:=(H.out.each t (bC hx)).below HB.out;obtain⟨ra,rc,SC⟩:=z8 hrows.rows;have d0:wr.cell? ⟨g,off+j,none⟩=some (.slice ra t.2.length rc):=by have:=hc 0 _ rfl;rw[<-SC];simpa [Fy] using this
    rw[SC] at hrows;have HR:=ag hrows;have HL:=ag (H.out.abr t (bC hx));have HE:=ag (H.out.abG t (bC hx));have Gg:=ag (show ∀p∈ts.take (j+1),p∈ts.take j\/p=t from fun p hp=>by
     rw[List.take_add_one,hx,Option.toList_some] at hp;rcases List.mem_append.1 hp with hp|hp
     ·exact .inl hp
     ·exact .inr (List.mem_singleton.1 hp))
    have RV:=ag hlt;clear hx hc SC hrows;go_wp2_with fail;refine(Oe HR.out HL.out HE.out).mono ?_;rintro e w1 ⟨z,rfl,hz0,hz1,hz2,hb⟩;have HB1:=ag (fe HB.out hb);have HT1:=ag (show y+z<=262144->∀p∈ts.take (j+1),dP p.2<=262144 from fun hle p hp=>by
     rcases Gg.out p hp with hp|rfl
     ·exact HT.out (by omega) p hp
     ·have:=hz2 (by omega);omega)
    clear hz2 hb d0;go_wp2_with fail;exact⟨⟨j+1,y+z,by have:=RV.out;omega,by go_num,by go_num,by omega,by omega,ag HT1.out,HB1⟩,by simp[intOf];have:=RV.out;omega⟩
   ·have HT1:=ag (show y<=262144->∀p∈ts,dP p.2<=262144 from fun hle=>by omega);have HY:=ag (show 0<=y/\y<=9223372036854775807 by omega);clear hy0 hy1;go_wp2_with fail;go_ret;exact⟨y,rfl,HY.out.1,HY.out.2,by simpa using HT1.out,HB.out⟩
  ·obtain rfl:j=ts.length:=by omega
   have hT:=HT.out;rw[List.take_length] at hT;have HT1:=ag hT;have HY:=ag (show 0<=y/\y<=9223372036854775807 by omega);clear hT hy0 hy1;go_wp2_with fail;go_ret;exact⟨y,rfl,HY.out.1,HY.out.2,by simpa using HT1.out,HB.out⟩
theorem Me {ta:Option Addr} {tc n:Nat} (h4:4<n) (hn:n<=9223372036854775807) (words:Int):
  Calls Tryz.prog 11 #[.int .i64 words,.slice ta n tc] w fun e w'=>e= .returned (.tuple #[.agg #[.slice none 0 0,.int .i64 0,.slice none 0 0],.int .i64 3])/\Below w.heap.size w w':=by
 have Xz:=ag (aj w (.cells #[.slice none 0 0,.int .i64 0,.slice none 0 0] 30));have HB0:=ag ((au w.heap.size w).alloc (aB _) (.cells #[.slice none 0 0,.int .i64 0,.slice none 0 0] 30));have q1:((n:Int)>4):=by omega
 clear h4;go_in;go_wp2_with fail;refine bodyPost_ret (v:=.tuple #[.agg #[.slice none 0 0,.int .i64 0,.slice none 0 0],.int .i64 3]) (by simp[results,Tryz.results11,go_sem]) rfl ?_;exact⟨rfl,HB0.out⟩
def vF (words:Int) (ts:xJ) (sc:List dB):MM×Int:=a_ (gF (dA words ts.length) (ts.mapIdx fun i t=>bM (fF words ts.length i) (rowsOf t)) [],0) (gy sc)
structure BB (words:Int) (ts:xJ) (sc:List dB):Prop where
 plan:gp words (dU ts.length)=0
 len:ts.length<=4
 rows:∀t∈ts,jJ words t.2=true
 script:(dK sc).2=0
theorem Ra {words:Int} {ts:xJ} (h:∀t∈ts,jJ words t.2=true):∀r∈ts.map rowsOf,∀l∈r,∀o∈l,(o.kind=2\/o.kind=3)/\1<=o.at_/\o.at_<=words:=by
 intro r hr l hl o ho;obtain⟨t,ht,rfl⟩:=List.mem_map.1 hr;obtain⟨p,hp,rfl⟩:=List.mem_map.1 hl;have h1:=List.all_eq_true.1 (h t ht) p hp;have h2:=List.all_eq_true.1 h1 o ho;unfold qP at h2;simp at h2;omega
theorem Jg (words:Int) (ts:xJ):(ts.mapIdx fun i t=>bM (fF words ts.length i) (rowsOf t))=(List.range (ts.map rowsOf).length).map (fun n=>bM (fF words (ts.map rowsOf).length n) ((ts.map rowsOf).getD n [])):=by
 refine List.ext_getElem (by simp) fun i h1 h2=>?_
 simp only[List.length_mapIdx] at h1;simp[List.getD_eq_getElem?_getD,h1]
theorem BB.stands {words:Int} {ts:xJ} {sc:List dB} (h:BB words ts sc):lq (He words (ts.map rowsOf)) (words+1).toNat (vF words ts sc)/\(vF words ts sc).1.evs.length<=1048576:=by
 have:=Nr (words:=words) (rs:=ts.map rowsOf) (by rw[List.length_map];exact h.plan) (by rw[List.length_map];exact h.len) (fun r hr l hl o ho=>(Ra h.rows r hr l hl o ho).2) h.script;unfold vF;rw[Jg];rw[List.length_map] at this⊢;exact this
def Yz (words:Int) (ts:xJ) (sc:List dB) (w:World) (e:Ending) (w':World):Prop:=
 Below w.heap.size w w'/\(e= .returned (.tuple #[.agg #[.slice none 0 0,.slice none 0 0,.int .i64 0],.slice none 0 0,.bool false,.bool true])\/
  BB words ts sc/\∃sa sn ls eo ec st ao ac ps s,e= .returned (.tuple #[.agg #[.slice sa ls.length sn,.slice eo (vF words ts sc).1.evs.length ec,.int .i64 st],.slice ao ps.length ac,.bool true,.bool true])/\
   Bb w' (.slice sa ls.length sn) ls/\ls.map (fun s=>(s.out,s.fin))=(vF words ts sc).1.aT.map (fun t=>(t.out,t.fin))/\jK (vF words ts sc).1.evs 0 HS.init= .inl s/\ps.map Prod.fst=s.aU/\tK w' (.slice ao ps.length ac) ps)
theorem Sm {words:Int} {ts:xJ} {cs:List (Nat×List bR)} (h:mZ words ts.length ts cs):(∀t∈ts,iO (rowsOf t)<=262144)/\cs.map Prod.snd=ts.mapIdx (fun i t=>bM (fF words ts.length i) (rowsOf t)):=by
 have h1:∀t∈ts,iO (rowsOf t)<=262144:=fun t ht=>by
  obtain⟨i,hi⟩:=List.getElem?_of_mem ht;have hil:=(bu.1 hi).1;have hc:=eO (show i<cs.length by rw[h.len];exact hil);exact FK (h.at_ i _ _ hc hi).2
 exact⟨h1,yL h h1⟩
structure Zw (w:World) (words:Int) (ts:xJ) (co:Option Addr) (cc:Nat) (l:List (Value×List bR)):Prop where
 code:mX w (.slice co l.length cc) l
 is:l.map (·.2)=ts.mapIdx (fun i t=>bM (fF words ts.length i) (rowsOf t))
 len:l.length<=4
 chk:cB (dA words ts.length) l []=0
 plan:gp words (dU ts.length)=0
 few:ts.length<=4
 rows:∀t∈ts,jJ words t.2=true
 each:∀p∈l,p.2.length<=262144
def Gi (words:Int) (ts:xJ) (w:World) (e:Ending) (w':World):Prop:=
 Below w.heap.size w w'/\((∃en:Int,en≠0/\e= .returned (.tuple #[.agg #[.slice none 0 0,.int .i64 0,.slice none 0 0],.int .i64 en]))\/
  ∃co cc l,e= .returned (.tuple #[.agg #[.slice co l.length cc,.int .i64 (dA words ts.length),.slice none 0 0],.int .i64 0])/\Zw w' words ts co cc l)
theorem Nb {cs:List (Nat×List bR)} {p:Nat×List bR} (h:p∈cs):p.2.length<=ja cs:=by
 unfold ja;induction cs with
 |nil=>cases h
 |cons a l ih=>
  rcases List.mem_cons.1 h with rfl|h
  ·simp
  ·have:=ih h;simp;omega
theorem adN {words:Int} {ts:xJ} {e:Ending} (h:Av words ts w e w') (hw:∀p∈ts,∀q∈p.2,∀o∈q.2,Ab o):Gi words ts w e w':=by
 obtain⟨hb,h⟩:=h;refine⟨hb,?_⟩;rcases h with⟨en,rfl,h⟩|⟨co,cc,cs,rfl,hown,hin,hcs,hsum,Te,hlen,hrows⟩
 ·exact .inl ⟨en,by rcases h with⟨rfl, -⟩|⟨rfl, -⟩<;>decide,rfl⟩
 ·obtain⟨hp,hc⟩:=Sm hcs;have hcl:=hcs.len;have hok:∀p∈cs,bF p.2:=by
   intro p hp2;obtain⟨k,hk,e⟩:=List.getElem_of_mem hp2;have hkt:k<ts.length:=by omega
   have h3:(cs.map Prod.snd)[k]'(by simpa using hk)=(ts.mapIdx (fun i t=>bM (fF words ts.length i) (rowsOf t)))[k]'(by simpa using hkt):=by simp only[hc]
   rw[List.getElem_map,List.getElem_mapIdx,e] at h3;rw[h3];refine IX (JS Te hkt) (hp _ (List.getElem_mem hkt)) fun l hl o ho=>?_
   obtain⟨q,hq,rfl⟩:=List.mem_map.1 hl;exact hw _ (List.getElem_mem hkt) q hq o ho
  obtain⟨l,hll,hcode,hl2⟩:=JK hown hin hok;obtain⟨w0,hsz,hle, -⟩:=IC Te;have Xo:=Gf (mem:=dA words ts.length) hl2 hsum (by omega) (by omega) hok;refine .inr ⟨co,cc,l,by rw[hll],hcode,hl2.trans hc,by omega,Xo,Te,hlen,hrows,fun p hp2=>?_⟩;have h1:p.2∈l.map (·.2):=List.mem_map_of_mem hp2;rw[hl2] at h1;obtain⟨q,hq,e⟩:=List.mem_map.1 h1;rw[<-e];exact Nat.le_trans (Nb hq) hsum
theorem YM {ta:Option Addr} {tc:Nat} {ts:xJ} (h:yu w (.slice ta ts.length tc) ts) (ht:∀p∈ts,dP p.2<=262144) (words:Int):
  Calls Tryz.prog 11 #[.int .i64 words,.slice ta ts.length tc] w (Gi words ts w):=by
 by_cases h4:4<ts.length
 ·refine(Me h4 h.len words).mono ?_;rintro e w1 ⟨rfl,hb⟩;exact⟨hb,.inl ⟨3,by decide,rfl⟩⟩
 ·exact(Gr (h.at ht) (by omega) words).mono fun e w1 hp=>adN hp h.wf
theorem Rf {mem:Int} {l:List (Value×List bR)} {cs:List (Int×Int)} {sc:List dB} (h:tZ mem l cs sc=0):(dK sc).2=0:=by
 unfold tZ at h;split at h
 ·rename_i hc;rw[h] at hc;simp at hc
 ·exact h
theorem aes {words:Int} {ts:xJ} {sc:List dB} {co:Option Addr} {cc:Nat} {l:List (Value×List bR)} (h:Zw w words ts co cc l) (he:tZ (dA words ts.length) l [] sc=0):BB words ts sc/\
  II (dA words ts.length) (l.map (·.2)) [] (tZ (dA words ts.length) l [] sc) sc=⟨(vF words ts sc).1.aT.map (fun t=>(t.out,t.fin)),(vF words ts sc).1.evs,(vF words ts sc).2,0⟩/\∃s,jK (vF words ts sc).1.evs 0 HS.init= .inl s:=by
 have hr:BB words ts sc:=⟨h.plan,h.few,h.rows,Rf he⟩;refine⟨hr,?_,?_⟩
 ·unfold II vF;rw[if_pos he,h.is]
 ·obtain⟨⟨m,ks,s,cw,h1,h2,h3, -, -⟩, -⟩:=hr.stands;exact⟨s,by have:=h3.eF.eF;rwa [<-h1.evs] at this⟩
theorem Hq {ta:Option Addr} {tc:Nat} {ts:xJ} (h:yu w (.slice ta ts.length tc) ts) (ht:∀p∈ts,dP p.2<=262144) (words:Int) {sa:Option Addr} {yG:Nat} {sc:List dB} (hs:dH fU w 3 (.slice sa sc.length yG) sc) (hsl:sc.length<=9000000000000) (hsn:∀p∈sc,0<=p.kind/\(-9223372036854775808<=p.n/\p.n<=9223372036854775807)):
  Calls Tryz.prog 21 #[.int .i64 words,.slice ta ts.length tc,.slice sa sc.length yG] w (Yz words ts sc w):=by
 have H:=ag h;have HT:=ag ht;have HS:=ag hs;have HSL:=ag hsl;have EU:=ag hsn;have HLEN:=ag h.len;clear h ht hs hsl hsn;have Xz:=ag (aj w (.cells #[.slice none 0 0,.slice none 0 0,.int .i64 0] 66));have HB0:=ag ((au w.heap.size w).alloc (aB _) (.cells #[.slice none 0 0,.slice none 0 0,.int .i64 0] 66));go_in;go_wp2_with fail;refine(YM (H.out.below HB0.out) HT.out words).mono ?_;intro e w1 hpost;obtain⟨hb1,h⟩:=hpost;have HB1:=ag (fe HB0.out hb1);have HR1:=ag (blk hb1 Xz.out);obtain⟨br,hbr⟩:∃b,b=w.heap.size:=⟨_,rfl⟩;have rV:=ag hbr;rw[<-hbr] at HR1⊢;have HS1:=ag (Rd.below HS.out HB1.out);clear hb1 hbr Xz HB0 HS;rcases h with⟨en,hen,rfl⟩|⟨co,cc,l,rfl,VS⟩
 ·have KO:=ag ((au w1.heap.size w1).alloc (aB _) (.cells #[.slice none 0 0,.int .i64 0,.slice none 0 0] 30));have HB2:=ag (fe HB1.out KO.out);have HR2:=ag (blk KO.out HR1.out);have r0:(w1.alloc (.cells #[.slice none 0 0,.int .i64 0,.slice none 0 0] 30)).cell? ⟨br,0,none⟩=some (.slice none 0 0):=af HR2.out rfl;have r1:(w1.alloc (.cells #[.slice none 0 0,.int .i64 0,.slice none 0 0] 30)).cell? ⟨br,1,none⟩=some (.slice none 0 0):=af HR2.out rfl;have r2:(w1.alloc (.cells #[.slice none 0 0,.int .i64 0,.slice none 0 0] 30)).cell? ⟨br,2,none⟩=some (.int .i64 0):=af HR2.out rfl;have Lb:(w1.alloc (.cells #[.slice none 0 0,.int .i64 0,.slice none 0 0] 30)).frozen? ⟨br,0,none⟩=false:=ah HR2.out;have Oc:(w1.alloc (.cells #[.slice none 0 0,.int .i64 0,.slice none 0 0] 30)).frozen? ⟨br,1,none⟩=false:=ah HR2.out;have LV:(w1.alloc (.cells #[.slice none 0 0,.int .i64 0,.slice none 0 0] 30)).frozen? ⟨br,2,none⟩=false:=ah HR2.out;go_wp2_with fail;have Cf:=ag (show Below w.heap.size w ((((w1.alloc (.cells #[.slice none 0 0,.int .i64 0,.slice none 0 0] 30)).setCell ⟨br,0,none⟩ (.slice none 0 0)).setCell ⟨br,1,none⟩ (.slice none 0 0)).setCell ⟨br,2,none⟩ (.int .i64 0)) from((HB2.out.setCell (p:=⟨br,0,none⟩) (Nat.le_of_eq rV.out.symm) _).setCell (p:=⟨br,1,none⟩) (Nat.le_of_eq rV.out.symm) _).setCell (p:=⟨br,2,none⟩) (Nat.le_of_eq rV.out.symm) _);have hfin:=ai (o:=2) (.int .i64 0) (ai (o:=1) (.slice none 0 0) (ai (o:=0) (.slice none 0 0) HR2.out));have F6:=ag (show ∀g,g≠br->((((w1.alloc (.cells #[.slice none 0 0,.int .i64 0,.slice none 0 0] 30)).setCell ⟨br,0,none⟩ (.slice none 0 0)).setCell ⟨br,1,none⟩ (.slice none 0 0)).setCell ⟨br,2,none⟩ (.int .i64 0)).heap[g]? =(w1.alloc (.cells #[.slice none 0 0,.int .i64 0,.slice none 0 0] 30)).heap[g]? from fun g hg=>((dm _ _ _ _ hg).trans (dm _ _ _ _ hg)).trans (dm _ _ _ _ hg));generalize((((w1.alloc (.cells #[.slice none 0 0,.int .i64 0,.slice none 0 0] 30)).setCell ⟨br,0,none⟩ (.slice none 0 0)).setCell ⟨br,1,none⟩ (.slice none 0 0)).setCell ⟨br,2,none⟩ (.int .i64 0))=w9 at Cf hfin F6⊢;have k0:w9.cell? ⟨br,0,none⟩=some (.slice none 0 0):=af hfin rfl;have k1:w9.cell? ⟨br,1,none⟩=some (.slice none 0 0):=af hfin rfl;have k2:w9.cell? ⟨br,2,none⟩=some (.int .i64 0):=af hfin rfl;clear hfin r0 r1 r2 Lb Oc LV;refine bodyPost_ret (v:=.tuple #[.agg #[.slice none 0 0,.slice none 0 0,.int .i64 0],.slice none 0 0,.bool false,.bool true]) (by simp[results,Tryz.results21,go_sem,k0,k1,k2]) rfl ?_;exact⟨Cf.out,.inl rfl⟩
 ·obtain⟨mem,hmem⟩:∃z,z=dA words ts.length:=⟨_,rfl⟩;have aao:=ag hmem;have Lc:=ag VS;rw[<-hmem];clear VS hmem;have KO:=ag ((au w1.heap.size w1).alloc (aB _) (.cells #[.slice co l.length cc,.int .i64 mem,.slice none 0 0] 30));have HB2:=ag (fe HB1.out KO.out);have HR2:=ag (blk KO.out HR1.out);have EA:=ag (aj w1 (.cells #[.slice co l.length cc,.int .i64 mem,.slice none 0 0] 30));have HS2:=ag (Rd.below HS1.out KO.out);have aaE:=ag (Lc.out.code.below KO.out);have WV:=ag (show br<w1.heap.size from by have:=HB1.out.size;have:=rV.out;have:=lt_of_block HR1.out;omega);go_wp2_with fail;have XX:=ag (show w1.heap.size<(w1.alloc (.cells #[.slice co l.length cc,.int .i64 mem,.slice none 0 0] 30)).heap.size from by rw[World.size_alloc];omega);generalize w1.alloc (.cells #[.slice co l.length cc,.int .i64 mem,.slice none 0 0] 30)=w2 at HB2 HR2 EA HS2 aaE XX⊢;clear KO HS1 HR1;refine((show Calls Tryz.prog 42 #[.agg #[.slice co l.length cc,.int .i64 mem,.slice none 0 0],.slice sa sc.length yG] w2 (adM (II mem (l.map (·.2)) [] (tZ mem l [] sc) sc) w2) from
   ac8 (l:=l) (cs:=[]) (sc:=sc) (ca:=co) (fo:=cc) (oL:=none) (h_:=0) (sa:=sa) (yG:=yG) aaE.out (Rd.nil _ 2) mem (by have:=Lc.out.len;omega) (by simp) (fun p hp=>Nat.le_trans (Lc.out.each p hp) (by decide)) HS2.out HSL.out EU.out)).mono ?_
  rintro e w3 ⟨ao,ac,ls,eo,ec,rfl,htr,hot,hb3⟩;have HB3:=ag (fe HB2.out hb3);have HR3:=ag (blk hb3 HR2.out);clear hb3 HR2 HB2 EA HS2 aaE;by_cases he:tZ mem l [] sc=0
  ·have EX:=ag (show BB words ts sc/\II mem (l.map (·.2)) [] (tZ mem l [] sc) sc=⟨(vF words ts sc).1.aT.map (fun t=>(t.out,t.fin)),(vF words ts sc).1.evs,(vF words ts sc).2,0⟩/\∃s,jK (vF words ts sc).1.evs 0 HS.init= .inl s from by rw[aao.out] at he⊢;exact aes Lc.out he);rw[EX.out.2.1] at htr hot⊢;have MC:=ag hot;have HEL:=ag EX.out.1.stands.2;have OE:=ag htr.same;clear htr hot he;obtain⟨evs,aaN⟩:∃x,x=(vF words ts sc).1.evs:=⟨_,rfl⟩;have abd:=ag aaN;obtain⟨st,hst⟩:∃x,x=(vF words ts sc).2:=⟨_,rfl⟩;simp only;rw[<-hst];simp only at MC;rw[<-aaN] at MC HEL⊢;obtain⟨ne,hne⟩:∃x,x=evs.length:=⟨_,rfl⟩;have Fh:=ag hne;obtain⟨nl,hnl⟩:∃x,x=ls.length:=⟨_,rfl⟩;have Cq:=ag hnl;have Cc:=ag (show dH iB w3 4 (.slice eo ne ec) evs from by rw[hne];exact Rd.gu MC.out.evs);rw[<-hne,<-hnl];clear aaN hst hne hnl;have Ho:=ag ((au w3.heap.size w3).alloc (aB _) (.cells #[.slice ao nl ac,.slice eo ne ec,.int .i64 st] 66));have sN:=ag (fe HB3.out Ho.out);have HR4:=ag (blk Ho.out HR3.out);have ZY:=ag (MC.out.keep fun g _ hl=>Ho.out.block g hl);have abn:=ag (Rd.below Cc.out Ho.out);have X6:=ag (aj w3 (.cells #[.slice ao nl ac,.slice eo ne ec,.int .i64 st] 66));go_wp2_with fail;have Sz:=ag (show w3.heap.size<(w3.alloc (.cells #[.slice ao nl ac,.slice eo ne ec,.int .i64 st] 66)).heap.size from by rw[World.size_alloc];omega);have Vz:=ag (show br<w3.heap.size from lt_of_block HR3.out);generalize w3.alloc (.cells #[.slice ao nl ac,.slice eo ne ec,.int .i64 st] 66)=w4 at sN HR4 ZY abn X6 Sz⊢;clear Ho Cc HR3 HB3 MC;obtain⟨bt,hbt⟩:∃b,b=w3.heap.size:=⟨_,rfl⟩;rw[<-hbt] at X6 Sz Vz⊢;clear hbt;refine(YE abn.out (by have:=HEL.out;omega)).mono ?_;rintro e w5 ⟨po,pc,ps,hps,rfl,hown,hb5⟩;have pO:=ag (fe sN.out hb5);have yU:=ag (blk hb5 HR4.out);have ZB:=ag (blk hb5 X6.out);have afD:=ag (ZY.out.keep fun g _ hl=>hb5.block g hl);have HOW:=ag hown;have HPS:=ag hps;have ait:=ag hb5.size;have hoe:Gw evs=0:=by
    obtain⟨s,hs⟩:=EX.out.2.2;rw[<-abd.out] at hs;unfold Gw;rw[hs]
   rw[hoe];generalize Xt evs=oa at*;obtain⟨np,hnp⟩:∃x,x=ps.length:=⟨_,rfl⟩;have HNP:=ag hnp;rw[<-hnp];clear hown hps hb5 hoe hnp sN HR4 X6 ZY abn;have t0:w5.cell? ⟨bt,0,none⟩=some (.slice ao nl ac):=af ZB.out rfl;have t1:w5.cell? ⟨bt,1,none⟩=some (.slice eo ne ec):=af ZB.out rfl;have t2:w5.cell? ⟨bt,2,none⟩=some (.int .i64 st):=af ZB.out rfl;have r0:w5.cell? ⟨br,0,none⟩=some (.slice none 0 0):=af yU.out rfl;have r1:w5.cell? ⟨br,1,none⟩=some (.slice none 0 0):=af yU.out rfl;have r2:w5.cell? ⟨br,2,none⟩=some (.int .i64 0):=af yU.out rfl;have Lb:w5.frozen? ⟨br,0,none⟩=false:=ah yU.out;have Oc:w5.frozen? ⟨br,1,none⟩=false:=ah yU.out;have LV:w5.frozen? ⟨br,2,none⟩=false:=ah yU.out;go_wp2_with fail;have Cf:=ag (show Below w.heap.size w (((w5.setCell ⟨br,0,none⟩ (.slice ao nl ac)).setCell ⟨br,1,none⟩ (.slice eo ne ec)).setCell ⟨br,2,none⟩ (.int .i64 st)) from((pO.out.setCell (p:=⟨br,0,none⟩) (Nat.le_of_eq rV.out.symm) _).setCell (p:=⟨br,1,none⟩) (Nat.le_of_eq rV.out.symm) _).setCell (p:=⟨br,2,none⟩) (Nat.le_of_eq rV.out.symm) _);have hfin:=ai (o:=2) (.int .i64 st) (ai (o:=1) (.slice eo ne ec) (ai (o:=0) (.slice ao nl ac) yU.out));have F6:=ag (show ∀g,g≠br->(((w5.setCell ⟨br,0,none⟩ (.slice ao nl ac)).setCell ⟨br,1,none⟩ (.slice eo ne ec)).setCell ⟨br,2,none⟩ (.int .i64 st)).heap[g]? =w5.heap[g]? from fun g hg=>((dm _ _ _ _ hg).trans (dm _ _ _ _ hg)).trans (dm _ _ _ _ hg));generalize(((w5.setCell ⟨br,0,none⟩ (.slice ao nl ac)).setCell ⟨br,1,none⟩ (.slice eo ne ec)).setCell ⟨br,2,none⟩ (.int .i64 st))=w9 at Cf hfin F6⊢;have k0:w9.cell? ⟨br,0,none⟩=some (.slice ao nl ac):=af hfin rfl;have k1:w9.cell? ⟨br,1,none⟩=some (.slice eo ne ec):=af hfin rfl;have k2:w9.cell? ⟨br,2,none⟩=some (.int .i64 st):=af hfin rfl;clear hfin r0 r1 r2 Lb Oc LV;refine bodyPost_ret (v:=.tuple #[.agg #[.slice ao nl ac,.slice eo ne ec,.int .i64 st],.slice po np pc,.bool true,.bool true]) (by simp[results,Tryz.results21,go_sem,k0,k1,k2]) rfl ?_;have hq:=F6.out;have hw4:br<w4.heap.size:=by have:=Vz.out;have:=Sz.out;omega
   obtain⟨s,hs⟩:=EX.out.2.2;refine⟨Cf.out,.inr ⟨EX.out.1,ao,ac,ls,eo,ec,st,po,pc,ps,s,?_,?_,OE.out,hs,?_,?_⟩⟩
   ·rw[<-abd.out,<-Fh.out,<-Cq.out,<-HNP.out]
   ·exact(afD.out.keep fun g hg hl=>hq g (by have:=XX.out;have:=WV.out;omega)).seen
   ·rw[HPS.out];unfold Yu;rw[<-abd.out] at hs;rw[hs]
   ·have hA:tK w9 (.slice po ps.length pc) ps:=⟨Rd.gu (aP HOW.out.row fun g hg hl=>hq g (by have:=(bO HOW.out.row hg).1;omega)),fun p hp=>by
     obtain⟨j,hj⟩:=List.getElem?_of_mem hp;exact Rd.gu (aP (HOW.out.own j p hj) fun g hg hl=>hq g (by have:=(bO (HOW.out.own j p hj) hg).1;omega))⟩
    exact hA
  ·have hv:II mem (l.map (·.2)) [] (tZ mem l [] sc) sc=⟨[],[],0,tZ mem l [] sc⟩:=by unfold II;rw[if_neg he]
   clear hot;rw[hv] at htr⊢;generalize tZ mem l [] sc=en at he⊢;have hls:ls=[]:=by have:=htr.same;simpa using this
   subst hls;have hao:dH encS w3 2 (.slice ao 0 ac) []:=htr.seen.rows;clear htr hv;simp only[List.length_nil];have Ho:=ag ((au w3.heap.size w3).alloc (aB _) (.cells #[.slice ao 0 ac,.slice eo 0 ec,.int .i64 0] 66));have sN:=ag (fe HB3.out Ho.out);have HR4:=ag (blk Ho.out HR3.out);have r0:(w3.alloc (.cells #[.slice ao 0 ac,.slice eo 0 ec,.int .i64 0] 66)).cell? ⟨br,0,none⟩=some (.slice none 0 0):=af HR4.out rfl;have r1:(w3.alloc (.cells #[.slice ao 0 ac,.slice eo 0 ec,.int .i64 0] 66)).cell? ⟨br,1,none⟩=some (.slice none 0 0):=af HR4.out rfl;have r2:(w3.alloc (.cells #[.slice ao 0 ac,.slice eo 0 ec,.int .i64 0] 66)).cell? ⟨br,2,none⟩=some (.int .i64 0):=af HR4.out rfl;have Lb:(w3.alloc (.cells #[.slice ao 0 ac,.slice eo 0 ec,.int .i64 0] 66)).frozen? ⟨br,0,none⟩=false:=ah HR4.out;have Oc:(w3.alloc (.cells #[.slice ao 0 ac,.slice eo 0 ec,.int .i64 0] 66)).frozen? ⟨br,1,none⟩=false:=ah HR4.out;have LV:(w3.alloc (.cells #[.slice ao 0 ac,.slice eo 0 ec,.int .i64 0] 66)).frozen? ⟨br,2,none⟩=false:=ah HR4.out;go_wp2_with fail;have Cf:=ag (show Below w.heap.size w ((((w3.alloc (.cells #[.slice ao 0 ac,.slice eo 0 ec,.int .i64 0] 66)).setCell ⟨br,0,none⟩ (.slice none 0 0)).setCell ⟨br,1,none⟩ (.slice none 0 0)).setCell ⟨br,2,none⟩ (.int .i64 0)) from((sN.out.setCell (p:=⟨br,0,none⟩) (Nat.le_of_eq rV.out.symm) _).setCell (p:=⟨br,1,none⟩) (Nat.le_of_eq rV.out.symm) _).setCell (p:=⟨br,2,none⟩) (Nat.le_of_eq rV.out.symm) _);have hfin:=ai (o:=2) (.int .i64 0) (ai (o:=1) (.slice none 0 0) (ai (o:=0) (.slice none 0 0) HR4.out));have F6:=ag (show ∀g,g≠br->((((w3.alloc (.cells #[.slice ao 0 ac,.slice eo 0 ec,.int .i64 0] 66)).setCell ⟨br,0,none⟩ (.slice none 0 0)).setCell ⟨br,1,none⟩ (.slice none 0 0)).setCell ⟨br,2,none⟩ (.int .i64 0)).heap[g]? =(w3.alloc (.cells #[.slice ao 0 ac,.slice eo 0 ec,.int .i64 0] 66)).heap[g]? from fun g hg=>((dm _ _ _ _ hg).trans (dm _ _ _ _ hg)).trans (dm _ _ _ _ hg));generalize((((w3.alloc (.cells #[.slice ao 0 ac,.slice eo 0 ec,.int .i64 0] 66)).setCell ⟨br,0,none⟩ (.slice none 0 0)).setCell ⟨br,1,none⟩ (.slice none 0 0)).setCell ⟨br,2,none⟩ (.int .i64 0))=w9 at Cf hfin F6⊢;have k0:w9.cell? ⟨br,0,none⟩=some (.slice none 0 0):=af hfin rfl;have k1:w9.cell? ⟨br,1,none⟩=some (.slice none 0 0):=af hfin rfl;have k2:w9.cell? ⟨br,2,none⟩=some (.int .i64 0):=af hfin rfl;clear hfin r0 r1 r2 Lb Oc LV;refine bodyPost_ret (v:=.tuple #[.agg #[.slice none 0 0,.slice none 0 0,.int .i64 0],.slice none 0 0,.bool false,.bool true]) (by simp[results,Tryz.results21,go_sem,k0,k1,k2]) rfl ?_;exact⟨Cf.out,.inl rfl⟩
end
section
variable {w w':World}
theorem rY.next {row:List Tx} {l:List Ev} {y z:Int} {j:Nat} {e:Ev} (h:rY (row.drop j) (l.drop j) y z) (he:l[j]? =some e):
  ∃o,row[j]? =some o/\e.a=o.at_/\((o.kind=2/\e.k=2/\rY (row.drop (j+1)) (l.drop (j+1)) (fV (y+e.b)) z)\/(o.kind≠2/\e.k=3/\e.b=fV (y+o.v)/\rY (row.drop (j+1)) (l.drop (j+1)) y z)):=by
 have hl:l.drop j=e::l.drop (j+1):=by
  obtain⟨h1,h2⟩:=bu.1 he;rw[<-h2];exact List.drop_eq_getElem_cons h1
 rw[hl] at h;obtain⟨o,r,hr⟩:∃o r,row.drop j=o::r:=by
  cases hq:row.drop j with
  |nil=>rw[hq] at h;cases h
  |cons o r=>exact⟨o,r,rfl⟩
 have h1:row[j]? =some o:=by
  have:=congrArg (fun x=>x[0]?) hr;simpa using this
 have h2:row.drop (j+1)=r:=by
  have:=congrArg (List.drop 1) hr;simpa [List.drop_drop] using this
 rw[hr] at h;rw[h2];cases h with
 |rd q1 q2 q3 q4=>exact⟨o,h1,q2,.inl ⟨q1,q3,q4⟩⟩
 |wr q1 q2 q3 q4 q5=>exact⟨o,h1,q2,.inr ⟨q1,q3,q4,q5⟩⟩
theorem rY.end_ {row:List Tx} {l:List Ev} {y z:Int} (h:rY (row.drop l.length) (l.drop l.length) y z):y=z:=by
 rw[List.drop_length] at h;generalize row.drop l.length=r at h;cases h;rfl
theorem aaD {ra da:Option Addr} {rc dc:Nat} {row:List Tx} {x:bJ} {z:Int} (hrow:dH sW w 4 (.slice ra row.length rc) row) (hd:dH iB w 4 (.slice da x.done.length dc) x.done) (hf:rY row x.done 0 z) (hl:x.done.length<=2097152) (hrl:row.length<=9000000000000):
  Calls Tryz.prog 24 #[.slice ra row.length rc,.agg #[.int .i64 x.th,.int .u8 x.kind,.int .i64 x.dN,.int .i64 x.fin,.int .i64 x.clock,.int .i64 x.place,.bool x.writer,.slice da x.done.length dc]] w fun e w'=>e= .returned (.tuple #[.int .i64 z,.bool (decide (x.done.length=row.length)),.bool true])/\Below w.heap.size w w':=by
 have hb0:Below w.heap.size w (w.alloc (.cells #[.int .i64 x.th,.int .u8 x.kind,.int .i64 x.dN,.int .i64 x.fin,.int .i64 x.clock,.int .i64 x.place,.bool x.writer,.slice da x.done.length dc] 76)):=(au _ _).alloc (aB _) _;have HX:=ag (aj w (.cells #[.int .i64 x.th,.int .u8 x.kind,.int .i64 x.dN,.int .i64 x.fin,.int .i64 x.clock,.int .i64 x.place,.bool x.writer,.slice da x.done.length dc] 76));have HB0:=ag hb0;have HR:=ag (Rd.below hrow hb0);have HD:=ag (Rd.below hd hb0);have HF:=ag hf;have HL:=ag hl;have Tp:=ag hrl;have WS:=ag hf.len;clear hrow hd hf hb0;have hle:=WS.out;obtain⟨bq,hbq⟩:∃bq,decide (x.done.length=row.length)=bq:=⟨_,rfl⟩;have QB:=ag (show((x.done.length:Int)==(row.length:Int))=bq by rw[<-hbq];by_cases h:x.done.length=row.length<;>simp[h];omega);rw[hbq];clear hbq;go_in;go_upto_region 1 with fail
 generalize w.alloc (.cells #[.int .i64 x.th,.int .u8 x.kind,.int .i64 x.dN,.int .i64 x.fin,.int .i64 x.clock,.int .i64 x.place,.bool x.writer,.slice da x.done.length dc] 76)=w0 at HX HB0 HR HD⊢;have d7:w0.cell? ⟨w.heap.size,7,none⟩=some (.slice da x.done.length dc):=af HX.out rfl;have q0:¬((x.done.length:Int)>row.length):=by omega
 go_wp2_with fail;clear d7;go_loopw [7,8] (fun s i wr=>∃(j:Nat) (y:Int),j<=x.done.length/\i= .int .i64 (j:Int)/\s= .int .i64 y/\Hid (rY (row.drop j) (x.done.drop j) y z)/\Hid (Below w0.heap.size w0 wr)) (fun _ i _=>x.done.length - (intOf i).toNat)
 case atStart=>exact⟨0,0,Nat.zero_le _,rfl,rfl,ag (by simpa using HF.out),ag (au _ _)⟩
 case round=>
  obtain⟨j,y,hj,rfl,rfl,HQ,HB⟩:=hrel;have hdl:=HL.out;have d7:wr.cell? ⟨w.heap.size,7,none⟩=some (.slice da x.done.length dc):=af (blk HB.out HX.out) rfl;by_cases hlt:j<x.done.length
  ·obtain⟨e,he⟩:=bE hlt;obtain⟨o,ho,F4,hcase⟩:=HQ.out.next he;obtain⟨g,off,rfl,hg,hc⟩:=dH.at lS (Rd.below HD.out HB.out) he;obtain⟨g2,NN,rfl,hg2,hc2⟩:=dH.at uO (Rd.below HR.out HB.out) ho;have e0:=hc 0 _ rfl;have e1:=hc 1 _ rfl;have e2:=hc 2 _ rfl;have e3:=hc 3 _ rfl;simp only[Nat.add_zero] at e0;have hjr:=(bu.1 ho).1;have aiS:(j:Int)<row.length:=by omega
   have hw1:IntKind.i64.wrap ((j:Int)+1)=j+1:=IntWalk.i64_in _ (by omega);rw[F4] at e2;obtain⟨w1,ab0⟩:∃w1,w1=wr.alloc (.cells #[.int .i64 e.th,.int .u8 e.k,.int .i64 o.at_,.int .i64 e.b] 127):=⟨_,rfl⟩;have hbw:Below wr.heap.size wr w1:=by rw[ab0];exact(au _ _).alloc (aB _) _
   have hbl:w1.heap[wr.heap.size]? =some (.cells #[.int .i64 e.th,.int .u8 e.k,.int .i64 o.at_,.int .i64 e.b] 127 (0,0)):=by rw[ab0];exact aj _ _
   have t1:∀n,(w1.drewN n).cell? ⟨g2,NN+j*4+1,none⟩=some (.int .u8 o.kind):=fun n=>(hbw.cell hg2).trans (hc2 1 _ rfl)
   have t2:w1.cell? ⟨g2,NN+j*4+2,none⟩=some (.int .i64 o.at_):=(hbw.cell hg2).trans (hc2 2 _ rfl);have t3:∀n,(w1.drewN n).cell? ⟨g2,NN+j*4+3,none⟩=some (.int .i64 o.v):=fun n=>(hbw.cell hg2).trans (hc2 3 _ rfl)
   have b1:∀n,(w1.drewN n).cell? ⟨wr.heap.size,1,none⟩=some (.int .u8 e.k):=fun n=>af hbl rfl
   have b2:w1.cell? ⟨wr.heap.size,2,none⟩=some (.int .i64 o.at_):=af hbl rfl;have b3:∀n,(w1.drewN n).cell? ⟨wr.heap.size,3,none⟩=some (.int .i64 e.b):=fun n=>af hbl rfl
   have HW1:=ag ab0;have HB1:=ag (HB.out.trans (hbw.mono HB.out.size));have HC:=ag hcase;have RV:=ag hlt;clear hc hc2 hg hg2 he ho hcase d7 F4 hbw hbl ab0;have d7:wr.cell? ⟨w.heap.size,7,none⟩=some (.slice (some ⟨g,off,none⟩) x.done.length dc):=af (blk HB.out HX.out) rfl;go_upto_region 8 with fail
   rw[<-HW1.out];clear HW1 d7 e0 e1 e2 e3;go_quiet (fail)
   rcases HC.out with⟨hk,Nj,hn⟩|⟨hk,Nj,heb,hn⟩
   ·rw[hk] at t1;rw[Nj] at b1;obtain⟨y1,hy1⟩:∃y1,fV (y+e.b)=y1:=⟨_,rfl⟩;have eY:IntKind.i64.wrap (y+e.b)=y1:=by rw[zh];exact hy1
    rw[hy1] at hn;have HN:=ag hn;clear hk Nj hn hy1 HC;go_wp2_with fail;exact⟨⟨j+1,y1,by omega,by go_num,rfl,HN,ag (below_drewN HB1.out _)⟩,by simp[intOf];omega⟩
   ·have q2:(o.kind==2)=false:=by simpa using hk
    rw[Nj] at b1;have eV:IntKind.i64.wrap (o.v+y)=e.b:=by rw[zh,Int.add_comm];exact heb.symm
    have HN:=ag hn;clear hk Nj hn heb HC;go_wp2_with fail;go_quiet (fail)
    go_wp2_with fail;exact⟨⟨j+1,y,by omega,by go_num,rfl,HN,ag (below_drewN HB1.out _)⟩,by simp[intOf];omega⟩
  ·obtain rfl:j=x.done.length:=by omega
   obtain rfl:=HQ.out.end_;clear hlt;have qb:=QB.out;go_wp2_with fail;go_quiet (fail)
   go_wp2_with fail;refine bodyPost_ret (v:=.tuple #[.int .i64 y,.bool bq,.bool true]) (by simp[results,Tryz.results24,go_sem]) rfl ?_;exact⟨rfl,below_drewN (HB0.out.trans (HB.out.mono HB0.out.size)) _⟩
end
theorem aa5 (p:Pt):(p= .look\/p= .halt)\/p.nY=true\/(p= .wb\/p= .rel\/p= .out)\/p= .over:=by cases p<;>simp[Pt.nY]
def aaJ (l:List bJ) (n len:Nat) (out:List Int) (fin:Int):Prop:=(out=iY l n\/∃z,iY l n=out++[z])/\(fin=0\/fin=1\/fin=6)/\(fin=1->out.length=len)
theorem wF.told {rs:List (List Tx)} {l:List bJ} {n:Nat} {a:aY} {opn:Option Nat} (h:wF rs l n a opn) (hf:a.fin=0↔a.pt≠ .over):aaJ l n rs.length a.out a.fin:=by
 rcases aa5 a.pt with hp|hp|hp|hp
 ·have f0:a.fin=0:=hf.2 (by rcases hp with e|e<;>rw[e]<;>simp);exact⟨.inl (h.idle hp).2,.inl f0,fun q=>by omega⟩
 ·have f0:a.fin=0:=hf.2 (fun e=>by rw[e] at hp;cases hp);exact⟨.inl (h.open_ hp).2.1,.inl f0,fun q=>by omega⟩
 ·have f0:a.fin=0:=hf.2 (by rcases hp with e|e|e<;>rw[e]<;>simp);exact⟨.inr ⟨_,(h.done hp).2.1⟩,.inl f0,fun q=>by omega⟩
 ·obtain⟨h1,h2⟩:=h.over hp;refine⟨.inl h2,?_,fun q=>?_⟩
  ·rcases h1 with⟨h1, -⟩|h1
   ·exact .inr (.inl h1)
   ·exact .inr (.inr h1)
  ·rcases h1 with⟨-,h1⟩|h1
   ·rw[h2,aav,h1]
   ·omega
theorem BB.told {words:Int} {ts:xJ} {sc:List dB} {s:HS} (h:BB words ts sc) (hr:jK (vF words ts sc).1.evs 0 HS.init= .inl s):
  (vF words ts sc).1.aT.length=ts.length/\Em ts.length (fun n=>(ts.map rowsOf).getD n []) s.aU/\∀(n:Nat) t,(vF words ts sc).1.aT[n]? =some t->aaJ s.aU n ((ts.map rowsOf).getD n []).length t.out t.fin:=by
 obtain⟨⟨m,ks,s',cw,h1,h2,h3,h4,h5⟩, -⟩:=h.stands;have e:s'=s:=by
  have:=h4.eF;rw[<-h1.evs,hr] at this;cases this;rfl
 subst e;have hN:(He words (ts.map rowsOf)).N=ts.length:=by simp[He]
 refine⟨by rw[h1.n,hN],by rw[<-hN];exact h4.rows,fun n t ht=>?_⟩;have hn:n<(He words (ts.map rowsOf)).N:=by rw[<-h1.n];exact(bu.1 ht).1
 have hT:=h1.th n t ht;have:=(h4.th n hn).told (h2.th n hn).fin;rw[hT.out,hT.fin];exact this
section
variable {w w':World}
theorem Nc {b:Nat} {t:TypeId} {y z:Int} (hb:w.heap[b]? =some (.cells #[.int .i64 y,.int .i64 z] t (0,0))) (hy:0<=y/\y<=9223372036854775807) (hz:0<=z/\z<=9223372036854775807):
  Calls Tryz.prog 8 #[.slice (some ⟨b,0,none⟩) 2 2] w fun e w'=>∃r,e= .returned (.bool r)/\(r=false->y<=262144/\z<=262144)/\Below w.heap.size w w':=by
 have x0:w.cell? ⟨b,0,none⟩=some (.int .i64 y):=af hb rfl;have x1:w.cell? ⟨b,1,none⟩=some (.int .i64 z):=af hb rfl;obtain⟨hy0,hy1⟩:=hy;obtain⟨hz0,hz1⟩:=hz;clear hb;by_cases h1:y>262144
 ·have hn0:¬y<0:=by omega
  go_in;go_wp2_with fail;go_loopw [4,3] (fun i acc wr=>wr=w/\i= .int .i64 0/\acc= .int .i64 0) (fun i _ _=>(2 - intOf i).toNat)
  case atStart=>exact⟨rfl,rfl,rfl⟩
  case round=>
   obtain⟨rfl,rfl,rfl⟩:=hrel;go_wp2;go_ret;exact⟨true,rfl,by simp,au _ _⟩
 ·have hn0:¬y<0:=by omega
  by_cases h2:z>262144
  ·have hn1:¬z<0:=by omega
   go_in;go_wp2_with fail;go_loopw [4,3] (fun i acc wr=>wr=w/\(i= .int .i64 0/\acc= .int .i64 0\/i= .int .i64 1/\acc= .int .i64 y)) (fun i _ _=>(2 - intOf i).toNat)
   case atStart=>exact⟨rfl,.inl ⟨rfl,rfl⟩⟩
   case round=>
    obtain⟨rfl,⟨rfl,rfl⟩|⟨rfl,rfl⟩⟩:=hrel
    ·go_wp2;exact⟨⟨trivial,.inr ⟨rfl,rfl⟩⟩,by simp[intOf]⟩
    ·go_wp2;go_ret;exact⟨true,rfl,by simp,au _ _⟩
  ·have hn1:¬z<0:=by omega
   by_cases h3:y+z>262144
   ·go_in;go_wp2_with fail;go_loopw [4,3] (fun i acc wr=>wr=w/\(i= .int .i64 0/\acc= .int .i64 0\/i= .int .i64 1/\acc= .int .i64 y)) (fun i _ _=>(2 - intOf i).toNat)
    case atStart=>exact⟨rfl,.inl ⟨rfl,rfl⟩⟩
    case round=>
     obtain⟨rfl,⟨rfl,rfl⟩|⟨rfl,rfl⟩⟩:=hrel
     ·go_wp2;exact⟨⟨trivial,.inr ⟨rfl,rfl⟩⟩,by simp[intOf]⟩
     ·go_wp2;go_ret;exact⟨true,rfl,by simp,au _ _⟩
   ·go_in;go_wp2_with fail;go_loopw [4,3] (fun i acc wr=>wr=w/\(i= .int .i64 0/\acc= .int .i64 0\/i= .int .i64 1/\acc= .int .i64 y\/i= .int .i64 2/\acc= .int .i64 (y+z))) (fun i _ _=>(2 - intOf i).toNat)
    case atStart=>exact⟨rfl,.inl ⟨rfl,rfl⟩⟩
    case round=>
     obtain⟨rfl,⟨rfl,rfl⟩|⟨rfl,rfl⟩|⟨rfl,rfl⟩⟩:=hrel
     ·go_wp2;exact⟨⟨trivial,.inr (.inl ⟨rfl,rfl⟩)⟩,by simp[intOf]⟩
     ·go_wp2;exact⟨⟨trivial,.inr (.inr ⟨rfl,rfl⟩)⟩,by simp[intOf]⟩
     ·go_wp2;go_ret;exact⟨false,rfl,fun _=>⟨by omega,by omega⟩,au _ _⟩
theorem aa9 (zs:List Int):∀{s:Int×Bool},(∀n∈zs,0<=n)->qX s.1->qX (fin zs s).1:=by
 induction zs with
 |nil=>intro s _ h;exact h
 |cons n l ih=>
  intro s hz hs;exact ih (fun x hx=>hz x (List.mem_cons_of_mem _ hx)) (jA (by decide) (jA (by decide) (jA (by decide) (jA (hz n List.mem_cons_self) hs))))
theorem iF.size {words size:Int} {ps:List g_} (h:iF words size ps):1<=size/\size<=262144:=by
 have hw:=qg h.2.1;have e:mkS words (dZ ps)=(fin (dZ ps) (s0 words)).1:=if_pos h.2.1;rw[h.2.2.1] at e;rw[e];exact aa9 _ (fun n hn=>by
  obtain⟨p,hp,rfl⟩:=List.mem_map.1 hn;have:=h.1 p hp;omega) (jA (by decide) (jA hw.1 ⟨by decide,by decide⟩))
def GoodS (words size:Int) (ps:List g_) (thread:Int) (rs:List (Value×List Tx)):Prop:=(iF words size ps/\0<=thread/\thread<ps.length)/\jJ words rs=true
def acp (words size:Int) (ps:List g_) (thread:Int) (rs:List (Value×List Tx)) (lo:Option Addr) (ln lc:Nat) (en:Int) (w':World):Prop:=
 (en=1/\ln=0/\¬GoodS words size ps thread rs)\/
 (en=3/\ln=0/\GoodS words size ps thread rs/\¬((∀p∈rs,p.2.length<=8)/\rs.length<=16))\/
 (en=0/\GoodS words size ps thread rs/\∃l,l.length=ln/\dH b_ w' 6 (.slice lo ln lc) l/\bF l/\l.length<=262144)
theorem acp.of {words size:Int} {ps:List g_} {thread:Int} {rs:List (Value×List Tx)} {e:Ending} (h:zR words size ps thread rs w e w') (hwf:∀p∈rs,∀o∈p.2,Ab o):
  ∃lo ln lc en,e= .returned (.tuple #[.slice lo ln lc,.int .i64 en])/\acp words size ps thread rs lo ln lc en w'/\Below w.heap.size w w':=by
 obtain⟨hb,hr⟩:=h;rcases hr with⟨rfl,hn⟩|⟨k,p,rfl,hx,hpl,hok,⟨rfl,j,hj,hov⟩|⟨g,rfl,hblk,hg,hov,hlen⟩⟩
 ·exact⟨none,0,0,1,rfl,.inl ⟨rfl,rfl,fun q=>hn ⟨q.1.1,q.1.2.1,q.1.2.2,q.2⟩⟩,hb⟩
 ·have hk:=(bu.1 hx).1;refine⟨none,0,0,3,rfl,.inr (.inl ⟨rfl,rfl,⟨⟨hpl,by omega,by omega⟩,hok⟩,fun hf=>?_⟩),hb⟩;have h1:=Jn (rs:=rs.map Prod.snd) (fun l hl=>by
   obtain⟨q,hq,rfl⟩:=List.mem_map.1 hl;exact hf.1 q hq)
  rw[List.length_map] at h1;have h2:=vY (t:=oK words size p k) (rs:=rs.map Prod.snd) (by unfold iO;have:=hf.2;omega) j;rw[<-List.map_take] at h2;rcases hov with hov|hov
  ·rw[h2.1] at hov;cases hov
  ·rw[h2.2] at hov;cases hov
 ·have hk:=(bu.1 hx).1;have hroom:=FK hov;obtain⟨-,hd,hl⟩:=Aw (t:=oK words size p k) hroom;rw[hd] at hblk;rw[hl] at hlen⊢;rw[<-Gt (oK words size p k)] at hlen⊢;exact⟨_,_,_,0,rfl,.inr (.inr ⟨rfl,⟨⟨hpl,by omega,by omega⟩,hok⟩,_,rfl,kT dX hblk,IX (hpl.ok hx) hroom (fun l hl=>by
   obtain⟨q,hq,rfl⟩:=List.mem_map.1 hl;exact hwf q hq),hlen⟩),hb⟩
end
section
variable {w w' w1 w2:World}
theorem aaF {α:Type} {enc:α->List Value} {sz n c:Nat} {ao:Option Addr} {l p:List α} (he:∀a,(enc a).length=sz) (h:Rd w sz (.slice ao n c) n (l.flatMap enc)) (hp:p<+:l) (hn:n=l.length):Rd w sz (.slice ao p.length c) p.length (p.flatMap enc):=by
 obtain⟨r,rfl⟩:=hp;obtain⟨h1,MX,c',e,h2,h3⟩:=h;simp only[Value.slice.injEq,true_and] at e;obtain⟨rfl,rfl⟩:=e;rw[List.length_append] at hn;refine⟨jD he p,ao,c,rfl,by omega,fun hpos=>?_⟩;obtain⟨b,off,rfl,hb,hc⟩:=h3 (by omega);refine⟨b,off,rfl,hb,fun j u hj=>hc j u ?_⟩;rw[List.flatMap_append,List.getElem?_append_left (bu.1 hj).1];exact hj
theorem wV {l:List bJ} {i:Nat} {x:bJ} (h:l[i]? =some x) (n:Nat):vI (l.take (i+1)) n=vI (l.take i) n+(if Gl n x=true then 1 else 0)/\iY (l.take (i+1)) n=iY (l.take i) n++(if Gl n x=true then [Xq x.done] else []):=by
 unfold vI iY;rw[bU h,List.filter_append];by_cases hc:Gl n x=true
 ·simp[hc]
 ·simp[hc]
def nU (N:Nat) (l:List bJ):List Value:=(List.range N).map fun n=>.int .i64 (vI l n:Int)
theorem aa0 {N n:Nat} {l:List bJ} (h:n<N):(nU N l)[n]? =some (.int .i64 (vI l n:Int)):=by simp[nU,h]
theorem abX (N:Nat):(nU N []).toArray=Array.replicate N (.int .i64 0):=by
 have e:nU N []=List.replicate N (.int .i64 0):=by
  refine List.ext_getElem (by simp[nU]) fun i h1 h2=>?_
  simp[nU,vI]
 rw[e];simp
theorem abH {N:Nat} {l l':List bJ} (h:∀n,vI l' n=vI l n):nU N l'=nU N l:=by unfold nU;simp[h]
theorem abZ {N n:Nat} {l l':List bJ} (h:∀m,m≠n->vI l' m=vI l m):(nU N l).set n (.int .i64 (vI l' n:Int))=nU N l':=by
 refine List.ext_getElem (by simp[nU]) fun i h1 h2=>?_
 have hi:i<N:=by simpa [nU] using h2
 rw[List.getElem_set];split
 ·rename_i e;subst e;simp[nU]
 ·rename_i e;simp[nU,h i (fun q=>e q.symm)]
structure wU (w:World) (b base N:Nat) (l:List bJ) (vs:List Value):Prop where
 len:vs.length=N
 blk:w.heap[b]? =some (.cells vs.toArray 51 (0,0))
 own:∀(n:Nat) v,vs[n]? =some v->w.ownsRow base 2 1 v (iY l n).length ((iY l n).flatMap encI)
 apart:∀(n m:Nat) v u g,n≠m->vs[n]? =some v->vs[m]? =some u->v.ownBlock=some g->u.ownBlock≠some g
theorem wU.keep {b base N:Nat} {l:List bJ} {vs:List Value} (h:wU w b base N l vs) (hb:w'.heap[b]? =w.heap[b]?) (hk:∀g,base<=g->g<w.heap.size->w'.heap[g]? =w.heap[g]?):wU w' b base N l vs:=
 ⟨h.len,hb.trans h.blk,fun n v hv=>aP (h.own n v hv) fun g hg hl=>hk g (bO (h.own n v hv) hg).1 hl,h.apart⟩
theorem wU.below {b base N:Nat} {l:List bJ} {vs:List Value} (h:wU w b base N l vs) (hb:Below w.heap.size w w'):wU w' b base N l vs:=h.keep (hb.block b (lt_of_block h.blk)) fun g _ hl=>hb.block g hl
theorem wU.same {b base N:Nat} {l l':List bJ} {vs:List Value} (h:wU w b base N l vs) (e:∀n,iY l' n=iY l n):wU w b base N l' vs:=⟨h.len,h.blk,fun n v hv=>by rw[e n];exact h.own n v hv,h.apart⟩
theorem wU.push {b base N n cp:Nat} {l l':List bJ} {vs:List Value} {v:Value} {ao:Option Addr} {z:Int} (h:wU w b base N l vs) (hbb:b<base) (hv:vs[n]? =some v) (hc:bz (fun q=>v.ownBlock=some q) w w1)
  (hown:w1.ownsRow base 2 1 (.slice ao ((iY l n).length+1) cp) ((iY l n).length+1) ((iY l n).flatMap encI++encI z)) (jh:∀g,(Value.slice ao ((iY l n).length+1) cp).ownBlock=some g->v.ownBlock=some g\/w.heap.size<=g)
  (e1:iY l' n=iY l n++[z]) (e2:∀m,m≠n->iY l' m=iY l m):
  wU (w1.setCell ⟨b,n,none⟩ (.slice ao ((iY l n).length+1) cp)) b base N l' (vs.set n (.slice ao ((iY l n).length+1) cp)):=by
 have hn:n<vs.length:=(bu.1 hv).1;have hb1:w1.heap[b]? =some (.cells vs.toArray 51 (0,0)):=dG hc h.blk (fun e=>by have:=(bO (h.own n v hv) e).1;omega);have hne:∀g,base<=g->(w1.setCell ⟨b,n,none⟩ (.slice ao ((iY l n).length+1) cp)).heap[g]? =w1.heap[g]?:=fun g hg=>dm _ _ _ _ (by simp only;omega)
 refine⟨by simp[h.len],by rw[ai (o:=n) (.slice ao ((iY l n).length+1) cp) hb1];congr 2;simp,fun m u hu=>?_,fun m k u x g hmk hu hx hg=>?_⟩
 ·rw[List.getElem?_set] at hu;split at hu
  ·rename_i e;subst e;cases hu;rw[e1,List.length_append,List.flatMap_append];have:=aP hown fun g hg hl=>hne g (bO hown hg).1
   simpa using this
  ·rename_i e;rw[e2 m (fun q=>e q.symm)];refine aP (h.own m u hu) fun g hg hl=>?_
   rw[hne g (bO (h.own m u hu) hg).1];exact hc.block g hl (fun q=>h.apart n m v u g e hv hu q hg)
 ·rw[List.getElem?_set] at hu hx;split at hu
  ·rename_i e;subst e;cases hu;rw[if_neg hmk] at hx;rcases jh g hg with q|q
   ·exact h.apart n k v x g hmk hv hx q
   ·intro q2;have:=(bO (h.own k x hx) q2).2;omega
  ·rename_i e;split at hx
   ·rename_i e';subst e';cases hx;intro q2;rcases jh g q2 with q|q
    ·exact h.apart n m v u g e hv hu q hg
    ·have:=(bO (h.own m u hu) hg).2;omega
   ·exact h.apart m k u x g hmk hu hx hg
end
end Go.Proofs.YtopdcjimpdalpaaGreat

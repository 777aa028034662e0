import Derived.Test.YtopdcjimpdalpaaGreatQ21
namespace Go.Proofs.YtopdcjimpdalpaaGreat
open Go.RowKit
set_option linter.all false
set_option maxHeartbeats 8000000
set_option maxRecDepth 100000
def RP (n:Int) (s:Int×Bool):List Value:=
 [.int .i64 s.1,.int .i64 (tk n s).1,.int .i64 (tk 128 (tk n s)).1,.int .i64 (tk 64 (tk 128 (tk n s))).1,.int .i64 (tk 4096 (tk 64 (tk 128 (tk n s)))).1]
def FI (n:Int) (s:Int×Bool):Int×Bool:=tk 4096 (tk 64 (tk 128 (tk n s)))
def rows:List Int->Int×Bool->List Value
 |[],_=>[]
 |n::l,s=>RP n s++rows l (FI n s)
def fin:List Int->Int×Bool->Int×Bool
 |[],s=>s
 |n::l,s=>fin l (FI n s)
theorem PR (l:List Int) (n:Int):∀s,rows (l++[n]) s=rows l s++RP n (fin l s):=by
 induction l with
 |nil=>intro s;simp[rows,fin]
 |cons a l ih=>intro s;simp[rows,fin,ih]
theorem JY (l:List Int) (n:Int):∀s,fin (l++[n]) s=FI n (fin l s):=by
 induction l with
 |nil=>intro s;simp[fin]
 |cons a l ih=>intro s;simp[fin,ih]
def s0 (words:Int):Int×Bool:=tk 17 (tk words (1,false))
theorem iU {n:Int} {s:Int×Bool} (hn:0<=n) (h:1<=s.1/\s.1<=262144):1<=(tk n s).1/\(tk n s).1<=262144:=by
 unfold tk;split<;>simp<;>omega
structure D5 (w wr:World) (words:Int) (s:Int×Bool) (v:Value) (k:Nat) (xs:List Value):Prop where
 r:wr.heap[w.heap.size]? =some (.cells #[.int .i64 0,.slice none 0 0,.int .i64 0] 46 (0,0))
 a:wr.heap[w.heap.size+1]? =some (.cells #[.int .i64 s.1] 3 (0,0))
 o:wr.heap[w.heap.size+1+1]? =some (.cells #[.bool s.2] 4 (0,0))
 p:wr.heap[w.heap.size+1+1+1]? =some (.cells #[.int .i64 words,v,.int .i64 0] 46 (0,0))
 own:wr.ownsRow (w.heap.size+1+1+1+1) 87 5 v k xs
 size:w.heap.size+1+1+1+1<=wr.heap.size
 Ro:Below w.heap.size w wr
theorem wQ {w wr:World} {words:Int} {s:Int×Bool} {v:Value} {k:Nat} {xs:List Value} (h:D5 w wr words s v k xs) (n:Int) (hn:0<=n) (hs:1<=s.1/\s.1<=262144):
  Calls Tryz.prog 40 #[.int .i64 n,.pointer (some ⟨w.heap.size+1,0,none⟩),.pointer (some ⟨w.heap.size+1+1,0,none⟩)] wr fun e w'=>e= .returned (.int .i64 s.1)/\D5 w w' words (tk n s) v k xs:=by
 refine(TG n _ _ s.1 s.2 wr hn hs.1 hs.2 h.a h.o (by omega)).mono ?_;rintro e w' ⟨rfl,ha,ho,hsz,hch⟩;have hS:∀b,b<wr.heap.size->b≠w.heap.size+1->b≠w.heap.size+1+1->w'.heap[b]? =wr.heap[b]?:=fun b hb h1 h2=>hch.block b hb (by rintro(h|h)<;>omega)
 have hz:=h.size;refine⟨rfl,⟨?_,ha,ho,?_,?_,by omega,bH.below h.Ro (by omega) hch (by rintro k (h|h)<;>omega)⟩⟩
 ·rw[hS _ (by omega) (by omega) (by omega)];exact h.r
 ·rw[hS _ (by omega) (by omega) (by omega)];exact h.p
 ·exact bD h.own hch (fun g hg=>by have:=h.own.lt g hg;rintro(h|h)<;>omega)
def G7 (zs:List Int):Prop:=(∀j,j<zs.length->0<=nth zs j)/\zs.length<=4
instance (zs:List Int):Decidable (G7 zs):=by unfold G7;infer_instance
def fK (words:Int) (zs:List Int):Int:=
 if words<0 then 1 else if ∃j,j<zs.length/\nth zs j<0 then 1 else if 4<zs.length then 3 else if(fin zs (s0 words)).2=true then 3 else 0
theorem EA {words:Int} {zs:List Int} (h:0<=words) (h1:∀j,j<zs.length->0<=nth zs j) (h2:zs.length<=4):fK words zs=if(fin zs (s0 words)).2=true then 3 else 0:=by
 rw[fK,if_neg (by omega),if_neg (by rintro⟨j,hj,hj'⟩;have:=h1 j hj;omega),if_neg (by omega)]
theorem D5.start (w:World) (words:Int):D5 w ((((w.alloc (Obj.cells #[Value.int IntKind.i64 0,Value.slice none 0 0,Value.int IntKind.i64 0] 46)).alloc
      (Obj.cells #[Value.int IntKind.i64 1] 3)).alloc (Obj.cells #[Value.bool false] 4)).alloc
  (Obj.cells #[Value.int IntKind.i64 words,Value.slice none 0 0,Value.int IntKind.i64 0] 46)) words (1,false) (.slice none 0 0) 0 []:=by
 refine⟨?_,?_,?_,?_,World.ownsRow_nil _ _ _ _,by simp,?_⟩
 ·show((((w.heap.push _).push _).push _).push _)[_]? =_;simp only[Array.getElem?_push,Array.size_push];rw[if_neg (by omega),if_neg (by omega),if_neg (by omega),if_pos trivial]
 ·show((((w.heap.push _).push _).push _).push _)[_]? =_;simp only[Array.getElem?_push,Array.size_push];rw[if_neg (by omega),if_neg (by omega),if_pos trivial]
 ·show((((w.heap.push _).push _).push _).push _)[_]? =_;simp only[Array.getElem?_push,Array.size_push];rw[if_neg (by omega),if_pos trivial]
 ·show((((w.heap.push _).push _).push _).push _)[_]? =_;simp only[Array.getElem?_push,Array.size_push];rw[if_pos trivial]
 ·exact((((aQ _ _).alloc (aR _) _).alloc (by simp) _).alloc (by simp;omega) _).alloc (by simp;omega) _
theorem YB {words:Int} {zs:List Int} (h:∀n∈zs,0<=n) (hw:0<=words) (k:Nat):1<=(fin (zs.take k) (s0 words)).1/\(fin (zs.take k) (s0 words)).1<=262144:=by
 have key:∀(l:List Int) s,(∀n∈l,0<=n)->1<=s.1/\s.1<=262144->1<=(fin l s).1/\(fin l s).1<=262144:=by
  intro l;induction l with
  |nil=>intro s _ h;exact h
  |cons a l ih=>
   intro s hl hs;exact ih _ (fun n hn=>hl n (by simp[hn])) (iU (by omega) (iU (by omega) (iU (by omega) (iU (hl a (by simp)) hs))))
 exact key _ _ (fun n hn=>h n (List.mem_of_mem_take hn)) (iU (by omega) (iU hw (by simp)))
theorem D5.next {w wr w':World} {words:Int} {zs:List Int} {k:Nat} {s:Int×Bool} {v v':Value} {o o':Obj} (h:D5 w wr words (FI (nth zs k) s) v k (rows (zs.take k) (s0 words)))
  (hs:fin (zs.take k) (s0 words)=s) (ht:zs.take (k+1)=zs.take k++[nth zs k]) (ho:w'.ownsRow (w.heap.size+1+1+1+1) 87 5 v' (k+1) (rows (zs.take k) (s0 words)++RP (nth zs k) s))
  (hg:World.grownBy ((wr.alloc o).alloc o') w' v.ownBlock):
  w'.heap[w.heap.size+1+1+1]? =some (.cells #[.int .i64 words,v,.int .i64 0] 46 (0,0))/\
  D5 w (w'.setCell ⟨w.heap.size+1+1+1,1,none⟩ v') words (fin (zs.take (k+1)) (s0 words)) v' (k+1) (rows (zs.take (k+1)) (s0 words)):=by
 have hz:=h.size;have hk:∀b,b<w.heap.size+1+1+1+1->w'.heap[b]? =wr.heap[b]?:=fun b hb=>by
  rw[hg.block b (by simp;omega) (fun e=>by have:=h.own.lt b e.symm;omega),Below.heap_alloc _ _ _ (by simp;omega),Below.heap_alloc _ _ _ (by omega)]
 have hsz:=hg.size;simp only[World.size_alloc] at hsz;have hP:w'.heap[w.heap.size+1+1+1]? =some (.cells #[.int .i64 words,v,.int .i64 0] 46 (0,0)):=by rw[hk _ (by omega)];exact h.p
 refine⟨hP,⟨?_,?_,?_,?_,?_,?_,?_⟩⟩
 ·rw[dO _ _ _ _ (by simp;omega),hk _ (by omega)];exact h.r
 ·rw[dO _ _ _ _ (by simp),hk _ (by omega),ht,JY,hs];exact h.a
 ·rw[dO _ _ _ _ (by simp),hk _ (by omega),ht,JY,hs];exact h.o
 ·exact aK v' hP
 ·rw[ht,PR,hs];exact ownsRow_setCell_below ho (by simp) _
 ·simp[World.setCell];omega
 ·exact(((h.Ro.alloc (by omega) _).alloc (by simp;omega) _).grown hg (by simp;omega) (fun b hb=>by have:=h.own.lt b hb;omega)).setCell (by simp;omega) _
def rU (words:Int) (zs:List Int) (w:World) (e:Ending) (w':World):Prop:=
 ∃v,e= .returned (.tuple #[.agg #[.int .i64 (if fK words zs=0 then words else 0),v,.int .i64 (if fK words zs=0 then(fin zs (s0 words)).1 else 0)],.int .i64 (fK words zs)])/\
  (fK words zs≠0->v= .slice none 0 0)/\(fK words zs=0->w'.ownsRow w.heap.size 87 5 v zs.length (rows zs (s0 words)))/\Below w.heap.size w w'
theorem rU.err {words:Int} {zs:List Int} {w w':World} (n:Int) (hn:n≠0) (h:fK words zs=n) (hb:Below w.heap.size w w'):
  rU words zs w (.returned (.tuple #[.agg #[.int .i64 0,.slice none 0 0,.int .i64 0],.int .i64 n])) w':=by
 refine⟨.slice none 0 0,?_,fun _=>rfl,fun h0=>absurd (h.symm.trans h0) hn,hb⟩;rw[h,if_neg hn,if_neg hn]
theorem KL:(Tryz.prog.info? 87).map (fun i=>(i.zero,i.size,i.bytes))=some (some (.agg #[.int .i64 0,.int .i64 0,.int .i64 0,.int .i64 0,.int .i64 0]),5,40):=by kernel_rfl
theorem CF (words:Int) (ao:Option Addr) (zs:List Int) (cap:Nat) (w:World) (hz:Ints w (.slice ao zs.length cap) zs) (hm:zs.length<=9223372036854775807):
  Calls Tryz.prog 18 #[.int .i64 words,.slice ao zs.length cap] w (rU words zs w):=by
 have HZ:=ag hz;clear hz;by_cases hw:words<0
 ·go_in;go_wp2;refine bodyPost_ret (v:=.tuple #[.agg #[.int .i64 0,.slice none 0 0,.int .i64 0],.int .i64 1]) (by simp[results,Tryz.results18,go_sem]) rfl ?_;exact rU.err 1 (by omega) (by simp[fK,hw]) ((aQ _ _).alloc (aR _) _)
 go_in;go_wp2
 go_loop [20] (fun i=>∃k:Nat,k<=zs.length/\i= .int .i64 k/\∀j,j<k->0<=nth zs j) (fun i=>zs.length - (intOf i).toNat)
 case atStart=>exact⟨0,Nat.zero_le _,rfl,fun j hj=>by omega⟩
 case round=>
  obtain⟨k,hk,rfl,hall⟩:=hrel;have Sb:=ag hall;clear hall;by_cases hlt:k<zs.length
  ·obtain⟨b,off,hao,hbs,hcell⟩:=Ints.at HZ.out hlt;subst hao;have hc2:(w.alloc (Obj.cells #[Value.int IntKind.i64 0,Value.slice none 0 0,Value.int IntKind.i64 0] 46)).cell? ⟨b,off+k,none⟩=some (.int .i64 (nth zs k)):=cell_later ((aQ _ _).alloc (aR _) _) hcell;clear hcell;by_cases hz:nth zs k<0
   ·go_wp2;refine bodyPost_ret (v:=.tuple #[.agg #[.int .i64 0,.slice none 0 0,.int .i64 0],.int .i64 1]) (by simp[results,Tryz.results18,go_sem]) rfl ?_;refine rU.err 1 (by omega) ?_ ((aQ _ _).alloc (aR _) _);rw[fK,if_neg (by omega),if_pos ⟨k,hlt,hz⟩]
   ·go_wp2;refine⟨⟨k+1,by omega,by go_num,fun j hj=>?_⟩,by simp[intOf];omega⟩;rcases Nat.lt_or_ge j k with h|h
    ·exact Sb.out j h
    ·obtain rfl:j=k:=by omega
     omega
  ·obtain rfl:k=zs.length:=by omega
   clear hk hlt;by_cases h4:4<zs.length
   ·go_wp2;refine bodyPost_ret (v:=.tuple #[.agg #[.int .i64 0,.slice none 0 0,.int .i64 0],.int .i64 3]) (by simp[results,Tryz.results18,go_sem]) rfl ?_;refine rU.err 3 (by omega) ?_ ((aQ _ _).alloc (aR _) _);rw[fK,if_neg (by omega),if_neg (by rintro⟨j,hj,hj'⟩;have:=Sb.out j hj;omega),if_pos h4]
   ·have Hok:∀n∈zs,0<=n:=by
     intro n hn;obtain⟨j,hj,rfl⟩:=List.mem_iff_getElem.1 hn;have:=Sb.out j hj;simp only[nth,List.getD_eq_getElem?_getD,dZ hj,Option.getD_some] at this;exact this
    have HE:=ag (EA (words:=words) (zs:=zs) (by omega) Sb.out (by omega));have HK:=ag Hok;clear Hok;go_wp2_with fail;refine(wQ (w:=w) (D5.start w words) words hw (by simp)).mono ?_;rintro e w1 ⟨rfl,ZV⟩;go_wp2_with fail;refine(wQ (w:=w) ZV 17 (by omega) (iU hw (by simp))).mono ?_;rintro e w2 ⟨rfl,abh⟩;have HS:=ag abh;clear abh ZV;go_wp2_with fail;go_loopw [42] (fun i wr=>∃(k:Nat) (v:Value),k<=zs.length/\i= .int .i64 k/\D5 w wr words (fin (zs.take k) (s0 words)) v k (rows (zs.take k) (s0 words))) (fun i _=>zs.length - (intOf i).toNat)
    case atStart=>exact⟨0,.slice none 0 0,Nat.zero_le _,rfl,by simpa [fin,rows,s0] using HS.out⟩
    case round=>
     obtain⟨k,v,hk,rfl,hst⟩:=hrel;have hle:=YB HK.out hw k;by_cases hlt:k<zs.length
     ·obtain⟨b,off,hao,hbs,hcell⟩:=Ints.at HZ.out hlt;subst hao;have hc2:wr.cell? ⟨b,off+k,none⟩=some (.int .i64 (nth zs k)):=cell_later hst.Ro hcell;clear hcell;have hn0:0<=nth zs k:=Sb.out k hlt;have HT:=ag (DV zs k hlt);generalize hs:fin (zs.take k) (s0 words)=s at*;have HSS:=ag hs;clear hs;go_wp2_with fail;refine(wQ (w:=w) hst _ hn0 hle).mono ?_;rintro e w3 ⟨rfl,ZM⟩;go_wp2_with fail;refine(wQ (w:=w) ZM 128 (by omega) (iU hn0 hle)).mono ?_;rintro e w4 ⟨rfl,aaL⟩;go_wp2_with fail;refine(wQ (w:=w) aaL 64 (by omega) (iU (by omega) (iU hn0 hle))).mono ?_;rintro e w5 ⟨rfl,Z6⟩;go_wp2_with fail;refine(wQ (w:=w) Z6 4096 (by omega) (iU (by omega) (iU (by omega) (iU hn0 hle)))).mono ?_;rintro e w6 ⟨rfl,Kb⟩;clear hst ZM aaL Z6 hc2;have cA:=cell_of_one Kb.a;have cP:w6.cell? ⟨w.heap.size+1+1+1,1,none⟩=some v:=af Kb.p rfl;have fP:=aJ (o:=1) Kb.p;have hsz:=Kb.size;have hb1:w.heap.size+1<w6.heap.size:=by omega
      have hb3:w.heap.size+1+1+1<w6.heap.size:=by omega
      have hown:=Kb.own;have H6:=ag Kb;clear Kb;obtain⟨i0,hi,hz0,hz1,hz2⟩:=info_parts KL;go_wp2_with (at_builtin;refine Bj _ rfl _ _ 44 rfl (w.heap.size+1+1+1+1) 87 i0 _ 5 40 Tryz.underlying44 hi hz0 hz1 hz2 rfl (by decide) _ _ _ rfl ((hown.alloc _).alloc _) ⟨w6.heap.size+1,0,none⟩ 1 1 (RP (nth zs k) s) rfl rfl ?c1 ?c2 ?c3 ?c4 ?c5 ?_)
      case c1=>exact kK (j3 _ _ _)
      case c2=>intro u hu;simp[RP] at hu;rcases hu with rfl|rfl|rfl|rfl|rfl<;>rfl
      case c3=>unfold maxLen;omega
      case c4=>omega
      case c5=>simp;omega
      intro ao7 c7 w7 Xo hgrow;have HN:=D5.next H6.out HSS.out HT.out Xo hgrow;have HX:=ag HN;have cP7:w7.cell? ⟨w.heap.size+1+1+1,1,none⟩=some v:=af HN.1 rfl;have fP7:=aJ (o:=1) HN.1;clear HN Xo hgrow hown cA cP fP;go_wp2;exact⟨⟨k+1,_,by omega,by go_num,HX.out.2⟩,by simp[intOf];omega⟩
     ·obtain rfl:k=zs.length:=by omega
      have hst':=hst;rw[List.take_length] at hst';have cR0:wr.cell? ⟨w.heap.size,0,none⟩=some (.int .i64 0):=af hst'.r rfl;have cR1:wr.cell? ⟨w.heap.size,1,none⟩=some (.slice none 0 0):=af hst'.r rfl;have cR2:wr.cell? ⟨w.heap.size,2,none⟩=some (.int .i64 0):=af hst'.r rfl;have fR0:wr.frozen? ⟨w.heap.size,0,none⟩=false:=aJ hst'.r;have fR1:wr.frozen? ⟨w.heap.size,1,none⟩=false:=aJ hst'.r;have fR2:wr.frozen? ⟨w.heap.size,2,none⟩=false:=aJ hst'.r;have cA:=cell_of_one hst'.a;have cO:=cell_of_one hst'.o;have cP0:wr.cell? ⟨w.heap.size+1+1+1,0,none⟩=some (.int .i64 words):=af hst'.p rfl;have cP1:wr.cell? ⟨w.heap.size+1+1+1,1,none⟩=some v:=af hst'.p rfl;have cP2:wr.cell? ⟨w.heap.size+1+1+1,2,none⟩=some (.int .i64 0):=af hst'.p rfl;have fP2:wr.frozen? ⟨w.heap.size+1+1+1,2,none⟩=false:=aJ hst'.p;obtain⟨ao7,c7,rfl⟩:=bF hst'.own;have HF:=ag hst';clear hst hst';by_cases hov:(fin zs (s0 words)).2=true
      ·rw[hov] at cO;go_wp2;have hR:=aK (o:=2) (.int .i64 0) (aK (o:=1) (.slice none 0 0) (aK (o:=0) (.int .i64 0) HF.out.r));refine bodyPost_ret (v:=.tuple #[.agg #[.int .i64 0,.slice none 0 0,.int .i64 0],.int .i64 3]) ?_ rfl ?_
       ·have c0:=af (o:=0) hR rfl;have c1:=af (o:=1) hR rfl;have c2:=af (o:=2) hR rfl;simp[results,Tryz.results18,go_sem,c0,c1,c2]
       ·exact rU.err 3 (by omega) (by rw[HE.out,if_pos hov]) (((HF.out.Ro.setCell (by simp) _).setCell (by simp) _).setCell (by simp) _)
      ·have adh:(fin zs (s0 words)).2=false:=by simpa using hov
       rw[adh] at cO;go_wp2;have hR:=aK (o:=2) (.int .i64 (fin zs (s0 words)).1) (aK (o:=1) (.slice ao7 zs.length c7) (aK (o:=0) (.int .i64 words) (jV (a:=⟨w.heap.size+1+1+1,2,none⟩) (u:=.int .i64 (fin zs (s0 words)).1) HF.out.r (by simp;omega))));have h0:fK words zs=0:=by rw[HE.out,if_neg hov]
       refine bodyPost_ret (v:=.tuple #[.agg #[.int .i64 words,.slice ao7 zs.length c7,.int .i64 (fin zs (s0 words)).1],.int .i64 0]) ?_ rfl ?_
       ·have c0:=af (o:=0) hR rfl;have c1:=af (o:=1) hR rfl;have c2:=af (o:=2) hR rfl;simp[results,Tryz.results18,go_sem,c0,c1,c2]
       ·refine⟨.slice ao7 zs.length c7,by rw[h0];simp,fun h=>absurd h0 h,fun _=>?_,(((HF.out.Ro.setCell (by simp;omega) _).setCell (by simp) _).setCell (by simp) _).setCell (by simp) _⟩;exact dm (ownsRow_setCell_below (ownsRow_setCell_below (ownsRow_setCell_below (ownsRow_setCell_below HF.out.own (by simp) _) (by simp;omega) _) (by simp;omega) _) (by simp;omega) _) (by omega)
structure gP where
 a:Int
 b:Int
 c:Int
 d:Int
 e:Int
def FE (p:gP):List Value:=[.int .i64 p.a,.int .i64 p.b,.int .i64 p.c,.int .i64 p.d,.int .i64 p.e]
theorem zb:∀p,(FE p).length=5:=fun _=>rfl
def placesOf:List Int->Int×Bool->List gP
 |[],_=>[]
 |n::l,s=>⟨s.1,(tk n s).1,(tk 128 (tk n s)).1,(tk 64 (tk 128 (tk n s))).1,(tk 4096 (tk 64 (tk 128 (tk n s)))).1⟩::placesOf l (FI n s)
theorem AO:∀(l:List Int) s,(placesOf l s).flatMap FE=rows l s
 |[],_=>rfl
 |n::l,s=>by rw[placesOf,List.flatMap_cons,AO l];rfl
theorem qy:∀(l:List Int) s,(placesOf l s).length=l.length
 |[],_=>rfl
 |n::l,s=>by rw[placesOf,List.length_cons,qy l];rfl
def PY (words:Int) (zs:List Int):List gP:=if fK words zs=0 then placesOf zs (s0 words) else []
def mkW (words:Int) (zs:List Int):Int:=if fK words zs=0 then words else 0
def mkS (words:Int) (zs:List Int):Int:=if fK words zs=0 then(fin zs (s0 words)).1 else 0
theorem M4 (words:Int) (zs:List Int):(PY words zs).length<=4:=by
 unfold PY;split
 ·rename_i h;rw[qy];unfold fK at h;split at h
  ·omega
  ·split at h
   ·omega
   ·split at h
    ·omega
    ·omega
 ·simp
def MkU (words:Int) (zs:List Int) (w:World) (e:Ending) (w':World):Prop:=
 ∃ao c,e= .returned (.tuple #[.agg #[.int .i64 (mkW words zs),.slice ao (PY words zs).length c,.int .i64 (mkS words zs)],.int .i64 (fK words zs)])/\
  w'.ownsRow w.heap.size 87 5 (.slice ao (PY words zs).length c) (PY words zs).length ((PY words zs).flatMap FE)/\Below w.heap.size w w'
theorem MkU.of {words:Int} {zs:List Int} {w:World} {e:Ending} {w':World} (h:rU words zs w e w'):MkU words zs w e w':=by
 obtain⟨v,rfl,h1,h2,h3⟩:=h;by_cases h0:fK words zs=0
 ·have ho:=h2 h0;obtain⟨ao,c,rfl⟩:=bF ho;have e1:PY words zs=placesOf zs (s0 words):=if_pos h0;have e2:mkW words zs=words:=if_pos h0;have e3:mkS words zs=(fin zs (s0 words)).1:=if_pos h0;refine⟨ao,c,?_,?_,h3⟩
  ·rw[e1,e2,e3,qy,if_pos h0,if_pos h0]
  ·rw[e1,qy,AO];exact ho
 ·obtain rfl:=h1 h0;have e1:PY words zs=[]:=if_neg h0;have e2:mkW words zs=0:=if_neg h0;have e3:mkS words zs=0:=if_neg h0;refine⟨none,0,?_,?_,h3⟩
  ·rw[e1,e2,e3,if_neg h0,if_neg h0];rfl
  ·rw[e1];exact World.ownsRow_nil _ _ _ _
theorem Mj {w:World} {ao bo:Option Addr} {ca cb:Nat} {l m:List gP} (ha:fI FE w 5 (.slice ao l.length ca) l) (hb:fI FE w 5 (.slice bo m.length cb) m) (h1:l.length<=9000000000000000000) (h2:m.length<=9000000000000000000):
  Calls Tryz.prog 81 #[.slice ao l.length ca,.slice bo m.length cb] w fun e w'=>∃b,e= .returned (.bool b)/\(b=true↔l=m)/\Below w.heap.size w w':=by
 have HA:=ag ha;have HB:=ag hb;have H1:=ag h1;clear ha hb h1;by_cases hlen:l.length=m.length
 ·have HLEN:=ag hlen;have hd:((l.length:Int) !=(m.length:Int))=false:=by rw[hlen];simp
  have hm2:=H1.out;go_in;rw[<-hlen] at HB⊢;clear hlen hd;go_wp2;go_loopw [13] (fun i wr=>∃k n:Nat,k<=l.length/\i= .int .i64 k/\Hid (l.take k=m.take k)/\wr=w.drewN n) (fun i _=>l.length - (intOf i).toNat)
  case atStart=>exact⟨0,0,Nat.zero_le _,rfl,ag (by rw[List.take_zero,List.take_zero]),rfl⟩
  case round=>
   obtain⟨k,n,hk,rfl,HT,rfl⟩:=hrel;by_cases hlt:k<l.length
   ·obtain⟨x,hx⟩:=bW hlt;obtain⟨y,hy⟩:=bW (show k<m.length from by have:=HLEN.out;omega);obtain⟨b1,o1,rfl,hs1,hc1⟩:=HA.out.at zb hx;have HB':=HB.out;obtain⟨b2,o2,rfl,hs2,hc2⟩:=fI.at zb (show fI FE w 5 (.slice bo l.length cb) m from HB.out) hy;have x0:=hc1 0 _ rfl;have y0:=hc2 0 _ rfl;have x1:=hc1 1 _ rfl;have y1:=hc2 1 _ rfl;have x2:=hc1 2 _ rfl;have y2:=hc2 2 _ rfl;have x3:=hc1 3 _ rfl;have y3:=hc2 3 _ rfl;have x4:=hc1 4 _ rfl;have y4:=hc2 4 _ rfl;simp only[Nat.add_zero] at x0 y0;have HX:=ag (And.intro hx hy);obtain⟨xa,xb,xc,xd,xe⟩:=x;obtain⟨ya,yb,yc,yd,ye⟩:=y;simp only at x0 x1 x2 x3 x4 y0 y1 y2 y3 y4;clear hc1 hc2 hx hy hs1 hs2 HB';by_cases ha:xa=ya
    rotate_left
    ·have hcmp:(xa==ya)=false:=by simpa using ha
     have Gg:=ag ha;clear ha;go_wp2_with fail;go_quiet (fail)
     go_wp2_with fail;go_ret;refine⟨false,rfl,⟨fun h=>(by cases h),fun h=>?_⟩,below_drewN (below_drewN (aQ _ _) _) _⟩;subst h;have h9:=HX.out.1.symm.trans HX.out.2;simp only[bU,gP.mk.injEq] at h9;exact absurd h9.1 Gg.out
    subst ha;by_cases hb:xb=yb
    rotate_left
    ·have hcmp:(xb==yb)=false:=by simpa using hb
     have Gg:=ag hb;clear hb;go_wp2_with fail;go_quiet (fail)
     go_wp2_with fail;go_ret;refine⟨false,rfl,⟨fun h=>(by cases h),fun h=>?_⟩,below_drewN (below_drewN (aQ _ _) _) _⟩;subst h;have h9:=HX.out.1.symm.trans HX.out.2;simp only[bU,gP.mk.injEq] at h9;exact absurd h9.2.1 Gg.out
    subst hb;by_cases hc:xc=yc
    rotate_left
    ·have hcmp:(xc==yc)=false:=by simpa using hc
     have Gg:=ag hc;clear hc;go_wp2_with fail;go_quiet (fail)
     go_wp2_with fail;go_ret;refine⟨false,rfl,⟨fun h=>(by cases h),fun h=>?_⟩,below_drewN (below_drewN (aQ _ _) _) _⟩;subst h;have h9:=HX.out.1.symm.trans HX.out.2;simp only[bU,gP.mk.injEq] at h9;exact absurd h9.2.2.1 Gg.out
    subst hc;by_cases hd:xd=yd
    rotate_left
    ·have hcmp:(xd==yd)=false:=by simpa using hd
     have Gg:=ag hd;clear hd;go_wp2_with fail;go_quiet (fail)
     go_wp2_with fail;go_ret;refine⟨false,rfl,⟨fun h=>(by cases h),fun h=>?_⟩,below_drewN (below_drewN (aQ _ _) _) _⟩;subst h;have h9:=HX.out.1.symm.trans HX.out.2;simp only[bU,gP.mk.injEq] at h9;exact absurd h9.2.2.2.1 Gg.out
    subst hd;by_cases he:xe=ye
    rotate_left
    ·have hcmp:(xe==ye)=false:=by simpa using he
     have Gg:=ag he;clear he;go_wp2_with fail;go_quiet (fail)
     go_wp2_with fail;go_ret;refine⟨false,rfl,⟨fun h=>(by cases h),fun h=>?_⟩,below_drewN (below_drewN (aQ _ _) _) _⟩;subst h;have h9:=HX.out.1.symm.trans HX.out.2;simp only[bU,gP.mk.injEq] at h9;exact absurd h9.2.2.2.2 Gg.out
    subst he;go_wp2_with fail;go_quiet (fail)
    go_wp2_with fail;exact⟨⟨k+1,_,by omega,by go_num,ag (by rw[dx HX.out.1,dx HX.out.2,HT.out]),rfl⟩,by simp[intOf];omega⟩
   ·obtain rfl:k=l.length:=by omega
    go_wp2;go_ret;refine⟨true,rfl,⟨fun _=>?_,fun _=>rfl⟩,below_drewN (aQ _ _) n⟩;have h9:=HT.out;rw[List.take_length,HLEN.out,List.take_length] at h9;exact h9
 ·have hd:((l.length:Int) !=(m.length:Int))=true:=by simp only[bne_iff_ne,ne_eq];omega
  have HLEN:=ag hlen;clear hlen;go_in;go_wp2_with fail;go_ret;exact⟨false,rfl,⟨fun h=>(by cases h),fun h=>absurd (by rw[h]) HLEN.out⟩,aQ _ _⟩
section
variable {w w':World}
def lY (words:Int) (o:Tx):Bool:=(decide (o.kind=2)||decide (o.kind=3)) && decide (1<=o.at_) && decide (o.at_<=words)
theorem Qq {bp:Nat} {words size:Int} {tv:Value} (h:w.heap[bp]? =some (.cells #[.int .i64 words,tv,.int .i64 size] 46 (0,0))) (o:Tx):
  Calls Tryz.prog 53 #[.agg #[.int .i64 o.th,.int .u8 o.kind,.int .i64 o.at_,.int .i64 o.v],.pointer (some ⟨bp,0,none⟩)] w fun e w'=>e= .returned (.bool (!lY words o))/\Below w.heap.size w w':=by
 obtain⟨th,kind,a,v⟩:=o;have hb:=lt_of_block h;have x0:w.cell? ⟨bp,0,none⟩=some (.int .i64 words):=af h rfl;have GJ:=ag ((aQ w.heap.size w).alloc (aR _) (.cells #[.int .i64 th,.int .u8 kind,.int .i64 a,.int .i64 v] 96));have x1:(w.alloc (.cells #[.int .i64 th,.int .u8 kind,.int .i64 a,.int .i64 v] 96)).cell? ⟨bp,0,none⟩=some (.int .i64 words):=by rw[World.cell?_alloc_lt _ _ _ hb];exact x0
 clear h;by_cases hk:kind=2\/kind=3
 ·by_cases h1:a<1
  ·have HE:=ag (show lY words ⟨th,kind,a,v⟩=false from by simp[lY];omega);have q1:decide (a<1)=true:=decide_eq_true h1;rcases hk with rfl|rfl;all_goals (
    go_in;go_wp2_with fail;go_ret;exact⟨by rw[HE.out];rfl,GJ.out⟩)
  ·have q1:decide (a<1)=false:=decide_eq_false h1;by_cases h2:words<a
   ·have HE:=ag (show lY words ⟨th,kind,a,v⟩=false from by simp[lY];omega);have q2:decide (words<a)=true:=decide_eq_true h2;rcases hk with rfl|rfl;all_goals (
     go_in;go_wp2_with fail;go_ret;exact⟨by rw[HE.out];rfl,GJ.out⟩)
   ·have HE:=ag (show lY words ⟨th,kind,a,v⟩=true from by simp[lY];omega);have q2:decide (words<a)=false:=decide_eq_false h2;rcases hk with rfl|rfl;all_goals (
     go_in;go_wp2_with fail;go_ret;exact⟨by rw[HE.out];rfl,GJ.out⟩)
 ·have HE:=ag (show lY words ⟨th,kind,a,v⟩=false from by simp[lY];omega);have q1:(kind !=2)=true:=by simp;omega
  have q2:(kind !=3)=true:=by simp;omega
  clear hk;go_in;go_wp2_with fail;go_ret;exact⟨by rw[HE.out];rfl,GJ.out⟩
theorem Jj {bp:Nat} {words size:Int} {tv:Value} (hp:w.heap[bp]? =some (.cells #[.int .i64 words,tv,.int .i64 size] 46 (0,0))) {ao:Option Addr} {cap:Nat} {l:List Tx} (h:fI rX w 4 (.slice ao l.length cap) l) (hl:l.length<=262144):
  Calls Tryz.prog 82 #[.slice ao l.length cap,.func (.func 53) #[] #[.pointer (some ⟨bp,0,none⟩)]] w fun e w'=>(∃z:Int,e= .returned (.int .i64 z)/\(0<=z↔∃o∈l,lY words o=false))/\Below w.heap.size w w':=by
 have H:=ag h;have HL:=ag hl;have HP:=ag hp;clear h hl hp;go_in;go_wp2_with fail;go_loopw [8] (fun i w'=>∃k:Nat,k<=l.length/\i= .int .i64 (k:Int)/\Hid (Below w.heap.size w w'/\∀j (o:Tx),j<k->l[j]? =some o->lY words o=true)) (fun i _=>((l.length:Int) - intOf i).toNat)
 case atStart=>exact⟨0,by omega,rfl,⟨aQ _ _,fun j o hj=>absurd hj (by omega)⟩⟩
 case round=>
  obtain⟨k,hk,rfl,HR⟩:=hrel;by_cases hlt:k<l.length
  ·obtain⟨⟨th,ki,at_,v⟩,ho⟩:=bW hlt;obtain⟨cb,co,rfl,hcb,hcc⟩:=fI.at qB (Rd.below H.out HR.out.1) ho;have i0:=hcc 0 _ rfl;have i1:=hcc 1 _ rfl;have i2:=hcc 2 _ rfl;have i3:=hcc 3 _ rfl;rw[Nat.add_zero] at i0;have HO:=ag ho;clear ho hcc hcb;go_wp2_with fail;refine(Qq (blk HR.out.1 HP.out) ⟨th,ki,at_,v⟩).mono ?_;rintro e w2 ⟨rfl,hb2⟩;have HB2:=ag (HR.out.1.trans (hb2.mono HR.out.1.size));clear hb2 i0 i1 i2 i3;cases hc:lY words ⟨th,ki,at_,v⟩ with
   |false=>
    have HC:=ag hc;clear hc;go_wp2_with fail;go_ret;exact⟨⟨_,rfl,⟨fun _=>⟨_,bA HO.out,HC.out⟩,fun _=>by omega⟩⟩,HB2.out⟩
   |true=>
    have HC:=ag hc;have hkl:k<262144:=Nat.lt_of_lt_of_le hlt HL.out;clear hc;go_wp2_with fail;refine⟨⟨k+1,by omega,by go_num,⟨HB2.out,fun j o hj ho=>?_⟩⟩,by simp[intOf];omega⟩;by_cases e:j=k
    ·subst e;rw[HO.out] at ho;cases ho;exact HC.out
    ·exact HR.out.2 j o (by omega) ho
  ·obtain rfl:k=l.length:=by omega
   go_wp2_with fail;go_ret;refine⟨⟨-1,rfl,⟨fun h=>absurd h (by decide),fun⟨o,ho,hc⟩=>?_⟩⟩,HR.out.1⟩;obtain⟨j,hj⟩:=List.getElem?_of_mem ho;rw[HR.out.2 j o (bE.1 hj).1 hj] at hc;cases hc
theorem CL {bp:Nat} {words size:Int} {tv:Value} (hp:w.heap[bp]? =some (.cells #[.int .i64 words,tv,.int .i64 size] 46 (0,0))) {ao:Option Addr} {cap:Nat} {l:List Tx} (h:fI rX w 4 (.slice ao l.length cap) l) (hl:l.length<=262144):
  Calls Tryz.prog 52 #[.slice ao l.length cap,.func (.func 53) #[] #[.pointer (some ⟨bp,0,none⟩)]] w fun e w'=>e= .returned (.bool (!(l.all (lY words))))/\Below w.heap.size w w':=by
 have H:=ag h;have HL:=ag hl;have HP:=ag hp;clear h hl hp;go_in;go_wp2_with fail;refine(Jj HP.out H.out HL.out).mono ?_;rintro e w1 ⟨⟨z,rfl,hz⟩,hb⟩;have HZ:=ag hz;have HB:=ag hb;clear hz hb;by_cases h0:0<=z
 ·have hd:decide (0<=z)=true:=decide_eq_true h0;go_wp2_with fail;go_ret;refine⟨?_,HB.out⟩;obtain⟨o,ho,hc⟩:=HZ.out.1 h0;rw[show l.all (lY words)=false from by rw[List.all_eq_false];exact⟨o,ho,by simp[hc]⟩];rfl
 ·have hd:decide (0<=z)=false:=decide_eq_false h0;go_wp2_with fail;go_ret;refine⟨?_,HB.out⟩;rw[show l.all (lY words)=true from by
   rw[List.all_eq_true];intro o ho;cases hc:lY words o with
   |true=>rfl
   |false=>exact absurd (HZ.out.2 ⟨o,ho,hc⟩) (by omega)]
  rfl
def p9 (p:gP):Int:=wrap64 (p.b - p.a)
def dN (ps:List gP):List Int:=ps.map p9
def ic (words size:Int) (ps:List gP):Prop:=(∀p∈ps,32<=p9 p)/\fK words (dN ps)=0/\mkS words (dN ps)=size/\PY words (dN ps)=ps
theorem OC (x:Int):∀u∈[Value.int .i64 x],u.oneCell'=true:=by intro u hu;simp at hu;subst hu;rfl
theorem U5 {v:Value} {n:Nat} {zs:List Int} (h:Rd w 1 v n (zs.map (Value.int .i64))) (hn:n=zs.length):Ints w v zs:=by
 obtain⟨h1,ao,cap,rfl,h2,h3⟩:=h;subst hn;refine⟨ao,cap,rfl,h2,fun i hi=>?_⟩;obtain⟨b,off,rfl,hb,hc⟩:=h3 (by omega);exact⟨b,off,rfl,hb,hc i _ (by simp[nth,hi])⟩
def IV (words size:Int) (ps:List gP) (w:World) (e:Ending) (w':World):Prop:=∃b,e= .returned (.bool b)/\(b=true↔ic words size ps)/\Below w.heap.size w w'
theorem G9 {Gu:Option Addr} {nM:Nat} {ps:List gP} (h:fI FE w 5 (.slice Gu ps.length nM) ps) (hl:ps.length<=262144) (words size:Int):
  Calls Tryz.prog 51 #[.agg #[.int .i64 words,.slice Gu ps.length nM,.int .i64 size]] w (IV words size ps w):=by
 have H:=ag h;have HL:=ag hl;clear h hl;obtain⟨i0,hi,hz0,hz1,hz2⟩:=info_parts zQ;go_in;go_wp2_with fail;have HB0:=ag ((aQ w.heap.size w).alloc (aR _) (.cells #[.int .i64 words,.slice Gu ps.length nM,.int .i64 size] 46));have HP0:=ag (aX w (.cells #[.int .i64 words,.slice Gu ps.length nM,.int .i64 size] 46));have Xi:=ag (show w.heap.size+1<=(w.alloc (.cells #[.int .i64 words,.slice Gu ps.length nM,.int .i64 size] 46)).heap.size from by rw[World.size_alloc];omega);generalize w.alloc (.cells #[.int .i64 words,.slice Gu ps.length nM,.int .i64 size] 46)=w0 at HB0 HP0 Xi⊢;have hpl:=HL.out;obtain⟨bp,hbp⟩:∃b,b=w.heap.size:=⟨_,rfl⟩;have HBP:=ag hbp;rw[<-hbp] at HP0⊢;clear hbp;go_loopw [3,11] (fun v i wr=>∃(j:Nat) (ao:Option Addr) (cp:Nat),j<=ps.length/\i= .int .i64 (j:Int)/\v= .slice ao j cp/\Hid (wr.ownsRow (w.heap.size+1) 3 1 (.slice ao j cp) j ((dN (ps.take j)).map (Value.int .i64)))/\Hid (∀p∈ps.take j,32<=p9 p)/\Hid (Below w.heap.size w wr)/\Hid (wr.heap[bp]? =some (.cells #[.int .i64 words,.slice Gu ps.length nM,.int .i64 size] 46 (0,0)))/\Hid (w.heap.size+1<=wr.heap.size)) (fun _ i _=>((ps.length:Int) - intOf i).toNat)
 case atStart=>exact⟨0,none,0,Nat.zero_le _,rfl,rfl,ag (World.ownsRow_nil _ _ _ _),ag (fun p hp=>by simp at hp),HB0,HP0,Xi⟩
 case round=>
  obtain⟨j,ao,cp,hj,rfl,rfl,HO,HG,HB,HP,Xc⟩:=hrel;clear HB0 HP0 Xi;have hpl:=HL.out;have p0:wr.cell? ⟨bp,0,none⟩=some (.int .i64 words):=af HP.out rfl;have p2:wr.cell? ⟨bp,2,none⟩=some (.int .i64 size):=af HP.out rfl;have p1:wr.cell? ⟨bp,1,none⟩=some (.slice Gu ps.length nM):=af HP.out rfl;have ZB:=lt_of_block HP.out;by_cases hlt:j<ps.length
  ·obtain⟨⟨xa,xb,xc,xd,xe⟩,hx⟩:=bW hlt;obtain⟨g,off,rfl,hg,hc⟩:=fI.at zb (Rd.below H.out HB.out) hx;have d0:=hc 0 _ rfl;have d1:=hc 1 _ rfl;have d2:=hc 2 _ rfl;have d3:=hc 3 _ rfl;have d4:=hc 4 _ rfl;simp only[Nat.add_zero] at d0;have HX:=ag hx;have Nn:=ag (dx hx);clear hx hc;by_cases h32:wrap64 (xb - xa)<32
   ·have q1:decide (wrap64 (xb - xa)<32)=true:=decide_eq_true h32;have JJ:=ag (show ¬ic words size ps from fun hp=>by
     have:=hp.1 _ (bA HX.out);unfold p9 at this;simp only at this;omega)
    have tK:=ag (HB.out.alloc HB.out.size (.cells #[.int .i64 xa,.int .i64 xb,.int .i64 xc,.int .i64 xd,.int .i64 xe] 87));clear h32;go_wp2_with fail;go_ret;exact⟨false,rfl,⟨fun h=>(by cases h),fun h=>absurd h JJ.out⟩,tK.out⟩
   ·have q1:decide (wrap64 (xb - xa)<32)=false:=decide_eq_false h32;have H32:=ag h32;clear h32;have HJ:=ag hlt;go_wp2_with (at_builtin;refine Hid.out ?_);refine fe _ rfl _ _ 72 rfl (w.heap.size+1) 3 i0 _ 1 8 Tryz.underlying72 hi hz0 hz1 hz2 rfl (by decide) (.slice ao j cp) j _ (by simp[Act.eval]) (bD HO.out (((bH.refl (fun _=>False) wr).alloc _).alloc _) (fun _ _=>id)) ⟨wr.heap.size+1,0,none⟩ 1 1 [.int .i64 (wrap64 (xb - xa))] (by simp[Act.eval]) rfl ?c1 ?c2 ?c3 ?c4 ?c5 ?_
    case c1=>exact kK (j3 _ _ _)
    case c2=>exact OC _
    case c3=>have:=HL.out;have:=HJ.out;unfold maxLen;omega
    case c4=>have:=HL.out;have:=HJ.out;omega
    case c5=>have:=Xc.out;simp;omega
    intro ao5 cp5 w5 hown mI iW;have J9:bH (fun k=>w.heap.size+1<=k) wr w5:=((((bH.refl (fun k=>w.heap.size+1<=k) wr)).alloc _).alloc _).grown iW (fun k hk=>.inl (HO.out.lt k hk).1);have qj:=ag (J9.below HB.out HB.out.size (fun k hk=>by omega));have HP5:=ag (gV J9 HP.out (by have:=HBP.out;omega));have Vu:=ag (show w.heap.size+1<=w5.heap.size from by have:=J9.size;have:=Xc.out;omega);have UJ:=ag (show w5.ownsRow (w.heap.size+1) 3 1 (.slice ao5 (j+1) cp5) (j+1) ((dN (ps.take (j+1))).map (Value.int .i64)) from by rw[Nn.out];unfold dN;rw[List.map_append,List.map_append];exact hown);have HG5:=ag (show ∀p∈ps.take (j+1),32<=p9 p from fun p hp=>by
     rw[Nn.out] at hp;rcases List.mem_append.1 hp with hp|hp
     ·exact HG.out p hp
     ·simp at hp;subst hp;have:=H32.out;unfold p9;simp only;omega)
    clear hown mI iW J9 p0 p1 p2 d0 d1 d2 d3 d4;go_wp2_with fail;exact⟨⟨j+1,ao5,cp5,by omega,by go_num,rfl,UJ,HG5,qj,HP5,Vu⟩,by simp[intOf];omega⟩
  ·obtain rfl:j=ps.length:=by omega
   have ho:=HO.out;have hg:=HG.out;rw[List.take_length] at ho hg;have HG':=ag hg;have hfl:(dN ps).length=ps.length:=by unfold dN;rw[List.length_map]
   have HFL:=ag hfl;have Xp:=ag (show Ints wr (.slice ao (dN ps).length cp) (dN ps) from by have h9:=Rd.iV ho;rw[hfl];exact U5 h9 hfl.symm);rw[hfl] at Xp;clear ho hg hfl;go_wp2_with fail;refine((show Calls Tryz.prog 18 #[.int .i64 words,.slice ao ps.length cp] wr (rU words (dN ps) wr) from by have h9:=CF words ao (dN ps) cp wr (by rw[HFL.out];exact Xp.out) (by rw[HFL.out];omega);rw[HFL.out] at h9;exact h9)).mono ?_;intro e w2 hm;obtain⟨mo,mc,rfl,hmo,hb2⟩:=MkU.of hm;have J4:=ag hmo;have HB2:=ag (HB.out.trans (hb2.mono HB.out.size));have HP2:=ag (blk hb2 HP.out);have HR2:=ag (Rd.below H.out HB2.out);have HML:=ag (M4 words (dN ps));clear hm hmo hb2 p0 p1 p2 ZB;have p0:w2.cell? ⟨bp,0,none⟩=some (.int .i64 words):=af HP2.out rfl;have p1:w2.cell? ⟨bp,1,none⟩=some (.slice Gu ps.length nM):=af HP2.out rfl;have p2:w2.cell? ⟨bp,2,none⟩=some (.int .i64 size):=af HP2.out rfl;have ZB:=lt_of_block HP2.out;obtain⟨me,hme⟩:∃x,x=fK words (dN ps):=⟨_,rfl⟩;obtain⟨ms,hms⟩:∃x,x=mkS words (dN ps):=⟨_,rfl⟩;obtain⟨mw,hmw⟩:∃x,x=mkW words (dN ps):=⟨_,rfl⟩;obtain⟨mp,hmp⟩:∃x,x=PY words (dN ps):=⟨_,rfl⟩;rw[<-hmp] at J4 HML;rw[<-hme,<-hms,<-hmw,<-hmp];have Re:=ag hme;have UD:=ag hms;have XE:=ag hmp;clear hme hms hmw hmp;have hal:∀o:Obj,Below w.heap.size w (w2.alloc o):=fun o=>HB2.out.alloc HB2.out.size o
   have WZ:=ag hal;clear hal;by_cases he:me=0
   ·subst he;by_cases hs:ms=size
    ·have hd:(ms==size)=true:=by simpa using hs
     have HS:=ag hs;clear hs;go_wp2_with fail;refine(Mj (l:=mp) (m:=ps) (Rd.alloc (Rd.iV J4.out) _) (Rd.alloc HR2.out _) (by have:=HML.out;omega) (by have:=HL.out;omega)).mono ?_;rintro e w3 ⟨b,rfl,hbe,hb3⟩;have E5:=ag hbe;have HB3:=ag ((WZ.out _).trans (hb3.mono (WZ.out _).size));clear hbe hb3;go_wp2_with fail;go_ret;refine⟨b,rfl,?_,HB3.out⟩;rw[E5.out];constructor
     ·intro h;exact⟨HG'.out,Re.out.symm,by rw[<-UD.out];exact HS.out,by rw[<-XE.out];exact h⟩
     ·intro h;rw[XE.out];exact h.2.2.2
    ·have hd:(ms==size)=false:=by simpa using hs
     have HS:=ag hs;clear hs;go_wp2_with fail;go_ret;exact⟨false,rfl,⟨fun h=>(by cases h),fun h=>absurd (by rw[UD.out];exact h.2.2.1) HS.out⟩,WZ.out _⟩
   ·have hd:(me==0)=false:=by simpa using he
    have HE:=ag he;clear he;go_wp2_with fail;go_ret;exact⟨false,rfl,⟨fun h=>(by cases h),fun h=>absurd (by rw[Re.out];exact h.2.1) HE.out⟩,WZ.out _⟩
end
section
variable {w w':World}
def nN (words size:Int) (p:gP) (th:Int):dw:=⟨words,size,p.a,p.b,p.c,p.d,p.e,p.a+1,th,p.a⟩
theorem rG {n:Int} {s:Int×Bool} (h:s.2=true):(tk n s).2=true:=by unfold tk;split<;>simp[h]
theorem BQ (zs:List Int):∀{s:Int×Bool},s.2=true->(fin zs s).2=true:=by
 induction zs with
 |nil=>intro s h;exact h
 |cons n l ih=>intro s h;exact ih (rG (rG (rG (rG h))))
def qR (x:Int):Prop:=1<=x/\x<=262144
theorem PU (zs:List Int) (hz:∀n∈zs,0<=n):∀{s:Int×Bool},qR s.1->∀q∈placesOf zs s,qR q.a/\qR q.b/\qR q.c/\qR q.d/\qR q.e:=by
 induction zs with
 |nil=>intro s _ q hq;cases hq
 |cons n l ih=>
  intro s hs q hq;have h1:=iU (hz n List.mem_cons_self) hs;have h2:=iU (n:=128) (by decide) h1;have h3:=iU (n:=64) (by decide) h2;have h4:=iU (n:=4096) (by decide) h3;rcases List.mem_cons.1 hq with rfl|hq
  ·exact⟨hs,h1,h2,h3,h4⟩
  ·exact ih (fun m hm=>hz m (List.mem_cons_of_mem _ hm)) h4 q hq
theorem o7 {words:Int} {zs:List Int} (h:fK words zs=0):0<=words/\words<=262144:=by
 have h0:¬words<0:=fun q=>by rw[fK,if_pos q] at h;cases h
 refine⟨by omega,?_⟩;rcases(by omega:262144<words\/words<=262144) with q|q
 ·exfalso;unfold fK at h;rw[if_neg h0] at h;split at h
  ·cases h
  ·split at h
   ·cases h
   ·have:(fin zs (s0 words)).2=true:=BQ zs (rG (by unfold tk;rw[if_pos (by simp only;omega)]));rw[if_pos this] at h;cases h
 ·exact q
theorem ic.places {words size:Int} {ps:List gP} (h:ic words size ps):ps=placesOf (dN ps) (s0 words):=by
 have:=h.2.2.2;unfold PY at this;rw[if_pos h.2.1] at this;exact this.symm
theorem ic.len {words size:Int} {ps:List gP} (h:ic words size ps):ps.length<=4:=by
 have:=M4 words (dN ps);rw[h.2.2.2] at this;exact this
theorem ic.mem {words size:Int} {ps:List gP} (h:ic words size ps):∀q∈ps,(qR q.a/\qR q.b/\qR q.c/\qR q.d/\qR q.e)/\q.a+32<=q.b:=by
 intro q hq;have hw:=o7 h.2.1;have hq':=hq;rw[h.places] at hq';have h1:=PU (dN ps) (fun n hn=>by
  obtain⟨p,hp,rfl⟩:=List.mem_map.1 hn;have:=h.1 p hp;omega) (s:=s0 words) (iU (by decide) (iU hw.1 ⟨by decide,by decide⟩)) q hq'
 refine⟨h1,?_⟩;have h2:=h.1 q hq;unfold p9 wrap64 at h2;obtain⟨⟨a1,a2⟩,⟨b1,b2⟩, -⟩:=h1;omega
theorem ic.ok {words size:Int} {ps:List gP} (h:ic words size ps) {k:Nat} {p:gP} (hp:ps[k]? =some p):eO (nN words size p k):=by
 obtain⟨⟨⟨a1,a2⟩,⟨b1,b2⟩,⟨c1,c2⟩,⟨d1,d2⟩, -⟩,hf⟩:=h.mem p (bA hp);have hw:=o7 h.2.1;have hk:=(bE.1 hp).1;have hl:=h.len;exact⟨hw,⟨by simp only[nN];omega,b2⟩,⟨by simp only[nN];omega,c2⟩,⟨by simp only[nN];omega,d2⟩,⟨by simp only[nN];omega,by simp only[nN];omega⟩,⟨by simp only[nN];omega,by simp only[nN];omega⟩,⟨by simp only[nN];omega,a2⟩⟩
def encR (p:Value×List Tx):List Value:=[p.1]
theorem I1:∀p,(encR p).length=1:=fun _=>rfl
structure qo (w:World) (v:Value) (rs:List (Value×List Tx)):Prop where
 rows:fI encR w 1 v rs
 each:∀p∈rs,fI rX w 4 p.1 p.2
theorem qo.below {v:Value} {rs:List (Value×List Tx)} (h:qo w v rs) (hb:Below w.heap.size w w'):qo w' v rs:=⟨Rd.below h.rows hb,fun p hp=>Rd.below (h.each p hp) hb⟩
def di (rs:List (Value×List Tx)):Nat:=(rs.map fun p=>p.2.length+1).sum
theorem pW {rs:List (Value×List Tx)} {k:Nat} {p:Value×List Tx} (h:rs[k]? =some p):di (rs.take (k+1))=di (rs.take k)+(p.2.length+1):=by
 unfold di;rw[dx h];simp
theorem Ht (a b:List (Value×List Tx)):di (a++b)=di a+di b:=by unfold di;rw[List.map_append,List.sum_append]
theorem xK (rs:List (Value×List Tx)) (k:Nat):di (rs.take k)<=di rs:=by
 have:=Ht (rs.take k) (rs.drop k);rw[List.take_append_drop] at this;omega
theorem Ji (rs:List (Value×List Tx)):rs.length<=di rs:=by
 unfold di;induction rs with
 |nil=>simp
 |cons p r ih=>simp only[List.map_cons,List.sum_cons,List.length_cons];omega
def gN (words:Int) (rs:List (Value×List Tx)):Bool:=rs.all fun p=>p.2.all (lY words)
def gU (t:dw) (rs:List (List Tx)):Cd:=rs.foldl (fun c l=>c.WX t l) (Cd.new.start t)
def zk (words size:Int) (ps:List gP) (thread:Int) (rs:List (Value×List Tx)) (w:World) (e:Ending) (w':World):Prop:=
 Below w.heap.size w w'/\
 ((e= .returned (.tuple #[.slice none 0 0,.int .i64 1])/\¬(ic words size ps/\0<=thread/\thread<ps.length/\gN words rs=true))\/
  ∃(k:Nat) (p:gP),thread=k/\ps[k]? =some p/\ic words size ps/\gN words rs=true/\
  ((e= .returned (.tuple #[.slice none 0 0,.int .i64 3])/\∃j,j<=rs.length/\((gU (nN words size p k) ((rs.take j).map Prod.snd)).over=true\/(gU (nN words size p k) ((rs.take j).map Prod.snd)).halt.over=true))\/
   ∃g,e= .returned (.tuple #[.slice (some ⟨g,0,none⟩) (gU (nN words size p k) (rs.map Prod.snd)).halt.ops.length (gU (nN words size p k) (rs.map Prod.snd)).halt.ops.length,.int .i64 0])/\
   w'.heap[g]? =some (.cells ((gU (nN words size p k) (rs.map Prod.snd)).halt.done.flatMap bR).toArray 107 (0,0))/\w.heap.size<=g/\(gU (nN words size p k) (rs.map Prod.snd)).halt.over=false/\(gU (nN words size p k) (rs.map Prod.snd)).halt.ops.length<=262144))
theorem Ga {Gu ra:Option Addr} {nM rc:Nat} {ps:List gP} {rs:List (Value×List Tx)} (hp:fI FE w 5 (.slice Gu ps.length nM) ps) (hr:qo w (.slice ra rs.length rc) rs) (hpl:ps.length<=262144) (htot:di rs<=262144) (words size thread:Int):
  Calls Tryz.prog 27 #[.agg #[.int .i64 words,.slice Gu ps.length nM,.int .i64 size],.int .i64 thread,.slice ra rs.length rc] w (zk words size ps thread rs w):=by
 have HP:=ag hp;have HR:=ag hr;have Mm:=ag hpl;have Uo:=ag htot;have VK:=ag (Nat.le_trans (Ji rs) htot);clear hp hr hpl htot;go_in;go_wp2_with fail;have HB0:=ag ((aQ w.heap.size w).alloc (aR _) (.cells #[.int .i64 words,.slice Gu ps.length nM,.int .i64 size] 46));have HX0:=ag (aX w (.cells #[.int .i64 words,.slice Gu ps.length nM,.int .i64 size] 46));have J_:=ag (aR w.heap.size);obtain⟨bp,hbp⟩:∃b,b=w.heap.size:=⟨_,rfl⟩;have HBP:=ag hbp;rw[<-hbp] at HX0⊢;generalize w.alloc (.cells #[.int .i64 words,.slice Gu ps.length nM,.int .i64 size] 46)=w0 at HB0 HX0⊢;clear hbp;have p0:w0.cell? ⟨bp,0,none⟩=some (.int .i64 words):=af HX0.out rfl;have p1:w0.cell? ⟨bp,1,none⟩=some (.slice Gu ps.length nM):=af HX0.out rfl;have p2:w0.cell? ⟨bp,2,none⟩=some (.int .i64 size):=af HX0.out rfl;refine(G9 (Rd.below HP.out HB0.out) Mm.out words size).mono ?_;rintro e w1 ⟨b,rfl,hb,hb1⟩;have HB1:=ag (HB0.out.trans (hb1.mono HB0.out.size));have WK:=ag (blk hb1 HX0.out);have En:=ag hb;clear hb hb1 p0 p1 p2;have p0:w1.cell? ⟨bp,0,none⟩=some (.int .i64 words):=af WK.out rfl;have p1:w1.cell? ⟨bp,1,none⟩=some (.slice Gu ps.length nM):=af WK.out rfl;have p2:w1.cell? ⟨bp,2,none⟩=some (.int .i64 size):=af WK.out rfl;cases b with
 |false=>
  have JJ:=ag (show ¬(ic words size ps/\0<=thread/\thread<ps.length/\gN words rs=true) from fun h=>by have:=En.out.2 h.1;cases this);go_wp2_with fail
  go_ret2
  exact⟨HB1.out,.inl ⟨rfl,JJ.out⟩⟩
 |true=>
  have HPD:=ag (En.out.1 rfl);by_cases ht0:thread<0
  ·have q1:decide (thread<0)=true:=decide_eq_true ht0;have JJ:=ag (show ¬(ic words size ps/\0<=thread/\thread<ps.length/\gN words rs=true) from fun h=>by have:=h.2.1;omega);clear ht0;go_wp2_with fail
   go_ret2
   exact⟨HB1.out,.inl ⟨rfl,JJ.out⟩⟩
  obtain⟨th,rfl⟩:∃n:Nat,thread=n:=⟨thread.toNat,by omega⟩;have q1:decide ((th:Int)<0)=false:=decide_eq_false (by omega);by_cases htl:ps.length<=th
  ·have q2:decide (ps.length<=th)=true:=decide_eq_true htl;have JJ:=ag (show ¬(ic words size ps/\0<=(th:Int)/\(th:Int)<ps.length/\gN words rs=true) from fun h=>by have:=h.2.2.1;omega);clear ht0 htl;go_wp2_with fail
   go_ret2
   exact⟨HB1.out,.inl ⟨rfl,JJ.out⟩⟩
  have q2:decide (ps.length<=th)=false:=decide_eq_false htl;have HTL:=ag htl;clear ht0 htl;go_wp2_with fail;have hrl:=VK.out;go_loopw [30] (fun i wr=>∃j:Nat,j<=rs.length/\i= .int .i64 (j:Int)/\Hid (∀p∈rs.take j,p.2.all (lY words)=true)/\Hid (Below w.heap.size w wr)/\Hid (wr.heap[bp]? =some (.cells #[.int .i64 words,.slice Gu ps.length nM,.int .i64 size] 46 (0,0)))) (fun i _=>((rs.length:Int) - intOf i).toNat)
  case atStart=>exact⟨0,Nat.zero_le _,rfl,ag (fun p hp=>by simp at hp),HB1,WK⟩
  case round=>
   obtain⟨j,hj,rfl,HA,HB,HX⟩:=hrel;clear HB1 WK p0 p1 p2;have hrl:=VK.out;by_cases hlt:j<rs.length
   ·obtain⟨⟨rv,l⟩,hx⟩:=bW hlt;obtain⟨g,off,rfl,hg,hc⟩:=fI.at I1 (Rd.below HR.out.rows HB.out) hx;have d0:=hc 0 _ rfl;simp only[Nat.mul_one,Nat.add_zero] at d0;have hE:=HR.out.each _ (bA hx);obtain⟨lo,lc,AJ⟩:=Rd.shape hE;simp only at AJ;subst AJ;have hll:l.length<=262144:=by
     have h1:=pW hx;have h2:=xK rs (j+1);have:=Uo.out;simp only at h1;omega
    have HLL:=ag hll;have HE:=ag (Rd.below hE HB.out);have Nn:=ag (dx hx);have HXX:=ag hx;clear hx hc hE hll;go_wp2_with fail;refine(CL HX.out HE.out HLL.out).mono ?_;rintro e w2 ⟨rfl,hb2⟩;have HB2:=ag (HB.out.trans (hb2.mono HB.out.size));have HX2:=ag (blk hb2 HX.out);clear hb2 d0;cases hall:l.all (lY words) with
    |false=>
     have JJ:=ag (show ¬(ic words size ps/\0<=(th:Int)/\(th:Int)<ps.length/\gN words rs=true) from fun h=>by
      have h9:=List.all_eq_true.1 h.2.2.2 _ (bA HXX.out);simp only at h9;rw[hall] at h9;cases h9)
     clear hall;go_wp2_with fail
     go_ret2
     exact⟨HB2.out,.inl ⟨rfl,JJ.out⟩⟩
    |true=>
     have Df:=ag hall;have HA2:=ag (show ∀p∈rs.take (j+1),p.2.all (lY words)=true from fun p hp=>by
      rw[Nn.out] at hp;rcases List.mem_append.1 hp with hp|hp
      ·exact HA.out p hp
      ·simp at hp;subst hp;exact Df.out)
     clear hall;go_wp2_with fail;exact⟨⟨j+1,by omega,by go_num,HA2,HB2,HX2⟩,by simp[intOf];omega⟩
   ·obtain rfl:j=rs.length:=by omega
    have zC:=ag (show gN words rs=true from List.all_eq_true.2 (fun p hp=>HA.out p (by rw[List.take_length];exact hp)));clear HA hj hlt hrl;obtain⟨w2,rfl⟩:∃x,x=wr:=⟨_,rfl⟩;have p0:w2.cell? ⟨bp,0,none⟩=some (.int .i64 words):=af HX.out rfl;have p1:w2.cell? ⟨bp,1,none⟩=some (.slice Gu ps.length nM):=af HX.out rfl;have p2:w2.cell? ⟨bp,2,none⟩=some (.int .i64 size):=af HX.out rfl;obtain⟨⟨xa,xb,xc,xd,xe⟩,hpx⟩:=bW (l:=ps) (k:=th) (by have:=HTL.out;omega);obtain⟨g,off,hto,hg,hc⟩:=fI.at zb (Rd.below HP.out HB.out) hpx;subst hto;have d0:=hc 0 _ rfl;have d1:=hc 1 _ rfl;have d2:=hc 2 _ rfl;have d3:=hc 3 _ rfl;have d4:=hc 4 _ rfl;simp only[Nat.add_zero] at d0;have HPX:=ag hpx;have hti:(th:Int)<(ps.length:Int):=by have:=HTL.out;omega
    have htn:th<ps.length:=by have:=HTL.out;omega
    clear hc hpx;go_wp2_with fail;have HB3:=ag (HB.out.alloc HB.out.size (.cells #[.int .i64 xa,.int .i64 xb,.int .i64 xc,.int .i64 xd,.int .i64 xe] 87));have Vf:=ag (bz (o:=.cells #[.int .i64 xa,.int .i64 xb,.int .i64 xc,.int .i64 xd,.int .i64 xe] 87) HX.out);have W_:=ag (aX w2 (.cells #[.int .i64 xa,.int .i64 xb,.int .i64 xc,.int .i64 xd,.int .i64 xe] 87));have HZ3:=ag (show w2.heap.size+1<=(w2.alloc (.cells #[.int .i64 xa,.int .i64 xb,.int .i64 xc,.int .i64 xd,.int .i64 xe] 87)).heap.size from by rw[World.size_alloc];omega);obtain⟨bl,hbl⟩:∃b,b=w2.heap.size:=⟨_,rfl⟩;have YL:=ag (show w.heap.size<=bl from by have:=HB.out.size;omega);rw[<-hbl] at W_ HZ3⊢;clear hbl p0 p1 p2 d0 d1 d2 d3 d4 hti htn;generalize w2.alloc (.cells #[.int .i64 xa,.int .i64 xb,.int .i64 xc,.int .i64 xd,.int .i64 xe] 87)=w3 at HB3 Vf W_ HZ3⊢;have e1:IntKind.i64.wrap (xa+1)=xa+1:=IntWalk.i64_in _ (by have h9:=(HPD.out.mem _ (bA HPX.out)).1.1;unfold qR at h9;simp only at h9;omega);have p0:w3.cell? ⟨bp,0,none⟩=some (.int .i64 words):=af Vf.out rfl;have p1:w3.cell? ⟨bp,1,none⟩=some (.slice (some ⟨g,off,none⟩) ps.length nM):=af Vf.out rfl;have p2:w3.cell? ⟨bp,2,none⟩=some (.int .i64 size):=af Vf.out rfl;have d0:w3.cell? ⟨bl,0,none⟩=some (.int .i64 xa):=af W_.out rfl;have d1:w3.cell? ⟨bl,1,none⟩=some (.int .i64 xb):=af W_.out rfl;have d2:w3.cell? ⟨bl,2,none⟩=some (.int .i64 xc):=af W_.out rfl;have d3:w3.cell? ⟨bl,3,none⟩=some (.int .i64 xd):=af W_.out rfl;have d4:w3.cell? ⟨bl,4,none⟩=some (.int .i64 xe):=af W_.out rfl;go_region_held3 (fun w'=>w'.cell? ⟨bp,0,none⟩=some (.int .i64 words)/\w'.cell? ⟨bp,1,none⟩=some (.slice (some ⟨g,off,none⟩) ps.length nM)/\w'.cell? ⟨bp,2,none⟩=some (.int .i64 size)/\w'.cell? ⟨bl,0,none⟩=some (.int .i64 xa)/\w'.cell? ⟨bl,1,none⟩=some (.int .i64 xb)/\w'.cell? ⟨bl,2,none⟩=some (.int .i64 xc)/\w'.cell? ⟨bl,3,none⟩=some (.int .i64 xd)/\w'.cell? ⟨bl,4,none⟩=some (.int .i64 xe)) (refine⟨?_,?_,?_,?_,?_,?_,?_,?_⟩<;>first|assumption|simp only[World.cell?_drew, *]|exact pA0 _|exact pA1 _|exact pA2 _|exact dA0 _|exact dA1 _|exact dA2 _|exact dA3 _|exact dA4 _) (first
     |(go_at_call 54;refine(NJ _).mono ?_;rintro e w4 ⟨bc,dK,rfl,hc0,ho0,hb4⟩;have GL:=ag hc0;have HO0:=ag ho0;have yo:=ag (show Below w.heap.size w w4 from HB3.out.drew.trans (hb4.mono HB3.out.size));have HS4:=ag hb4.size;have Zp:=ag (show w4.heap[bp]? =_ from blk hb4 Vf.out);have UG:=ag (show w4.heap[bl]? =_ from blk hb4 W_.out);clear hc0 ho0 hb4 p0 p1 p2 d0 d1 d2 d3 d4;have p0:w4.cell? ⟨bp,0,none⟩=some (.int .i64 words):=af Zp.out rfl;have p1:w4.cell? ⟨bp,1,none⟩=some (.slice (some ⟨g,off,none⟩) ps.length nM):=af Zp.out rfl;have p2:w4.cell? ⟨bp,2,none⟩=some (.int .i64 size):=af Zp.out rfl;have d0:w4.cell? ⟨bl,0,none⟩=some (.int .i64 xa):=af UG.out rfl;have d1:w4.cell? ⟨bl,1,none⟩=some (.int .i64 xb):=af UG.out rfl;have d2:w4.cell? ⟨bl,2,none⟩=some (.int .i64 xc):=af UG.out rfl;have d3:w4.cell? ⟨bl,3,none⟩=some (.int .i64 xd):=af UG.out rfl;have d4:w4.cell? ⟨bl,4,none⟩=some (.int .i64 xe):=af UG.out rfl;have pA0:∀o:Obj,(w4.alloc o).cell? ⟨bp,0,none⟩=some (.int .i64 words):=fun o=>af (bz Zp.out) rfl;have pA1:∀o:Obj,(w4.alloc o).cell? ⟨bp,1,none⟩=some (.slice (some ⟨g,off,none⟩) ps.length nM):=fun o=>af (bz Zp.out) rfl;have pA2:∀o:Obj,(w4.alloc o).cell? ⟨bp,2,none⟩=some (.int .i64 size):=fun o=>af (bz Zp.out) rfl;have dA0:∀o:Obj,(w4.alloc o).cell? ⟨bl,0,none⟩=some (.int .i64 xa):=fun o=>af (bz UG.out) rfl;have dA1:∀o:Obj,(w4.alloc o).cell? ⟨bl,1,none⟩=some (.int .i64 xb):=fun o=>af (bz UG.out) rfl;have dA2:∀o:Obj,(w4.alloc o).cell? ⟨bl,2,none⟩=some (.int .i64 xc):=fun o=>af (bz UG.out) rfl;have dA3:∀o:Obj,(w4.alloc o).cell? ⟨bl,3,none⟩=some (.int .i64 xd):=fun o=>af (bz UG.out) rfl;have dA4:∀o:Obj,(w4.alloc o).cell? ⟨bl,4,none⟩=some (.int .i64 xe):=fun o=>af (bz UG.out) rfl)
     )
    have Zx:=ag (show dS (w4.alloc (.cells (De bc (.slice (some ⟨g,off,none⟩) ps.length nM) (nN words size ⟨xa,xb,xc,xd,xe⟩ th)) 137)) dK w4.heap.size bc (.slice (some ⟨g,off,none⟩) ps.length nM) (nN words size ⟨xa,xb,xc,xd,xe⟩ th) Cd.new 0 from⟨GL.out.alloc _,lG.new GL.out _⟩);have qj:=ag (show Below w.heap.size w (w4.alloc (.cells (De bc (.slice (some ⟨g,off,none⟩) ps.length nM) (nN words size ⟨xa,xb,xc,xd,xe⟩ th)) 137)) from yo.out.alloc yo.out.size _);have Vo:=ag (show ∀q,dK q->w.heap.size<=q from fun q hq=>Nat.le_trans HB3.out.size (HO0.out q hq));have Yn:=ag (HPD.out.ok HPX.out);obtain⟨br,hbr⟩:∃b,b=w4.heap.size:=⟨_,rfl⟩;rw[<-hbr] at Zx⊢
    change Exit.then _ _ Exit.normal _ (w4.alloc (.cells (De bc (.slice (some ⟨g,off,none⟩) ps.length nM) (nN words size ⟨xa,xb,xc,xd,xe⟩ th)) 137))
    generalize w4.alloc (.cells (De bc (.slice (some ⟨g,off,none⟩) ps.length nM) (nN words size ⟨xa,xb,xc,xd,xe⟩ th)) 137)=w5 at Zx qj⊢;obtain⟨t,ht⟩:∃t,t=nN words size ⟨xa,xb,xc,xd,xe⟩ th:=⟨_,rfl⟩;obtain⟨tv,Uj⟩:∃v,v=Value.slice (some ⟨g,off,none⟩) ps.length nM:=⟨_,rfl⟩;rw[<-ht] at Yn;rw[<-ht,<-Uj] at Zx;have Qj:=ag ht;clear hbr ht Uj p0 p1 p2 d0 d1 d2 d3 d4 pA0 pA1 pA2 dA0 dA1 dA2 dA3 dA4 e1 GL HO0;have x0:=Zx.out.x0;go_wp2_with fail;refine(Hg Zx.out Yn.out (by omega)).mono ?_;rintro e w6 ⟨rfl,dG,r1,r2,r3⟩;have HT6:=ag r1;have Az:=ag (bH.below qj.out qj.out.size r2.GZ Vo.out);have HW6:=ag (show ∀q,dG q->w.heap.size<=q from fun q hq=>by
     rcases Nat.lt_or_ge q w5.heap.size with hl|hl
     ·exact Vo.out q (r2.less q hl hq)
     ·exact Nat.le_trans qj.out.size hl)
    clear r1 r2 r3 x0 Zx qj Vo;have hrl:=VK.out;go_wp2_with fail;go_loopw [61] (fun i wr=>∃(j:Nat) (cj:Cd) (oj:Nat->Prop),j<=rs.length/\i= .int .i64 (j:Int)/\Hid (dS wr oj br bc tv t cj (65*j+17*di (rs.take j)))/\Hid (∀q,oj q->w.heap.size<=q)/\Hid (Below w.heap.size w wr)/\Hid (gU t ((rs.take j).map Prod.snd)=cj)) (fun i _=>((rs.length:Int) - intOf i).toNat)
    case atStart=>exact⟨0,_,dG,Nat.zero_le _,rfl,HT6,HW6,Az,ag rfl⟩
    case round=>
     obtain⟨j,cj,oj,hj,rfl,HT,HW,HB,HC⟩:=hrel;clear HT6 HW6 Az;have hrl:=VK.out;have x0:=HT.out.x0;by_cases hlt:j<rs.length
     ·obtain⟨⟨rv,l⟩,hx⟩:=bW hlt;obtain⟨g9,ado,rfl,hg9,hc⟩:=fI.at I1 (Rd.below HR.out.rows HB.out) hx;have d0:=hc 0 _ rfl;simp only[Nat.mul_one,Nat.add_zero] at d0;have hE:=HR.out.each _ (bA hx);obtain⟨lo,lc,AJ⟩:=Rd.shape hE;simp only at AJ;subst AJ;have hst:=pW hx;have hle:=xK rs (j+1);have hto:=Uo.out;simp only at hst;have HLL:=ag (show l.length<=262144 from by omega);have Zh:=ag (show 65*j+17*di (rs.take j)+17*l.length<=1099506000000 from by omega);have HKN:=ag (show 65*j+17*di (rs.take j)+65+17*l.length<=65*(j+1)+17*di (rs.take (j+1)) from by omega);have HE:=ag (show Rv wr oj (.slice lo l.length lc) l from⟨Rd.below hE HB.out,fun hl b hb ho=>by
       obtain⟨b',hb',hlt'⟩:=Rd.lt hE hl;rw[hb] at hb';simp only[bU] at hb';have:=HW.out b ho;omega⟩)
      have HKI:=ag (show ∀o∈l,o.kind=2\/o.kind=3 from fun o ho=>by
       have h9:=List.all_eq_true.1 (List.all_eq_true.1 zC.out _ (bA hx)) o ho;simp only[lY,Bool.and_eq_true,Bool.or_eq_true,decide_eq_true_eq] at h9;exact h9.1.1)
      have Nn:=ag (dx hx);clear hx hc hE hst hle hto;go_wp2_with fail;refine(NL HT.out Yn.out HE.out HKI.out HLL.out Zh.out).mono ?_;rintro e w7 ⟨rfl,jA,r1,r2,r3⟩;have U_:=ag (r1.more HKN.out);have nP:=ag (bH.below HB.out HB.out.size r2.GZ HW.out);have HW7:=ag (show ∀q,jA q->w.heap.size<=q from fun q hq=>by
       rcases Nat.lt_or_ge q wr.heap.size with hl|hl
       ·exact HW.out q (r2.less q hl hq)
       ·exact Nat.le_trans HB.out.size hl)
      have UM:=ag (show gU t ((rs.take (j+1)).map Prod.snd)=cj.WX t l from by
       rw[Nn.out,List.map_append];unfold gU at HC⊢;rw[List.foldl_append,HC.out];rfl)
      clear r1 r2 r3 x0 d0;generalize cj.WX t l=c7 at U_ UM;have x0:=U_.out.x0;obtain⟨oo7,oc7,lo7,lc7,mb7,hin⟩:=U_.out.code;have c3:w7.cell? ⟨bc,3,none⟩=some (.bool c7.over):=af hin.blk rfl;clear hin;cases hov:c7.over with
      |true=>
       rw[hov] at c3;have UU:=ag hov;clear hov;go_wp2_with fail
       go_ret2
       refine⟨nP.out,.inr ⟨th,_,rfl,HPX.out,HPD.out,zC.out,.inl ⟨rfl,j+1,by omega,.inl ?_⟩⟩⟩;rw[<-Qj.out,UM.out];exact UU.out
      |false=>
       rw[hov] at c3;clear hov;go_wp2_with fail;exact⟨⟨j+1,c7,jA,by omega,by go_num,U_,HW7,nP,UM⟩,by simp[intOf];omega⟩
     ·obtain rfl:j=rs.length:=by omega
      have hcj:=HC.out;rw[List.take_length] at hcj;have HCJ:=ag hcj;have Zh:=ag (show 65*rs.length+17*di (rs.take rs.length)<=1099511627776 from by have h1:=xK rs rs.length;have h2:=Uo.out;omega);clear hcj;go_wp2_with fail;refine(K9 HT.out.code).mono ?_;rintro e w7 ⟨rfl,jA,r1,r2,r3⟩;have U_:=ag (HT.out.next r1 r2);have nP:=ag (bH.below HB.out HB.out.size r2.GZ HW.out);have UM:=ag (show(gU t (rs.map Prod.snd)).halt=cj.halt from by rw[HCJ.out]);clear r1 r2 r3 x0;generalize cj.halt=c7 at U_ UM;have x0:=U_.out.x0;obtain⟨oo7,oc7,lo7,lc7,mb7,hin⟩:=U_.out.code;have c3:w7.cell? ⟨bc,3,none⟩=some (.bool c7.over):=af hin.blk rfl;have aa1:=ag hin.few;clear hin;cases hov:c7.over with
      |true=>
       rw[hov] at c3;have UU:=ag hov;clear hov;go_wp2_with fail
       go_ret2
       refine⟨nP.out,.inr ⟨th,_,rfl,HPX.out,HPD.out,zC.out,.inl ⟨rfl,rs.length,aR _,.inr ?_⟩⟩⟩;rw[<-Qj.out,List.take_length,UM.out];exact UU.out
      |false=>
       rw[hov] at c3;have UU:=ag hov;clear hov;go_wp2_with fail;refine(VV U_.out.code Zh.out).mono ?_;rintro e w8 ⟨g8,rfl,hg8,hge,uD⟩;have EK:=ag (nP.out.trans (uD.mono nP.out.size));have HG8:=ag hg8;have Qy:=ag (Nat.le_trans nP.out.size hge);clear hg8 hge uD x0 c3;go_wp2_with fail
       go_ret2
       refine⟨EK.out,.inr ⟨th,_,rfl,HPX.out,HPD.out,zC.out,.inr ⟨g8,?_,?_,Qy.out,?_,?_⟩⟩⟩
       ·rw[<-Qj.out,UM.out];rfl
       ·rw[<-Qj.out,UM.out];exact HG8.out
       ·rw[<-Qj.out,UM.out];exact UU.out
       ·rw[<-Qj.out,UM.out];exact aa1.out
end
end Go.Proofs.YtopdcjimpdalpaaGreat

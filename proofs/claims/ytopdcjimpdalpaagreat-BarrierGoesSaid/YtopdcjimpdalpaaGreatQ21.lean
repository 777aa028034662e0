import Derived.Test.YtopdcjimpdalpaaGreatQ20
namespace Go.Proofs.YtopdcjimpdalpaaGreat
open Go.RowKit Go.Maps
set_option linter.all false
set_option maxHeartbeats 4000000
set_option maxRecDepth 100000
variable {w w' w1 w2:World} {own dG jA:Nat->Prop} {bc k:Nat} {c:Cd}
def y8 (l:List (Nat×Nat)):Nat->Option Nat:=l.foldl (fun a p i=>if p.1=i then some p.2 else a i) (fun _=>none)
def Cd.res (c:Cd) (i:Nat) (o:bM):bM:=match y8 c.jmp i with
 |none=>o
 |some q=>{o with n:=c.aI.getD q 0}
def Cd.done (c:Cd):List bM:=c.ops.mapIdx c.res
theorem Sa (c:Cd):c.done.length=c.ops.length:=by unfold Cd.done;rw[List.length_mapIdx]
structure Zy (D:DataW Unit) (a:Nat->Option Nat):Prop where
 map:IsMap D
 at_:∀(i:Nat) z,D.atKey (.int .i64 (i:Int)) z=match a i with
  |none=>z
  |some q=>.lit (.int .i64 (q:Int))
 has:∀x:Int,Maps.has D (.int .i64 x)=true->∃i:Nat,x=i/\(a i).isSome=true
theorem Zy.put {D:DataW Unit} {a:Nat->Option Nat} (h:Zy D a) (p:Nat×Nat):Zy (D.put (.int .i64 (p.1:Int)) (.lit (.int .i64 (p.2:Int)))) (fun i=>if p.1=i then some p.2 else a i):=by
 refine⟨h.map.put _ _,fun i z=>?_,fun x hx=>?_⟩
 ·by_cases e:p.1=i
  ·subst e;rw[if_pos rfl,atKey_put_same h.map (show WideAt.IsKeyLit (Lit.int .i64 (p.1:Int)) from trivial)]
  ·rw[if_neg e,atKey_put_other (fun q=>e (by simp at q;omega))];exact h.at_ i z
 ·by_cases e:x=(p.1:Int)
  ·exact⟨p.1,e,by simp⟩
  ·rw[has_put_other (fun q=>e (by simpa using q))] at hx;obtain⟨i,h1,h2⟩:=h.has x hx;refine⟨i,h1,?_⟩;rw[if_neg (by omega)];exact h2
theorem RQ (l:List (Nat×Nat)):∀{D:DataW Unit} {a:Nat->Option Nat},Zy D a->Zy (l.foldl (fun D p=>D.put (.int .i64 (p.1:Int)) (.lit (.int .i64 (p.2:Int)))) D) (l.foldl (fun a p i=>if p.1=i then some p.2 else a i) a):=by
 induction l with
 |nil=>intro D a h;exact h
 |cons p l ih=>intro D a h;exact ih (h.put p)
theorem LY (l:List (Nat×Nat)):Zy (JD l) (y8 l):=RQ l ⟨isMap_empty,fun i z=>rfl,fun x hx=>by simp[Maps.has] at hx⟩
theorem O_ (l:List (Nat×Nat)):∀{a:Nat->Option Nat} {i q:Nat},l.foldl (fun a p i=>if p.1=i then some p.2 else a i) a i=some q->(∃p∈l,p.2=q)\/a i=some q:=by
 induction l with
 |nil=>intro a i q h;exact .inr h
 |cons p l ih=>
  intro a i q h;rcases ih h with⟨p',h1,h2⟩|h'
  ·exact .inl ⟨p',List.mem_cons_of_mem _ h1,h2⟩
  ·simp only at h';split at h'
   ·exact .inl ⟨p,List.mem_cons_self,by simpa using h'⟩
   ·exact .inr h'
theorem TB {l:List (Nat×Nat)} {n i q:Nat} (hl:∀p∈l,p.2<n) (h:y8 l i=some q):q<n:=by
 rcases O_ l h with⟨p,h1,h2⟩|h'
 ·rw[<-h2];exact hl p h1
 ·cases h'
def jN (c:Cd) (left:Lit->Bool):List bM:=c.ops.mapIdx (fun i o=>if left (.int .i64 (i:Int))=true then o else c.res i o)
theorem LF (c:Cd) (left:Lit->Bool):(jN c left).length=c.ops.length:=by unfold jN;rw[List.length_mapIdx]
theorem Fz (c:Cd):jN c (Maps.has (JD c.jmp))=c.ops:=by
 unfold jN;refine List.ext_getElem? fun i=>?_
 rw[List.getElem?_mapIdx];cases c.ops[i]? with
 |none=>rfl
 |some o=>
  simp only[Option.map_some,bU];by_cases h:Maps.has (JD c.jmp) (.int .i64 (i:Int))=true
  ·rw[if_pos h]
  ·rw[if_neg h];have hn:Maps.has (JD c.jmp) (.int .i64 (i:Int))=false:=by simpa using h
   have h1:=atKey_of_not_has hn .nil;rw[(LY c.jmp).at_] at h1;unfold Cd.res;cases hj:y8 c.jmp i with
   |none=>rfl
   |some q=>rw[hj] at h1;simp at h1
theorem Ll {c:Cd} {left:Lit->Bool} (h:∀kl,left kl=false):jN c left=c.done:=by
 unfold jN Cd.done;refine List.ext_getElem? fun i=>?_
 rw[List.getElem?_mapIdx,List.getElem?_mapIdx,h];rfl
theorem Pe {c:Cd} {left:Lit->Bool} {p:Nat} {o:bM} (ho:c.ops[p]? =some o) (hl:left (.int .i64 (p:Int))=true):(jN c left)[p]? =some o:=by
 unfold jN;rw[List.getElem?_mapIdx,ho];simp[hl]
theorem IB {c:Cd} {left:Lit->Bool} {p:Nat} {o:bM} (ho:c.ops[p]? =some o):jN c (fun z=>left z && !z.sameKey (.int .i64 (p:Int)))=(jN c left).set p (c.res p o):=by
 have hp:=(bE.1 ho).1;refine List.ext_getElem? fun i=>?_
 by_cases e:p=i
 ·subst e;rw[List.getElem?_set_self (by rw[LF];exact hp)];unfold jN;rw[List.getElem?_mapIdx,ho];simp[Lit.sameKey]
 ·rw[List.getElem?_set_ne e];unfold jN;rw[List.getElem?_mapIdx,List.getElem?_mapIdx];have:(Lit.int .i64 (i:Int)).sameKey (.int .i64 (p:Int))=false:=sameKey_ne (fun q=>e (by simp at q;omega));simp[this]
theorem Lc {c:Cd} {left:Lit->Bool} {p:Nat} (hp:c.ops.length<=p):jN c (fun z=>left z && !z.sameKey (.int .i64 (p:Int)))=jN c left:=by
 unfold jN;refine List.ext_getElem? fun i=>?_
 rw[List.getElem?_mapIdx,List.getElem?_mapIdx];cases ho:c.ops[i]? with
 |none=>rfl
 |some o=>
  have hi:=(bE.1 ho).1;have:(Lit.int .i64 (i:Int)).sameKey (.int .i64 (p:Int))=false:=sameKey_ne (fun q=>by simp at q;omega);simp[this]
theorem PV (l:List bM) {k:Nat} {o:bM} (ho:l[k]? =some o) (y:Int):(l.flatMap bR).set (k*6+5) (.int .i64 y)=(l.set k {o with n:=y}).flatMap bR:=by
 have hk:=(bE.1 ho).1;have hl:=jQ dL l;refine List.ext_getElem? fun j=>?_
 have hq:j=j/6*6+j%6:=by omega
 have hm:j%6<6:=Nat.mod_lt _ (by decide);by_cases hj:j<l.length*6
 ·obtain⟨x,hx⟩:=bW (l:=l) (k:=j/6) (by omega);by_cases e:k=j/6
  ·have hs:(l.set k {o with n:=y})[j/6]? =some {o with n:=y}:=by rw[<-e,List.getElem?_set_self hk]
   rw[<-e,ho] at hx;cases hx;have h1:∀u,(bR {o with n:=y})[j%6]? =some u->((l.set k {o with n:=y}).flatMap bR)[j]? =some u:=fun u hu=>by
    have:=pY dL _ hs (j%6) u hu
    rwa [<-hq] at this
   have h2:∀u,(bR o)[j%6]? =some u->(l.flatMap bR)[j]? =some u:=fun u hu=>by
    have:=pY dL _ (show l[j/6]? =some o from by rw[<-e];exact ho) (j%6) u hu
    rwa [<-hq] at this
   by_cases e5:j%6=5
   ·rw[show k*6+5=j from by omega,List.getElem?_set_self (by omega)];exact(h1 _ (by rw[e5];rfl)).symm
   ·rw[List.getElem?_set_ne (by omega)];obtain⟨u,hu⟩:∃u,(bR o)[j%6]? =some u:=bW (by rw[dL];exact hm);rw[h2 u hu,h1 u ?_];rw[<-hu];have:j%6=0\/j%6=1\/j%6=2\/j%6=3\/j%6=4:=by omega
    rcases this with q|q|q|q|q<;>rw[q]<;>rfl
  ·rw[List.getElem?_set_ne (by omega)];have hs:(l.set k {o with n:=y})[j/6]? =some x:=by rw[List.getElem?_set_ne e,hx]
   obtain⟨u,hu⟩:∃u,(bR x)[j%6]? =some u:=bW (by rw[dL];exact hm);have h1:=pY dL _ hs (j%6) u hu;have h2:=pY dL _ hx (j%6) u hu;rw[<-hq] at h1 h2;rw[h1,h2]
 ·rw[List.getElem?_eq_none (by rw[List.length_set];omega),List.getElem?_eq_none (by rw[jQ dL,List.length_set];omega)]
theorem TM:(Tryz.prog.info? 107).map (·.size)=some 6:=by kernel_rfl
theorem Oo (l:List bM):∀u∈l.flatMap bR,u.oneCell'=true:=by
 intro u hu;obtain⟨x,_,hx⟩:=List.mem_flatMap.1 hu;exact Ip x u hx
def VP (c:Cd) (w:World) (e:Ending) (w':World):Prop:=
 ∃g,e= .returned (.slice (some ⟨g,0,none⟩) c.ops.length c.ops.length)/\w'.heap[g]? =some (.cells (c.done.flatMap bR).toArray 107 (0,0))/\w.heap.size<=g/\Below w.heap.size w w'
theorem VV (h:jG w own bc c k) (hk:k<=1099511627776):
  Calls Tryz.prog 58 #[.pointer (some ⟨bc,0,none⟩)] w (VP c w):=by
 obtain⟨oo,oc,lo,lc,mb,h⟩:=h;have c0:w.cell? ⟨bc,0,none⟩=some (.slice oo c.ops.length oc):=af h.blk rfl;have Bo:=h.few;have HF:=ag Bo;have H:=ag h;obtain⟨i0,hi,hz0,hz1,hz2⟩:=info_parts JF;clear h;go_in;go_wp2_with (at_make;refine mq _ rfl _ _ 57 rfl 107 i0 _ 6 (bR ⟨0,0,0,0,0,0⟩) Tryz.underlying57 hi hz0 hz1 rfl rfl (by decide) _ _ _ _ c.ops.length c.ops.length rfl rfl rfl ?b0 ?b1 ?b2 ?b3 ?_)
 case b0=>rfl
 case b1=>exact aR _
 case b2=>rw[hz2];have:=HF.out;omega
 case b3=>have:=HF.out;unfold maxLen;omega
 intro w1 hg1 hs1 hb1;have HG1:=ag hg1;have H1:=ag (H.out.keep (bH.of_below (S:=fun _=>False) hb1) (fun _ _ e=>e));have c0:w1.cell? ⟨bc,0,none⟩=some (.slice oo c.ops.length oc):=af H1.out.blk rfl;clear hg1;go_wp2_with (refine D9 (o:=⟨some 17,_,_,_,_,_⟩) rfl _ _ 57 57 rfl 107 6 Tryz.underlying57 TM w.heap.size c.ops.length c.ops.length _ (c.ops.flatMap bR) rfl rfl (Rd.iV H1.out.ops) _ _ HG1.out ?d1 (Oo _) ?_)
 case d1=>rw[jQ dL];simp[dL]
 intro w2 hg2 hs2 hc2;have aap:w2.heap[w.heap.size]? =some (.cells (c.ops.flatMap bR).toArray 107 (0,0)):=by
  rw[hg2];rw[List.drop_of_length_le (by simp[dL]),List.append_nil]
 have HG2:=ag aap;have hb2:Below w.heap.size w w2:=hc2.below hb1 (by omega) (by rintro k rfl;exact aR _);have HB2:=ag hb2;have H2:=ag (H.out.keep (bH.of_below (S:=fun _=>False) hb2) (fun _ _ e=>e));have c2:w2.cell? ⟨bc,2,none⟩=some (.map (some mb)):=af H2.out.blk rfl;have HS2:=ag (show w2.heap.size=w.heap.size+1 from by omega);clear hg2 aap HG1 hc2 H1 hb1 hb2 c0 hs1 hs2 hi hz0 hz1 hz2;obtain⟨bl,hbl⟩:∃b,b=w.heap.size:=⟨_,rfl⟩;have YL:=ag hbl;rw[<-hbl] at HG2⊢;clear hbl;go_wp2_with (first
  |(at_range;refine wpList_range_own _ rfl _ 139 rfl 3 169 Nq Tryz.underlying139 _ mb k _ rfl H2.out.mp ?_;intro w3 hrg0 hg0 hs0)
  |go_in)
 go_frame
 have HB3:=ag (show Below w.heap.size w w3 from HB2.out.trans ⟨hg0.os,hg0.tape,hg0.output,hg0.size,fun k hk=>hg0.block k (by have:=HB2.out.size;omega) (by simp)⟩);have Xw:=ag (show w3.heap[bl]? =some (.cells ((jN c (Maps.has (JD c.jmp))).flatMap bR).toArray 107 (0,0)) from by rw[Fz,hg0.block bl (lt_of_block HG2.out) (by simp)];exact HG2.out);obtain⟨br,hbr⟩:∃b,b=w2.heap.size:=⟨_,rfl⟩;have tK:=ag hbr;rw[<-hbr] at hrg0⊢;have HR0:=ag hrg0;clear hrg0 hg0 hs0 hbr c2 H2 HG2;have HN:=ag (show ∀q,(Value.slice lo c.aI.length lc).ownBlock=some q->q<w.heap.size from fun q hq=>H.out.lt q (H.out.ol q hq));go_loopw [4] (fun _ wr=>∃(left:Lit->Bool) (cnt:Nat),Hid (wr.ranges Tryz.prog 3 (plainElem Tryz.prog 169) mb br k (JD c.jmp) left cnt)/\Hid (∀kl,left kl=true->Maps.has (JD c.jmp) kl=true)/\Hid (wr.heap[bl]? =some (.cells ((jN c left).flatMap bR).toArray 107 (0,0)))/\Hid (Below w.heap.size w wr))
  (fun _ wr=>wr.rangeLeft mb br)
 case atStart=>exact⟨_,_,HR0,ag (fun kl h=>h),Xw,HB3⟩
 case round=>
  obtain⟨left,cnt,HR,HH,HG,HB⟩:=hrel;clear HR0 Xw HB3;go_wp2_with (first
   |(at_next;refine wpList_next_ranges_ii _ rfl _ rfl 3 169 .i64 .i64 Nq Tryz.underlying3 Tryz.underlying169 mb br k _ _ _ rfl HR.out ?_ ?_)
   |go_in)
  ·intro hc0 hl0;have HG':=ag (show wr.heap[bl]? =some (.cells (c.done.flatMap bR).toArray 107 (0,0)) from by rw[<-Ll hl0];exact HG.out);clear hc0 hl0;go_wp2_with fail;go_ret;exact⟨bl,rfl,HG'.out,by have:=YL.out;omega,HB.out⟩
  ·intro x y w4 cnt1 hwx hwc hlx hat hrg1 hlt hg1 hs1 hen;obtain⟨p,rfl,hsome⟩:=(LY c.jmp).has x (HH.out _ hlx);obtain⟨q,hq⟩:=Option.isSome_iff_exists.1 hsome;have hy:=hat .nil;rw[(LY c.jmp).at_,hq] at hy;simp only[DataW.lit.injEq,Lit.int.injEq,true_and] at hy;subst hy;have hql:q<c.aI.length:=TB H.out.jl hq;have VS:bl≠br:=by have:=YL.out;have:=tK.out;have:=HS2.out;omega
   have hg4:w4.heap[bl]? =some (.cells ((jN c left).flatMap bR).toArray 107 (0,0)):=by
    rw[hg1.block bl (lt_of_block HG.out) (by simpa using VS)];exact HG.out
   have hb4:Below w.heap.size w w4:=HB.out.trans ⟨hg1.os,hg1.tape,hg1.output,hg1.size,fun k hk=>hg1.block k (by have:=HB.out.size;omega) (by have:=tK.out;have:=HS2.out;simp;omega)⟩;have H4:=ag (H.out.keep (bH.of_below (S:=fun _=>False) hb4) (fun _ _ e=>e));have yo:=ag hb4;have HG4:=ag hg4;have HRG:=ag hrg1;have HQ:=ag hq;have HHL:=ag (show ∀kl,(left kl && !kl.sameKey (.int .i64 (p:Int)))=true->Maps.has (JD c.jmp) kl=true from fun kl h=>HH.out kl (by simp only[Bool.and_eq_true] at h;exact h.1));have Fp:=ag (show w4.rangeLeft mb br<wr.rangeLeft mb br from by rw[hrg1.left_eq,HR.out.left_eq];exact hlt);have HLX:=ag hlx;clear hwx hwc hlx hat hrg1 hlt hg1 hs1 hsome hq hb4 hg4 HH HG HB;by_cases hp:p<c.ops.length
   ·obtain⟨o,ho⟩:=bW hp;have Yv:=Pe ho HLX.out;have hpi:(p:Int)<(c.ops.length:Int):=by omega
    have hqi:(q:Int)<(c.aI.length:Int):=by omega
    have c1:w4.cell? ⟨bc,1,none⟩=some (.slice lo c.aI.length lc):=af H4.out.blk rfl;obtain⟨g,cur,hlo, -,hgb,hcap,hcells⟩:=h_ H4.out.aI (by omega);have d0:w4.cell? ⟨g,q,none⟩=some (.int .i64 (c.aI.getD q 0)):=af hgb (hcells _ _ (by simp[hql]));have d1:w4.cell? ⟨bl,p*6+5,none⟩=some (.int .i64 o.n):=af HG4.out (by have:=pY dL _ Yv 5 _ rfl;simpa using this);have f1:w4.frozen? ⟨bl,p*6+5,none⟩=false:=aJ HG4.out;have abr:=ag (show(w4.setCell ⟨bl,p*6+5,none⟩ (.int .i64 (c.aI.getD q 0))).heap[bl]? =some (.cells ((jN c (fun z=>left z && !z.sameKey (.int .i64 (p:Int)))).flatMap bR).toArray 107 (0,0)) from by
     have h9:=aK (o:=p*6+5) (.int .i64 (c.aI.getD q 0)) HG4.out;rw[h9,IB ho];have hres:c.res p o={o with n:=c.aI.getD q 0}:=by unfold Cd.res;rw[HQ.out]
     rw[hres,<-PV _ Yv];simp)
    have HRS:=ag (show(w4.setCell ⟨bl,p*6+5,none⟩ (.int .i64 (c.aI.getD q 0))).ranges Tryz.prog 3 (plainElem Tryz.prog 169) mb br k (JD c.jmp) (fun z=>left z && !z.sameKey (.int .i64 (p:Int))) cnt1 from
     HRG.out.kept (row:=some bl) ⟨rfl,rfl,rfl,by simp[World.setCell],fun j hj hne=>dO _ _ _ _ (fun e=>hne (by rw[e]))⟩ (by have h1:=H.out.lt _ H.out.om;have h2:=YL.out;simp;omega) (by simpa using VS.symm))
    subst hlo;have HBS:=ag (yo.out.setCell (p:=⟨bl,p*6+5,none⟩) (by have:=YL.out;show w.heap.size<=bl;omega) (.int .i64 (c.aI.getD q 0)));generalize c.aI.getD q 0=y at d0 abr HRS HBS;have ac3:=ag (show(w4.setCell ⟨bl,p*6+5,none⟩ (.int .i64 y)).rangeLeft mb br<wr.rangeLeft mb br from by rw[HRS.out.left_eq,<-HRG.out.left_eq];exact Fp.out);clear hgb hcells ho Yv VS;go_wp2_with fail;exact⟨⟨_,_,HRS,HHL,abr,HBS⟩,ac3.out⟩
   ·have hpi:¬(p:Int)<(c.ops.length:Int):=by omega
    have hge:c.ops.length<=p:=by omega
    have HG5:=ag (show w4.heap[bl]? =some (.cells ((jN c (fun z=>left z && !z.sameKey (.int .i64 (p:Int)))).flatMap bR).toArray 107 (0,0)) from by rw[Lc hge];exact HG4.out);clear VS hge;go_wp2_with fail;exact⟨⟨_,_,HRG,HHL,HG5,yo⟩,Fp.out⟩
end Go.Proofs.YtopdcjimpdalpaaGreat

import Derived.Test.YtopdcjimpdalpaaGreatQ09
import Derived.StillTailTactics
import Derived.Deep.RegionHeld3
import Derived.Maps.RangeWalk
namespace Go.Proofs.YtopdcjimpdalpaaGreat
open Go.RowKit Go.Maps
set_option linter.all false
set_option maxHeartbeats 2000000
set_option maxRecDepth 100000
structure Cd where
 ops:List bM
 aI:List Int
 jmp:List (Nat×Nat)
 over:Bool
def Cd.new:Cd:=⟨[],[],[],false⟩
def Cd.put (c:Cd) (o:bM):Cd:=if 262144<=c.ops.length then {c with over:=true} else {c with ops:=c.ops++[o]}
def Cd.label (c:Cd):Cd:={c with aI:=c.aI++[-1]}
def Cd.here (c:Cd) (l:Nat):Cd:={c with aI:=c.aI.set l c.ops.length}
def Cd.mark (c:Cd) (l:Nat):Cd:={c with jmp:=c.jmp++[(c.ops.length,l)]}
def Cd.jump (c:Cd) (l:Nat):Cd:=(c.mark l).put ⟨6,0,0,0,0,0⟩
def Cd.zero (c:Cd) (r:Int) (l:Nat):Cd:=(c.mark l).put ⟨7,0,r,0,0,0⟩
theorem I7 (c:Cd) (o:bM):(c.put o).aI=c.aI:=by unfold Cd.put;split<;>rfl
def JD (l:List (Nat×Nat)):DataW Unit:=l.foldl (fun D p=>D.put (.int .i64 (p.1:Int)) (.lit (.int .i64 (p.2:Int)))) (.map [])
theorem VC (l:List (Nat×Nat)) (p:Nat×Nat):JD (l++[p])=(JD l).put (.int .i64 (p.1:Int)) (.lit (.int .i64 (p.2:Int))):=by unfold JD;rw[List.foldl_append];rfl
structure Bn (w:World) (own:Nat->Prop) (bc:Nat) (c:Cd) (k:Nat) (oo:Option Addr) (oc:Nat) (lo:Option Addr) (lc:Nat) (mb:Nat):Prop where
 blk:w.heap[bc]? =some (.cells #[.slice oo c.ops.length oc,.slice lo c.aI.length lc,.map (some mb),.bool c.over] 141 (0,0))
 ops:w.ownsRow 0 107 6 (.slice oo c.ops.length oc) c.ops.length (c.ops.flatMap bR)
 aI:w.ownsRow 0 3 1 (.slice lo c.aI.length lc) c.aI.length (c.aI.map (Value.int .i64))
 mp:w.ownsMap Tryz.prog 3 (plainElem Tryz.prog 169) mb k (JD c.jmp)
 ob:own bc
 Wh:∀g,(Value.slice oo c.ops.length oc).ownBlock=some g->own g
 ol:∀g,(Value.slice lo c.aI.length lc).ownBlock=some g->own g
 om:own mb
 lt:∀g,own g->g<w.heap.size
 few:c.ops.length<=262144
 lk:c.aI.length<=k
 jl:∀p∈c.jmp,p.2<c.aI.length
def jG (w:World) (own:Nat->Prop) (bc:Nat) (c:Cd) (k:Nat):Prop:=∃oo oc lo lc mb,Bn w own bc c k oo oc lo lc mb
structure mh (own:Nat->Prop) (w:World) (own':Nat->Prop) (w':World):Prop where
 GZ:bH own w w'
 less:∀g,g<w.heap.size->own' g->own g
variable {w w' w1 w2:World} {own dG jA:Nat->Prop} {bc k:Nat} {c:Cd}
theorem mh.refl (own:Nat->Prop) (w:World):mh own w own w:=⟨bH.refl _ _,fun _ _ h=>h⟩
theorem mh.trans (h:mh own w dG w1) (g:mh dG w1 jA w2):mh own w jA w2:=
 ⟨bH.gY h.GZ g.GZ (fun k hk e=>h.less k hk e),fun k hk e=>h.less k hk (g.less k (by have:=h.GZ.size;omega) e)⟩
theorem mh.alloc (h:mh own w dG w1) (o:Obj):mh own w dG (w1.alloc o):=⟨h.GZ.alloc o,h.less⟩
theorem mh.drewN (h:mh own w dG w1) (n:Nat):mh own w dG (w1.drewN n):=⟨h.GZ.drewN n,h.less⟩
theorem mh.drew (h:mh own w dG w1):mh own w dG w1.drew:=⟨h.GZ.drew,h.less⟩
theorem mh.below (h:mh own w dG w1) (hb:Below w1.heap.size w1 w2):mh own w dG w2:=⟨h.GZ.trans (bH.of_below hb),h.less⟩
theorem SI {a b:Nat} {ca cb:Array Value} {ta tb:TypeId} {fa fb:Nat×Nat} (ha:w.heap[a]? =some (.cells ca ta fa)) (hb:w.heap[b]? =some (.cells cb tb fb)) (h:ta≠tb):a≠b:=fun e=>by
 subst e;rw[ha] at hb;simp only[bU,Obj.cells.injEq] at hb;exact h hb.2.1
theorem Rx {a b n:Nat} {ca:Array Value} {ta:TypeId} {fa:Nat×Nat} {K:TypeId} {R:Value->Option (DataW Unit×List MemPlace)} {D:DataW Unit} (ha:w.heap[a]? =some (.cells ca ta fa)) (hb:w.ownsMap Tryz.prog K R b n D):a≠b:=fun e=>by
 subst e;obtain⟨es,clock,hm,_⟩:=hb;rw[ha] at hm;cases hm
theorem kS {S:Nat->Prop} {b n:Nat} {K:TypeId} {R:Value->Option (DataW Unit×List MemPlace)} {D:DataW Unit} (h:w.ownsMap Tryz.prog K R b n D) (hc:bH S w w') (hn:¬S b):w'.ownsMap Tryz.prog K R b n D:=by
 have hl:=h.lt;obtain⟨es,clock,hm,r⟩:=h;exact⟨es,clock,(hc.block b hl hn).trans hm,r⟩
section
variable {oo lo:Option Addr} {oc lc mb:Nat}
theorem Bn.keep {S:Nat->Prop} (h:Bn w own bc c k oo oc lo lc mb) (hc:bH S w w') (hS:∀g,own g->¬S g):Bn w' own bc c k oo oc lo lc mb:=
 ⟨gV hc h.blk (hS _ h.ob),bD h.ops hc (fun g hg=>hS g (h.Wh g hg)),bD h.aI hc (fun g hg=>hS g (h.ol g hg)),kS h.mp hc (hS _ h.om),h.ob,h.Wh,h.ol,h.om,fun g hg=>Nat.lt_of_lt_of_le (h.lt g hg) hc.size,h.few,h.lk,h.jl⟩
end
theorem jG.keep {S:Nat->Prop} (h:jG w own bc c k) (hc:bH S w w') (hS:∀g,own g->¬S g):jG w' own bc c k:=by
 obtain⟨oo,oc,lo,lc,mb,h⟩:=h;exact⟨oo,oc,lo,lc,mb,h.keep hc hS⟩
theorem jG.alloc (h:jG w own bc c k) (o:Obj):jG (w.alloc o) own bc c k:=h.keep ((bH.refl (fun _=>False) w).alloc o) (fun _ _ e=>e)
theorem jG.drew (h:jG w own bc c k):jG w.drew own bc c k:=h.keep ((bH.refl (fun _=>False) w).drew) (fun _ _ e=>e)
theorem jG.below (h:jG w own bc c k) (hb:Below w.heap.size w w'):jG w' own bc c k:=h.keep (bH.of_below (S:=fun _=>False) hb) (fun _ _ e=>e)
theorem jG.lt (h:jG w own bc c k):∀g,own g->g<w.heap.size:=by
 obtain⟨oo,oc,lo,lc,mb,h⟩:=h;exact h.lt
theorem jG.more (h:jG w own bc c k) {k':Nat} (hk:k<=k'):jG w own bc c k':=by
 obtain⟨oo,oc,lo,lc,mb,h⟩:=h;exact⟨oo,oc,lo,lc,mb,h.blk,h.ops,h.aI,h.mp.mono hk,h.ob,h.Wh,h.ol,h.om,h.lt,h.few,Nat.le_trans h.lk hk,h.jl⟩
structure lG (w:World) (own:Nat->Prop) (b:Nat) (x:Obj):Prop where
 blk:w.heap[b]? =some x
 not_:¬own b
theorem lG.turn {b:Nat} {x:Obj} (h:lG w own b x) (ht:mh own w dG w1):lG w1 dG b x:=
 ⟨gV ht.GZ h.blk h.not_,fun e=>h.not_ (ht.less b (lt_of_block h.blk) e)⟩
theorem lG.alloc {b:Nat} {x:Obj} (h:lG w own b x) (o:Obj):lG (w.alloc o) own b x:=⟨bz h.blk,h.not_⟩
theorem lG.drew {b:Nat} {x:Obj} (h:lG w own b x):lG w.drew own b x:=⟨h.blk,h.not_⟩
theorem lG.below {b:Nat} {x:Obj} (h:lG w own b x) (hb:Below w.heap.size w w'):lG w' own b x:=⟨Go.Proofs.YtopdcjimpdalpaaGreat.blk hb h.blk,h.not_⟩
theorem lG.new (h:jG w own bc c k) (o:Obj):lG (w.alloc o) own w.heap.size o:=⟨aX w o,fun e=>by have:=h.lt _ e;omega⟩
def Ey (own:Nat->Prop) (w:World) (bc:Nat) (c c':Cd) (k':Nat) (v:Value) (e:Ending) (w':World):Prop:=
 e= .returned v/\∃own',jG w' own' bc c' k'/\mh own w own' w'/\c.aI.length<=c'.aI.length
theorem JF:(Tryz.prog.info? 107).map (fun i=>(i.zero,i.size,i.bytes))=some (some (.agg #[.int .u8 0,.int .u8 0,.int .u8 0,.int .u8 0,.int .u8 0,.int .i64 0]),6,16):=by kernel_rfl
theorem zQ:(Tryz.prog.info? 3).map (fun i=>(i.zero,i.size,i.bytes))=some (some (.int .i64 0),1,8):=by kernel_rfl
theorem Ip (o:bM):∀u∈bR o,u.oneCell'=true:=by
 intro u hu;simp[bR] at hu;rcases hu with rfl|rfl|rfl|rfl|rfl|rfl<;>rfl
theorem xY {base size n b g:Nat} {e tb:TypeId} {v:Value} {xs:List Value} {cb:Array Value} {fb:Nat×Nat} (h:w.ownsRow base e size v n xs) (hg:v.ownBlock=some g) (hb:w.heap[b]? =some (.cells cb tb fb)) (ht:e≠tb):g≠b:=by
 rcases h.2 with⟨hv,_⟩|⟨g',cap',cur,hv,hb',hgg,_⟩
 ·rw[hv] at hg;simp[Value.ownBlock] at hg
 ·rw[hv] at hg;simp only[Value.ownBlock,bU] at hg;subst hg;exact SI hgg hb ht
theorem EX {base size n b g m:Nat} {e K:TypeId} {v:Value} {xs:List Value} {R:Value->Option (DataW Unit×List MemPlace)} {D:DataW Unit} (h:w.ownsRow base e size v n xs) (hg:v.ownBlock=some g) (hb:w.ownsMap Tryz.prog K R b m D):g≠b:=by
 rcases h.2 with⟨hv,_⟩|⟨g',cap',cur,hv,hb',hgg,_⟩
 ·rw[hv] at hg;simp[Value.ownBlock] at hg
 ·rw[hv] at hg;simp only[Value.ownBlock,bU] at hg;subst hg;exact Rx hgg hb
theorem GK {base size n m sz g:Nat} {e e':TypeId} {v u:Value} {xs ys:List Value} (h:w.ownsRow base e size v n xs) (hg:v.ownBlock=some g) (h':w.ownsRow base e' sz u m ys) (ht:e≠e'):u.ownBlock≠some g:=fun hu=>by
 rcases h'.2 with⟨hv,_⟩|⟨g',cap',cur,hv,hb',hgg,_⟩
 ·rw[hv] at hu;simp[Value.ownBlock] at hu
 ·rw[hv] at hu;simp only[Value.ownBlock,bU] at hu;subst hu;exact xY h hg hgg ht rfl
section
variable {oo lo ao:Option Addr} {oc lc mb cp:Nat}
theorem Bn.ne (h:Bn w own bc c k oo oc lo lc mb):(∀g,(Value.slice oo c.ops.length oc).ownBlock=some g->g≠bc/\g≠mb/\(Value.slice lo c.aI.length lc).ownBlock≠some g)/\(∀g,(Value.slice lo c.aI.length lc).ownBlock=some g->g≠bc/\g≠mb/\(Value.slice oo c.ops.length oc).ownBlock≠some g)/\mb≠bc:=
 ⟨fun g hg=>⟨xY h.ops hg h.blk (by decide),EX h.ops hg h.mp,GK h.ops hg h.aI (by decide)⟩,fun g hg=>⟨xY h.aI hg h.blk (by decide),EX h.aI hg h.mp,GK h.aI hg h.ops (by decide)⟩,fun e=>Rx h.blk h.mp e.symm⟩
theorem Bn.QH (h:Bn w own bc c k oo oc lo lc mb) (o:bM) (hf:c.ops.length<262144) (hc:bH (fun g=>(Value.slice oo c.ops.length oc).ownBlock=some g) w w1)
  (hown:w1.ownsRow 0 107 6 (.slice ao (c.ops.length+1) cp) (c.ops.length+1) (c.ops.flatMap bR++bR o)) (mI:∀g,(Value.slice ao (c.ops.length+1) cp).ownBlock=some g->(Value.slice oo c.ops.length oc).ownBlock=some g\/w.heap.size<=g):
  ∃own',jG (w1.setCell ⟨bc,0,none⟩ (.slice ao (c.ops.length+1) cp)) own' bc (c.put o) k/\mh own w own' (w1.setCell ⟨bc,0,none⟩ (.slice ao (c.ops.length+1) cp)):=by
 obtain⟨n1,n2,n3⟩:=h.ne;have hput:c.put o={c with ops:=c.ops++[o]}:=by unfold Cd.put;rw[if_neg (by omega)]
 have hb1:=gV hc h.blk (fun e=>(n1 _ e).1 rfl);have hset:=aK (o:=0) (.slice ao (c.ops.length+1) cp) hb1;have hc2:bH (fun g=>g=bc) w1 (w1.setCell ⟨bc,0,none⟩ (.slice ao (c.ops.length+1) cp)):=(bH.refl (fun g=>g=bc) w1).setCell (p:=⟨bc,0,none⟩) (.inl rfl) _;have hl1:=bD h.aI hc (fun g hg=>(n2 g hg).2.2);have hm1:=kS h.mp hc (fun e=>(n1 _ e).2.1 rfl);have hro:∀g,(Value.slice ao (c.ops.length+1) cp).ownBlock=some g->g≠bc:=fun g hg=>xY hown hg hb1 (by decide)
 refine⟨fun g=>own g\/(Value.slice ao (c.ops.length+1) cp).ownBlock=some g,⟨ao,cp,lo,lc,mb,?_⟩,?_,?_⟩
 ·rw[hput];refine⟨?_,?_,bD hl1 hc2 (fun g hg=>(n2 g hg).1),kS hm1 hc2 n3,.inl h.ob,fun g hg=>.inr (by simpa using hg),fun g hg=>.inl (h.ol g hg),.inl h.om,?_,?_,h.lk,h.jl⟩
  ·simpa using hset
  ·have h9:=bD hown hc2 hro;rw[<-mU] at h9;simpa using h9
  ·rintro g (hg|hg)
   ·exact Nat.lt_of_lt_of_le (h.lt g hg) (Nat.le_trans hc.size hc2.size)
   ·exact Nat.lt_of_lt_of_le (hown.lt g hg).2 hc2.size
  ·simp;omega
 ·exact bH.gY (bH.gY (bH.refl own w) hc (fun g _ e=>h.Wh g e)) hc2 (fun g _ e=>by rw[e];exact h.ob)
 ·rintro g hl (hg|hg)
  ·exact hg
  ·rcases mI g hg with e|e
   ·exact h.Wh g e
   ·omega
theorem Bn.OO (h:Bn w own bc c k oo oc lo lc mb) (hc:bH (fun g=>(Value.slice lo c.aI.length lc).ownBlock=some g) w w1)
  (hown:w1.ownsRow 0 3 1 (.slice ao (c.aI.length+1) cp) (c.aI.length+1) (c.aI.map (Value.int .i64)++[.int .i64 (-1)])) (mI:∀g,(Value.slice ao (c.aI.length+1) cp).ownBlock=some g->(Value.slice lo c.aI.length lc).ownBlock=some g\/w.heap.size<=g):
  ∃own',jG (w1.setCell ⟨bc,1,none⟩ (.slice ao (c.aI.length+1) cp)) own' bc c.label (k+1)/\mh own w own' (w1.setCell ⟨bc,1,none⟩ (.slice ao (c.aI.length+1) cp)):=by
 obtain⟨n1,n2,n3⟩:=h.ne;have hb1:=gV hc h.blk (fun e=>(n2 _ e).1 rfl);have hset:=aK (o:=1) (.slice ao (c.aI.length+1) cp) hb1;have hc2:bH (fun g=>g=bc) w1 (w1.setCell ⟨bc,1,none⟩ (.slice ao (c.aI.length+1) cp)):=(bH.refl (fun g=>g=bc) w1).setCell (p:=⟨bc,1,none⟩) (.inl rfl) _;have hl1:=bD h.ops hc (fun g hg=>(n1 g hg).2.2);have hm1:=kS h.mp hc (fun e=>(n2 _ e).2.1 rfl);have hro:∀g,(Value.slice ao (c.aI.length+1) cp).ownBlock=some g->g≠bc:=fun g hg=>xY hown hg hb1 (by decide)
 refine⟨fun g=>own g\/(Value.slice ao (c.aI.length+1) cp).ownBlock=some g,⟨oo,oc,ao,cp,mb,?_⟩,?_,?_⟩
 ·refine⟨?_,bD hl1 hc2 (fun g hg=>(n1 g hg).1),?_,(kS hm1 hc2 n3).mono (Nat.le_succ _),.inl h.ob,fun g hg=>.inl (h.Wh g hg),fun g hg=>.inr (by simpa [Cd.label] using hg),.inl h.om,?_,h.few,?_,?_⟩
  ·simpa [Cd.label] using hset
  ·have h9:=bD hown hc2 hro;simpa [Cd.label] using h9
  ·rintro g (hg|hg)
   ·exact Nat.lt_of_lt_of_le (h.lt g hg) (Nat.le_trans hc.size hc2.size)
   ·exact Nat.lt_of_lt_of_le (hown.lt g hg).2 hc2.size
  ·have:=h.lk;simp[Cd.label];omega
  ·intro p hp;have:=h.jl p hp;simp[Cd.label];omega
 ·exact bH.gY (bH.gY (bH.refl own w) hc (fun g _ e=>h.ol g e)) hc2 (fun g _ e=>by rw[e];exact h.ob)
 ·rintro g hl (hg|hg)
  ·exact hg
  ·rcases mI g hg with e|e
   ·exact h.ol g e
   ·omega
end
theorem SE (h:jG w own bc c k) (o:bM) (hf:262144<=c.ops.length):
  Calls Tryz.prog 95 #[.pointer (some ⟨bc,0,none⟩),.agg #[.int .u8 o.kind,.int .u8 o.bn,.int .u8 o.a,.int .u8 o.b,.int .u8 o.c,.int .i64 o.n]] w (Ey own w bc c (c.put o) k (.tuple #[])):=by
 obtain⟨oo,oc,lo,lc,mb,h⟩:=h;have c0:w.cell? ⟨bc,0,none⟩=some (.slice oo c.ops.length oc):=af h.blk rfl;have c3:w.cell? ⟨bc,3,none⟩=some (.bool c.over):=af h.blk rfl;have f3:w.frozen? ⟨bc,3,none⟩=false:=aJ h.blk;have Bo:=h.few;have hg:(c.ops.length:Int)>=262144:=by omega
 have hbl:=lt_of_block h.blk;have H:=ag h;have HF:=ag hf;clear h hf Bo;go_in;go_wp2_with fail;go_end0;have hput:c.put o={c with over:=true}:=by unfold Cd.put;rw[if_pos HF.out]
 have hc1:bH (fun g=>g=bc) w ((w.setCell ⟨bc,3,none⟩ (.bool true)).alloc (.cells #[.int .u8 o.kind,.int .u8 o.bn,.int .u8 o.a,.int .u8 o.b,.int .u8 o.c,.int .i64 o.n] 107)):=((bH.refl (fun g=>g=bc) w).setCell (p:=⟨bc,3,none⟩) (.inl rfl) _).alloc _;obtain⟨n1,n2,n3⟩:=H.out.ne;have hset:=bz (o:=.cells #[.int .u8 o.kind,.int .u8 o.bn,.int .u8 o.a,.int .u8 o.b,.int .u8 o.c,.int .i64 o.n] 107) (aK (o:=3) (.bool true) H.out.blk);refine⟨rfl,own,⟨oo,oc,lo,lc,mb,?_⟩,⟨bH.gY (bH.refl own w) hc1 (fun g _ (e:g=bc)=>by rw[e];exact H.out.ob),fun _ _ e=>e⟩,by rw[I7];exact aR _⟩;rw[hput];exact⟨by simpa using hset,bD H.out.ops hc1 (fun g hg=>(n1 g hg).1),bD H.out.aI hc1 (fun g hg=>(n2 g hg).1),kS H.out.mp hc1 n3,H.out.ob,H.out.Wh,H.out.ol,H.out.om,fun g hg=>Nat.lt_of_lt_of_le (H.out.lt g hg) hc1.size,H.out.few,H.out.lk,H.out.jl⟩
theorem Q_ (h:jG w own bc c k) (o:bM) (hf:c.ops.length<262144):
  Calls Tryz.prog 95 #[.pointer (some ⟨bc,0,none⟩),.agg #[.int .u8 o.kind,.int .u8 o.bn,.int .u8 o.a,.int .u8 o.b,.int .u8 o.c,.int .i64 o.n]] w (Ey own w bc c (c.put o) k (.tuple #[])):=by
 obtain⟨oo,oc,lo,lc,mb,h⟩:=h;have c0:w.cell? ⟨bc,0,none⟩=some (.slice oo c.ops.length oc):=af h.blk rfl;have hg:¬((c.ops.length:Int)>=262144):=by omega
 have hbl:=lt_of_block h.blk;have H:=ag h;have HF:=ag hf;obtain⟨i0,hi,hz0,hz1,hz2⟩:=info_parts JF;have HI:=ag hi;have HZ0:=ag hz0;have HZ1:=ag hz1;have HZ2:=ag hz2;clear h hi hz0 hz1 hz2;go_in;go_wp2_with fail;obtain⟨wa,hwa⟩:∃x,x=w.alloc (.cells #[.int .u8 o.kind,.int .u8 o.bn,.int .u8 o.a,.int .u8 o.b,.int .u8 o.c,.int .i64 o.n] 107):=⟨_,rfl⟩;have Ng:Below w.heap.size w wa:=by rw[hwa];exact(aQ _ _).alloc (aR _) _
 have XC:=ag Ng;have a0:wa.cell? ⟨bc,0,none⟩=some (.slice oo c.ops.length oc):=(Ng.cell hbl).trans c0;have a1:∀o:Obj,(wa.alloc o).cell? ⟨bc,0,none⟩=some (.slice oo c.ops.length oc):=fun o=>by rw[World.cell?_alloc_lt _ _ _ (by have:=Ng.size;show bc<_;omega)];exact a0
 have hnew:wa.heap[w.heap.size]? =some (.cells #[.int .u8 o.kind,.int .u8 o.bn,.int .u8 o.a,.int .u8 o.b,.int .u8 o.c,.int .i64 o.n] 107 (0,0)):=by rw[hwa];exact aX _ _
 have d0:wa.cell? ⟨w.heap.size,0,none⟩=some (.int .u8 o.kind):=af hnew rfl;have d1:wa.cell? ⟨w.heap.size,1,none⟩=some (.int .u8 o.bn):=af hnew rfl;have d2:wa.cell? ⟨w.heap.size,2,none⟩=some (.int .u8 o.a):=af hnew rfl;have d3:wa.cell? ⟨w.heap.size,3,none⟩=some (.int .u8 o.b):=af hnew rfl;have d4:wa.cell? ⟨w.heap.size,4,none⟩=some (.int .u8 o.c):=af hnew rfl;have d5:wa.cell? ⟨w.heap.size,5,none⟩=some (.int .i64 o.n):=af hnew rfl;have HA:=ag (H.out.keep (bH.of_below (S:=fun _=>False) Ng) (fun _ _ e=>e));rw[<-hwa];obtain⟨bx,hbx⟩:∃x,x=w.heap.size:=⟨_,rfl⟩;rw[<-hbx] at d0 d1 d2 d3 d4 d5⊢;clear hwa Ng c0 hnew hbx hbl
 go_region_law (first
  |(refine kE (by rfl) (.tmp 17) (.tmp 19) 57 (by rfl) 0 107 i0 _ 6 16 Tryz.underlying57 HI.out HZ0.out HZ1.out HZ2.out rfl (by decide) (.slice oo c.ops.length oc) c.ops.length (c.ops.flatMap bR) (by simp[Act.eval]) (by exact bD HA.out.ops (((bH.refl (fun _=>False) wa).alloc _).drew) (fun _ _=>id)) ⟨wa.heap.size,0,none⟩ 1 1 (by decide) (bR o) (by simp[Act.eval]) rfl (by exact kK (aX wa _)) (Ip _) (by have:=HF.out;unfold maxLen;omega) (by have:=HF.out;omega) (Nat.zero_le _) ?_;intro ao cp w5 h1 h2 h3;have UJ:=ag h1;have HF5:=ag h2;have HG5:=ag h3;have J9:=(((bH.refl (fun g=>(Value.slice oo c.ops.length oc).ownBlock=some g) wa).alloc _).drew).grown h3 (fun g hg=>.inl hg);have Vx:=ag J9;have hb5:=gV J9 HA.out.blk (fun e=>(HA.out.ne.1 _ e).1 rfl);have s0:w5.cell? ⟨bc,0,none⟩=some (.slice oo c.ops.length oc):=af hb5 rfl;have s1:w5.frozen? ⟨bc,0,none⟩=false:=aJ hb5;clear h1 h2 h3 J9 hb5))
 all_goals (
  go_wp2_with fail;go_end0;have hsz:wa.heap.size<(wa.alloc (.cells (bR o).toArray 107)).heap.size:=by rw[World.size_alloc];omega
  obtain⟨own',r1,r2⟩:=HA.out.QH o HF.out Vx.out UJ.out (fun g hg=>(HF5.out g hg).imp id (fun e=>by
   have e2:(wa.alloc (.cells (bR o).toArray 107)).heap.size<=g:=e;omega))
  exact⟨rfl,own',r1,((mh.refl own w).below XC.out).trans r2,by rw[I7];exact aR _⟩)
theorem mJ (h:jG w own bc c k) (o:bM):
  Calls Tryz.prog 95 #[.pointer (some ⟨bc,0,none⟩),.agg #[.int .u8 o.kind,.int .u8 o.bn,.int .u8 o.a,.int .u8 o.b,.int .u8 o.c,.int .i64 o.n]] w (Ey own w bc c (c.put o) k (.tuple #[])):=by
 rcases Nat.lt_or_ge c.ops.length 262144 with hf|hf
 ·exact Q_ h o hf
 ·exact SE h o hf
theorem Oh (h:jG w own bc c k) (hk:k<=1099511627776):
  Calls Tryz.prog 85 #[.pointer (some ⟨bc,0,none⟩)] w (Ey own w bc c c.label (k+1) (.int .i64 (c.aI.length:Int))):=by
 obtain⟨oo,oc,lo,lc,mb,h⟩:=h;have c1:w.cell? ⟨bc,1,none⟩=some (.slice lo c.aI.length lc):=af h.blk rfl;have hlk:=h.lk;have Zk:=ag (show c.aI.length<=1099511627776 from by omega);have hsub:IntKind.i64.wrap (((c.aI.length+1:Nat):Int) - 1)=(c.aI.length:Int):=by rw[show((c.aI.length+1:Nat):Int) - 1=(c.aI.length:Int) from by omega];exact IntWalk.i64_in _ (by omega)
 have hsub2:IntKind.i64.wrap ((c.aI.length:Int)+1 - 1)=(c.aI.length:Int):=by rw[show(c.aI.length:Int)+1 - 1=(c.aI.length:Int) from by omega];exact IntWalk.i64_in _ (by omega)
 have aeR:(c.aI.length:Int)+1 - 1=(c.aI.length:Int):=by omega
 have aeF:IntKind.i64.wrap (c.aI.length:Int)=(c.aI.length:Int):=IntWalk.i64_in _ (by omega);obtain⟨i0,hi,hz0,hz1,hz2⟩:=info_parts zQ;have H:=ag h;clear h hlk;go_in;go_wp2_with (at_builtin;refine fe _ rfl _ _ 72 rfl 0 3 i0 _ 1 8 Tryz.underlying72 hi hz0 hz1 hz2 rfl (by decide) _ _ _ rfl (bD H.out.aI ((bH.refl (fun _=>False) w).alloc _) (fun _ _=>id)) ⟨w.heap.size,0,none⟩ 1 1 [.int .i64 (-1)] rfl rfl ?c1 ?c2 ?c3 ?c4 ?c5 ?_)
 case c1=>exact kK (aX _ _)
 case c2=>intro u hu;simp at hu;subst hu;rfl
 case c3=>have:=Zk.out;unfold maxLen;omega
 case c4=>have:=Zk.out;omega
 case c5=>exact Nat.zero_le _
 intro ao cp w5 h1 h2 h3;have J9:=((bH.refl (fun g=>(Value.slice lo c.aI.length lc).ownBlock=some g) w).alloc _).grown h3 (fun g hg=>.inl hg);have hb5:=gV J9 H.out.blk (fun e=>(H.out.ne.2.1 _ e).1 rfl);have s0:w5.cell? ⟨bc,1,none⟩=some (.slice lo c.aI.length lc):=af hb5 rfl;have s1:w5.frozen? ⟨bc,1,none⟩=false:=aJ hb5;obtain⟨own',r1,r2⟩:=H.out.OO J9 h1 (fun g hg=>(h2 g hg).imp id (fun e=>by
  first|(rw[World.size_alloc] at e;omega)|omega))
 have s2:(w5.setCell ⟨bc,1,none⟩ (.slice ao (c.aI.length+1) cp)).cell? ⟨bc,1,none⟩=some (.slice ao (c.aI.length+1) cp):=af (aK _ hb5) rfl;have HR1:=ag r1;have HR2:=ag r2;clear h1 h2 h3 J9 hb5 r1 r2 c1 hi hz0 hz1 hz2;go_wp2_with fail;go_ret;exact⟨rfl,own',HR1.out,HR2.out,by simp[Cd.label]⟩
theorem Ld {base g n cap o sz:Nat} {e:TypeId} {cs:List Value} (h:w.ownsRow base e sz (.slice (some ⟨g,0,none⟩) n cap) n cs) (u:Value):(w.setCell ⟨g,o,none⟩ u).ownsRow base e sz (.slice (some ⟨g,0,none⟩) n cap) n (cs.set o u):=by
 rcases h.2 with⟨hv',_⟩|⟨g',cap',cur,hv',hb,hg,hc,hm,hs,ht⟩
 ·simp at hv'
 ·simp only[Value.slice.injEq,bU,Addr.mk.injEq,and_true,true_and] at hv';obtain⟨rfl,rfl⟩:=hv';refine⟨by rw[List.length_set];exact h.1,.inr ⟨g,cap,_,rfl,hb,aK u hg,hc,hm,by simpa using hs,?_⟩⟩;rw[Array.toList_setIfInBounds,List.take_set,ht]
theorem Uf (h:jG w own bc c k) {l:Nat} (hl:l<c.aI.length):
  Calls Tryz.prog 86 #[.pointer (some ⟨bc,0,none⟩),.int .i64 (l:Int)] w (Ey own w bc c (c.here l) k (.tuple #[])):=by
 obtain⟨oo,oc,lo,lc,mb,h⟩:=h;have c0:w.cell? ⟨bc,0,none⟩=some (.slice oo c.ops.length oc):=af h.blk rfl;have c1:w.cell? ⟨bc,1,none⟩=some (.slice lo c.aI.length lc):=af h.blk rfl;obtain⟨g,cur,hlo, -,hgb,hcap,hcells⟩:=h_ h.aI (by omega);subst hlo;have hv:(c.aI.map (Value.int .i64))[l]? =some (.int .i64 (c.aI.getD l 0)):=by simp[hl]
 have d0:w.cell? ⟨g,l,none⟩=some (.int .i64 (c.aI.getD l 0)):=af hgb (hcells _ _ hv);have f0:w.frozen? ⟨g,l,none⟩=false:=aJ hgb;have q1:(l:Int)<(c.aI.length:Int):=by omega
 have H:=ag h;generalize c.aI.getD l 0=old at d0;clear h hgb hcells hv;go_in;go_wp2_with fail;go_still_tail 11,(by kernel_rfl)
 go_wp2_with fail;go_end0;obtain⟨n1,n2,n3⟩:=H.out.ne;have hc:bH (fun x=>x=g) w (w.setCell ⟨g,l,none⟩ (.int .i64 (c.ops.length:Int))).drew:=((bH.refl (fun x=>x=g) w).setCell (p:=⟨g,l,none⟩) (.inl rfl) _).drew;have hg:=n2 g rfl;refine⟨rfl,own,⟨oo,oc,some ⟨g,0,none⟩,lc,mb,?_⟩,⟨bH.gY (bH.refl own w) hc (fun x _ e=>by rw[e];exact H.out.ol g rfl),fun _ _ e=>e⟩,by simp[Cd.here]⟩;have hls:(c.here l).aI.length=c.aI.length:=by simp[Cd.here]
 refine⟨?_,bD H.out.ops hc (fun x hx e=>hg.2.2 (by rw[<-e];exact hx)),?_,kS H.out.mp hc (fun e=>hg.2.1 e.symm),H.out.ob,H.out.Wh,?_,H.out.om,fun x hx=>Nat.lt_of_lt_of_le (H.out.lt x hx) hc.size,H.out.few,by rw[hls];exact H.out.lk,?_⟩
 ·rw[hls];exact gV hc H.out.blk (fun e=>hg.1 e.symm)
 ·rw[hls];have h9:=Ld (o:=l) H.out.aI (.int .i64 (c.ops.length:Int));rw[<-List.map_set] at h9;exact h9
 ·rw[hls];exact H.out.ol
 ·intro p hp;rw[hls];exact H.out.jl p hp
theorem Nq:Keyed Tryz.prog 3:=int_keyed Tryz.underlying3
theorem Bn.marked {oo lo:Option Addr} {oc lc mb l:Nat} (h:Bn w own bc c k oo oc lo lc mb) (hl:l<c.aI.length) (hm:w1.ownsMap Tryz.prog 3 (plainElem Tryz.prog 169) mb (k+1) ((JD c.jmp).put (.int .i64 (c.ops.length:Int)) (.lit (.int .i64 (l:Int))))) (hg:w.grownBy w1 (some mb)):
  jG w1 own bc (c.mark l) (k+1)/\mh own w own w1:=by
 obtain⟨n1,n2,n3⟩:=h.ne;have hc:bH (fun g=>g=mb) w w1:=(bH.refl (fun g=>g=mb) w).grown hg (fun g hg=>.inl (by simpa using hg.symm));refine⟨⟨oo,oc,lo,lc,mb,⟨gV hc h.blk n3.symm,bD h.ops hc (fun g hg=>(n1 g hg).2.1),bD h.aI hc (fun g hg=>(n2 g hg).2.1),?_,h.ob,h.Wh,h.ol,h.om,fun g hg=>Nat.lt_of_lt_of_le (h.lt g hg) hc.size,h.few,Nat.le_succ_of_le h.lk,?_⟩⟩,⟨bH.gY (bH.refl own w) hc (fun g _ e=>by rw[e];exact h.om),fun _ _ e=>e⟩⟩
 ·rw[show(c.mark l).jmp=c.jmp++[(c.ops.length,l)] from rfl,VC];exact hm
 ·intro p hp;rcases List.mem_append.1 hp with hp|hp
  ·exact h.jl p hp
  ·simp at hp;rw[hp];exact hl
theorem yC {x:Nat} (h:x<=1099511627776):(Lit.int .i64 (x:Int)).wf=true:=WalkArith.wf_i64 (by omega)
theorem S_ (h:jG w own bc c k) {l:Nat} (hl:l<c.aI.length) (hk:k<=1099511627776):
  Calls Tryz.prog 93 #[.pointer (some ⟨bc,0,none⟩),.int .i64 (l:Int)] w (Ey own w bc c (c.jump l) (k+1) (.tuple #[])):=by
 obtain⟨oo,oc,lo,lc,mb,h⟩:=h;have c0:w.cell? ⟨bc,0,none⟩=some (.slice oo c.ops.length oc):=af h.blk rfl;have c2:w.cell? ⟨bc,2,none⟩=some (.map (some mb)):=af h.blk rfl;have hlk:=h.lk;have Bo:=h.few;have HKEY:Hid (keyOf Tryz.prog 3 (.int .i64 (c.ops.length:Int))=some (.int .i64 (c.ops.length:Int))):=ag (keyOf_int_mk Tryz.underlying3 (yC (by omega)));have WM:=ag (yC (x:=l) (by omega));have HK:=ag hk;have HL:=ag hl;have H:=ag h;clear h hlk Bo hk hl;go_in;go_wp2_with fail;go_still_tail 10,(by kernel_rfl)
 go_wp2_with (at_mapUpdate;refine wpList_mapUpdate_own _ rfl _ _ _ 139 rfl 3 169 Nq Tryz.underlying139 _ mb k _ rfl H.out.mp.drew (by have:=HK.out;unfold maxLen;omega) _ _ _ rfl rfl HKEY.out _ [] (plainElem_int Tryz.underlying169 WM.out) ?_);intro w5 hown hgrow;obtain⟨r1,r2⟩:=H.out.marked HL.out hown (show w.grownBy w5 (some mb) from⟨hgrow.os,hgrow.tape,hgrow.output,hgrow.size,hgrow.block⟩);have HR1:=ag r1;have HR2:=ag r2;clear hown hgrow r1 r2 c0 c2;go_wp2_with fail;refine(mJ HR1.out ⟨6,0,0,0,0,0⟩).mono ?_;rintro e w6 ⟨rfl,own',r3,r4,r5⟩;go_wp2_with fail;go_end0;exact⟨rfl,own',r3,HR2.out.trans r4,r5⟩
theorem Rw (h:jG w own bc c k) (r:Int) {l:Nat} (hl:l<c.aI.length) (hk:k<=1099511627776):
  Calls Tryz.prog 123 #[.pointer (some ⟨bc,0,none⟩),.int .u8 r,.int .i64 (l:Int)] w (Ey own w bc c (c.zero r l) (k+1) (.tuple #[])):=by
 obtain⟨oo,oc,lo,lc,mb,h⟩:=h;have c0:w.cell? ⟨bc,0,none⟩=some (.slice oo c.ops.length oc):=af h.blk rfl;have c2:w.cell? ⟨bc,2,none⟩=some (.map (some mb)):=af h.blk rfl;have hlk:=h.lk;have Bo:=h.few;have HKEY:Hid (keyOf Tryz.prog 3 (.int .i64 (c.ops.length:Int))=some (.int .i64 (c.ops.length:Int))):=ag (keyOf_int_mk Tryz.underlying3 (yC (by omega)));have WM:=ag (yC (x:=l) (by omega));have HK:=ag hk;have HL:=ag hl;have H:=ag h;clear h hlk Bo hk hl;go_in;go_wp2_with fail;go_still_tail 10,(by kernel_rfl)
 go_wp2_with (at_mapUpdate;refine wpList_mapUpdate_own _ rfl _ _ _ 139 rfl 3 169 Nq Tryz.underlying139 _ mb k _ rfl H.out.mp.drew (by have:=HK.out;unfold maxLen;omega) _ _ _ rfl rfl HKEY.out _ [] (plainElem_int Tryz.underlying169 WM.out) ?_);intro w5 hown hgrow;obtain⟨r1,r2⟩:=H.out.marked HL.out hown (show w.grownBy w5 (some mb) from⟨hgrow.os,hgrow.tape,hgrow.output,hgrow.size,hgrow.block⟩);have HR1:=ag r1;have HR2:=ag r2;clear hown hgrow r1 r2 c0 c2;go_wp2_with fail;refine(mJ HR1.out ⟨7,0,r,0,0,0⟩).mono ?_;rintro e w6 ⟨rfl,own',r3,r4,r5⟩;go_wp2_with fail;go_end0;exact⟨rfl,own',r3,HR2.out.trans r4,r5⟩
theorem NJ (w:World):Calls Tryz.prog 54 #[] w fun e w'=>∃bc own,e= .returned (.pointer (some ⟨bc,0,none⟩))/\jG w' own bc Cd.new 0/\(∀g,own g->w.heap.size<=g)/\Below w.heap.size w w':=by
 have hmm:=@run_makeMap Tryz.prog;go_in;go_wp2_with fail;go_ret;refine⟨w.heap.size+1,fun g=>g=w.heap.size\/g=w.heap.size+1,rfl,⟨none,0,none,0,w.heap.size,?_⟩,fun g hg=>by omega,((aQ _ _).alloc (aR _) _).alloc (by simp) _⟩;refine⟨j3 _ _ _,World.ownsRow_nil _ _ _ _,World.ownsRow_nil _ _ _ _,(World.ownsMap_made _ _ _ _).alloc _,.inr rfl,fun g hg=>by simp[Value.ownBlock] at hg,fun g hg=>by simp[Value.ownBlock] at hg,.inl rfl,fun g hg=>by simp;omega,by simp[Cd.new],by simp[Cd.new],fun p hp=>by simp[Cd.new] at hp⟩
end Go.Proofs.YtopdcjimpdalpaaGreat

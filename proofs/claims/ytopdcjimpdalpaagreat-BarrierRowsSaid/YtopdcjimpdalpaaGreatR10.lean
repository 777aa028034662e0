import Derived.Test.YtopdcjimpdalpaaGreatR09
import Derived.StillTailTactics
import Derived.Deep.RegionHeld3
import Derived.Maps.RangeWalk
namespace Go.Proofs.YtopdcjimpdalpaaGreat
open Go.RowKit Go.Maps
set_option linter.all false
set_option maxHeartbeats 2000000
set_option maxRecDepth 100000
structure Cd where
 ops:List bR
 aO:List Int
 jmp:List (Nat×Nat)
 over:Bool
def Cd.new:Cd:=⟨[],[],[],false⟩
def Cd.put (c:Cd) (o:bR):Cd:=if 262144<=c.ops.length then {c with over:=true} else {c with ops:=c.ops++[o]}
def Cd.label (c:Cd):Cd:={c with aO:=c.aO++[-1]}
def Cd.here (c:Cd) (l:Nat):Cd:={c with aO:=c.aO.set l c.ops.length}
def Cd.mark (c:Cd) (l:Nat):Cd:={c with jmp:=c.jmp++[(c.ops.length,l)]}
def Cd.jump (c:Cd) (l:Nat):Cd:=(c.mark l).put ⟨6,0,0,0,0,0⟩
def Cd.zero (c:Cd) (r:Int) (l:Nat):Cd:=(c.mark l).put ⟨7,0,r,0,0,0⟩
theorem JO (c:Cd) (o:bR):(c.put o).aO=c.aO:=by unfold Cd.put;split<;>rfl
def JD (l:List (Nat×Nat)):DataW Unit:=l.foldl (fun D p=>D.put (.int .i64 (p.1:Int)) (.lit (.int .i64 (p.2:Int)))) (.map [])
theorem Xr (l:List (Nat×Nat)) (p:Nat×Nat):JD (l++[p])=(JD l).put (.int .i64 (p.1:Int)) (.lit (.int .i64 (p.2:Int))):=by unfold JD;rw[List.foldl_append];rfl
structure BU (w:World) (own:Nat->Prop) (bc:Nat) (c:Cd) (k:Nat) (oo:Option Addr) (oc:Nat) (lo:Option Addr) (lc:Nat) (mb:Nat):Prop where
 blk:w.heap[bc]? =some (.cells #[.slice oo c.ops.length oc,.slice lo c.aO.length lc,.map (some mb),.bool c.over] 141 (0,0))
 ops:w.ownsRow 0 107 6 (.slice oo c.ops.length oc) c.ops.length (c.ops.flatMap b_)
 aO:w.ownsRow 0 3 1 (.slice lo c.aO.length lc) c.aO.length (c.aO.map (Value.int .i64))
 mp:w.ownsMap Tryz.prog 3 (plainElem Tryz.prog 169) mb k (JD c.jmp)
 ob:own bc
 Xy:∀g,(Value.slice oo c.ops.length oc).ownBlock=some g->own g
 ol:∀g,(Value.slice lo c.aO.length lc).ownBlock=some g->own g
 om:own mb
 lt:∀g,own g->g<w.heap.size
 few:c.ops.length<=262144
 lk:c.aO.length<=k
 jl:∀p∈c.jmp,p.2<c.aO.length
def jZ (w:World) (own:Nat->Prop) (bc:Nat) (c:Cd) (k:Nat):Prop:=∃oo oc lo lc mb,BU w own bc c k oo oc lo lc mb
structure nC (own:Nat->Prop) (w:World) (own':Nat->Prop) (w':World):Prop where
 Ja:bz own w w'
 less:∀g,g<w.heap.size->own' g->own g
variable {w w' w1 w2:World} {own dM jO:Nat->Prop} {bc k:Nat} {c:Cd}
theorem nC.refl (own:Nat->Prop) (w:World):nC own w own w:=⟨bz.refl _ _,fun _ _ h=>h⟩
theorem nC.trans (h:nC own w dM w1) (g:nC dM w1 jO w2):nC own w jO w2:=
 ⟨bz.dY h.Ja g.Ja (fun k hk e=>h.less k hk e),fun k hk e=>h.less k hk (g.less k (by have:=h.Ja.size;omega) e)⟩
theorem nC.alloc (h:nC own w dM w1) (o:Obj):nC own w dM (w1.alloc o):=⟨h.Ja.alloc o,h.less⟩
theorem nC.drewN (h:nC own w dM w1) (n:Nat):nC own w dM (w1.drewN n):=⟨h.Ja.drewN n,h.less⟩
theorem nC.drew (h:nC own w dM w1):nC own w dM w1.drew:=⟨h.Ja.drew,h.less⟩
theorem nC.below (h:nC own w dM w1) (hb:Below w1.heap.size w1 w2):nC own w dM w2:=⟨h.Ja.trans (bz.of_below hb),h.less⟩
theorem Tz {a b:Nat} {ca cb:Array Value} {ta tb:TypeId} {fa fb:Nat×Nat} (ha:w.heap[a]? =some (.cells ca ta fa)) (hb:w.heap[b]? =some (.cells cb tb fb)) (h:ta≠tb):a≠b:=fun e=>by
 subst e;rw[ha] at hb;simp only[bH,Obj.cells.injEq] at hb;exact h hb.2.1
theorem V3 {a b n:Nat} {ca:Array Value} {ta:TypeId} {fa:Nat×Nat} {K:TypeId} {R:Value->Option (DataW Unit×List MemPlace)} {D:DataW Unit} (ha:w.heap[a]? =some (.cells ca ta fa)) (hb:w.ownsMap Tryz.prog K R b n D):a≠b:=fun e=>by
 subst e;obtain⟨es,clock,hm,_⟩:=hb;rw[ha] at hm;cases hm
theorem l9 {S:Nat->Prop} {b n:Nat} {K:TypeId} {R:Value->Option (DataW Unit×List MemPlace)} {D:DataW Unit} (h:w.ownsMap Tryz.prog K R b n D) (hc:bz S w w') (hn:¬S b):w'.ownsMap Tryz.prog K R b n D:=by
 have hl:=h.lt;obtain⟨es,clock,hm,r⟩:=h;exact⟨es,clock,(hc.block b hl hn).trans hm,r⟩
section
variable {oo lo:Option Addr} {oc lc mb:Nat}
theorem BU.keep {S:Nat->Prop} (h:BU w own bc c k oo oc lo lc mb) (hc:bz S w w') (hS:∀g,own g->¬S g):BU w' own bc c k oo oc lo lc mb:=
 ⟨dG hc h.blk (hS _ h.ob),aX h.ops hc (fun g hg=>hS g (h.Xy g hg)),aX h.aO hc (fun g hg=>hS g (h.ol g hg)),l9 h.mp hc (hS _ h.om),h.ob,h.Xy,h.ol,h.om,fun g hg=>Nat.lt_of_lt_of_le (h.lt g hg) hc.size,h.few,h.lk,h.jl⟩
end
theorem jZ.keep {S:Nat->Prop} (h:jZ w own bc c k) (hc:bz S w w') (hS:∀g,own g->¬S g):jZ w' own bc c k:=by
 obtain⟨oo,oc,lo,lc,mb,h⟩:=h;exact⟨oo,oc,lo,lc,mb,h.keep hc hS⟩
theorem jZ.alloc (h:jZ w own bc c k) (o:Obj):jZ (w.alloc o) own bc c k:=h.keep ((bz.refl (fun _=>False) w).alloc o) (fun _ _ e=>e)
theorem jZ.drew (h:jZ w own bc c k):jZ w.drew own bc c k:=h.keep ((bz.refl (fun _=>False) w).drew) (fun _ _ e=>e)
theorem jZ.below (h:jZ w own bc c k) (hb:Below w.heap.size w w'):jZ w' own bc c k:=h.keep (bz.of_below (S:=fun _=>False) hb) (fun _ _ e=>e)
theorem jZ.lt (h:jZ w own bc c k):∀g,own g->g<w.heap.size:=by
 obtain⟨oo,oc,lo,lc,mb,h⟩:=h;exact h.lt
theorem jZ.more (h:jZ w own bc c k) {k':Nat} (hk:k<=k'):jZ w own bc c k':=by
 obtain⟨oo,oc,lo,lc,mb,h⟩:=h;exact⟨oo,oc,lo,lc,mb,h.blk,h.ops,h.aO,h.mp.mono hk,h.ob,h.Xy,h.ol,h.om,h.lt,h.few,Nat.le_trans h.lk hk,h.jl⟩
structure mE (w:World) (own:Nat->Prop) (b:Nat) (x:Obj):Prop where
 blk:w.heap[b]? =some x
 not_:¬own b
theorem mE.turn {b:Nat} {x:Obj} (h:mE w own b x) (ht:nC own w dM w1):mE w1 dM b x:=
 ⟨dG ht.Ja h.blk h.not_,fun e=>h.not_ (ht.less b (lt_of_block h.blk) e)⟩
theorem mE.alloc {b:Nat} {x:Obj} (h:mE w own b x) (o:Obj):mE (w.alloc o) own b x:=⟨aZ h.blk,h.not_⟩
theorem mE.drew {b:Nat} {x:Obj} (h:mE w own b x):mE w.drew own b x:=⟨h.blk,h.not_⟩
theorem mE.below {b:Nat} {x:Obj} (h:mE w own b x) (hb:Below w.heap.size w w'):mE w' own b x:=⟨Go.Proofs.YtopdcjimpdalpaaGreat.blk hb h.blk,h.not_⟩
theorem mE.new (h:jZ w own bc c k) (o:Obj):mE (w.alloc o) own w.heap.size o:=⟨aj w o,fun e=>by have:=h.lt _ e;omega⟩
def FM (own:Nat->Prop) (w:World) (bc:Nat) (c c':Cd) (k':Nat) (v:Value) (e:Ending) (w':World):Prop:=
 e= .returned v/\∃own',jZ w' own' bc c' k'/\nC own w own' w'/\c.aO.length<=c'.aO.length
theorem JP:(Tryz.prog.info? 107).map (fun i=>(i.zero,i.size,i.bytes))=some (some (.agg #[.int .u8 0,.int .u8 0,.int .u8 0,.int .u8 0,.int .u8 0,.int .i64 0]),6,16):=by kernel_rfl
theorem Ar:(Tryz.prog.info? 3).map (fun i=>(i.zero,i.size,i.bytes))=some (some (.int .i64 0),1,8):=by kernel_rfl
theorem Lg (o:bR):∀u∈b_ o,u.oneCell'=true:=by
 intro u hu;simp[b_] at hu;rcases hu with rfl|rfl|rfl|rfl|rfl|rfl<;>rfl
theorem yN {base size n b g:Nat} {e tb:TypeId} {v:Value} {xs:List Value} {cb:Array Value} {fb:Nat×Nat} (h:w.ownsRow base e size v n xs) (hg:v.ownBlock=some g) (hb:w.heap[b]? =some (.cells cb tb fb)) (ht:e≠tb):g≠b:=by
 rcases h.2 with⟨hv,_⟩|⟨g',cap',cur,hv,hb',hgg,_⟩
 ·rw[hv] at hg;simp[Value.ownBlock] at hg
 ·rw[hv] at hg;simp only[Value.ownBlock,bH] at hg;subst hg;exact Tz hgg hb ht
theorem FZ {base size n b g m:Nat} {e K:TypeId} {v:Value} {xs:List Value} {R:Value->Option (DataW Unit×List MemPlace)} {D:DataW Unit} (h:w.ownsRow base e size v n xs) (hg:v.ownBlock=some g) (hb:w.ownsMap Tryz.prog K R b m D):g≠b:=by
 rcases h.2 with⟨hv,_⟩|⟨g',cap',cur,hv,hb',hgg,_⟩
 ·rw[hv] at hg;simp[Value.ownBlock] at hg
 ·rw[hv] at hg;simp only[Value.ownBlock,bH] at hg;subst hg;exact V3 hgg hb
theorem GK {base size n m sz g:Nat} {e e':TypeId} {v u:Value} {xs ys:List Value} (h:w.ownsRow base e size v n xs) (hg:v.ownBlock=some g) (h':w.ownsRow base e' sz u m ys) (ht:e≠e'):u.ownBlock≠some g:=fun hu=>by
 rcases h'.2 with⟨hv,_⟩|⟨g',cap',cur,hv,hb',hgg,_⟩
 ·rw[hv] at hu;simp[Value.ownBlock] at hu
 ·rw[hv] at hu;simp only[Value.ownBlock,bH] at hu;subst hu;exact yN h hg hgg ht rfl
section
variable {oo lo ao:Option Addr} {oc lc mb cp:Nat}
theorem BU.ne (h:BU w own bc c k oo oc lo lc mb):(∀g,(Value.slice oo c.ops.length oc).ownBlock=some g->g≠bc/\g≠mb/\(Value.slice lo c.aO.length lc).ownBlock≠some g)/\(∀g,(Value.slice lo c.aO.length lc).ownBlock=some g->g≠bc/\g≠mb/\(Value.slice oo c.ops.length oc).ownBlock≠some g)/\mb≠bc:=
 ⟨fun g hg=>⟨yN h.ops hg h.blk (by decide),FZ h.ops hg h.mp,GK h.ops hg h.aO (by decide)⟩,fun g hg=>⟨yN h.aO hg h.blk (by decide),FZ h.aO hg h.mp,GK h.aO hg h.ops (by decide)⟩,fun e=>V3 h.blk h.mp e.symm⟩
theorem BU.V6 (h:BU w own bc c k oo oc lo lc mb) (o:bR) (hf:c.ops.length<262144) (hc:bz (fun g=>(Value.slice oo c.ops.length oc).ownBlock=some g) w w1)
  (hown:w1.ownsRow 0 107 6 (.slice ao (c.ops.length+1) cp) (c.ops.length+1) (c.ops.flatMap b_++b_ o)) (jh:∀g,(Value.slice ao (c.ops.length+1) cp).ownBlock=some g->(Value.slice oo c.ops.length oc).ownBlock=some g\/w.heap.size<=g):
  ∃own',jZ (w1.setCell ⟨bc,0,none⟩ (.slice ao (c.ops.length+1) cp)) own' bc (c.put o) k/\nC own w own' (w1.setCell ⟨bc,0,none⟩ (.slice ao (c.ops.length+1) cp)):=by
 obtain⟨n1,n2,n3⟩:=h.ne;have hput:c.put o={c with ops:=c.ops++[o]}:=by unfold Cd.put;rw[if_neg (by omega)]
 have hb1:=dG hc h.blk (fun e=>(n1 _ e).1 rfl);have hset:=ai (o:=0) (.slice ao (c.ops.length+1) cp) hb1;have hc2:bz (fun g=>g=bc) w1 (w1.setCell ⟨bc,0,none⟩ (.slice ao (c.ops.length+1) cp)):=(bz.refl (fun g=>g=bc) w1).setCell (p:=⟨bc,0,none⟩) (.inl rfl) _;have hl1:=aX h.aO hc (fun g hg=>(n2 g hg).2.2);have hm1:=l9 h.mp hc (fun e=>(n1 _ e).2.1 rfl);have hro:∀g,(Value.slice ao (c.ops.length+1) cp).ownBlock=some g->g≠bc:=fun g hg=>yN hown hg hb1 (by decide)
 refine⟨fun g=>own g\/(Value.slice ao (c.ops.length+1) cp).ownBlock=some g,⟨ao,cp,lo,lc,mb,?_⟩,?_,?_⟩
 ·rw[hput];refine⟨?_,?_,aX hl1 hc2 (fun g hg=>(n2 g hg).1),l9 hm1 hc2 n3,.inl h.ob,fun g hg=>.inr (by simpa using hg),fun g hg=>.inl (h.ol g hg),.inl h.om,?_,?_,h.lk,h.jl⟩
  ·simpa using hset
  ·have h9:=aX hown hc2 hro;rw[<-mJ] at h9;simpa using h9
  ·rintro g (hg|hg)
   ·exact Nat.lt_of_lt_of_le (h.lt g hg) (Nat.le_trans hc.size hc2.size)
   ·exact Nat.lt_of_lt_of_le (hown.lt g hg).2 hc2.size
  ·simp;omega
 ·exact bz.dY (bz.dY (bz.refl own w) hc (fun g _ e=>h.Xy g e)) hc2 (fun g _ e=>by rw[e];exact h.ob)
 ·rintro g hl (hg|hg)
  ·exact hg
  ·rcases jh g hg with e|e
   ·exact h.Xy g e
   ·omega
theorem BU.Rt (h:BU w own bc c k oo oc lo lc mb) (hc:bz (fun g=>(Value.slice lo c.aO.length lc).ownBlock=some g) w w1)
  (hown:w1.ownsRow 0 3 1 (.slice ao (c.aO.length+1) cp) (c.aO.length+1) (c.aO.map (Value.int .i64)++[.int .i64 (-1)])) (jh:∀g,(Value.slice ao (c.aO.length+1) cp).ownBlock=some g->(Value.slice lo c.aO.length lc).ownBlock=some g\/w.heap.size<=g):
  ∃own',jZ (w1.setCell ⟨bc,1,none⟩ (.slice ao (c.aO.length+1) cp)) own' bc c.label (k+1)/\nC own w own' (w1.setCell ⟨bc,1,none⟩ (.slice ao (c.aO.length+1) cp)):=by
 obtain⟨n1,n2,n3⟩:=h.ne;have hb1:=dG hc h.blk (fun e=>(n2 _ e).1 rfl);have hset:=ai (o:=1) (.slice ao (c.aO.length+1) cp) hb1;have hc2:bz (fun g=>g=bc) w1 (w1.setCell ⟨bc,1,none⟩ (.slice ao (c.aO.length+1) cp)):=(bz.refl (fun g=>g=bc) w1).setCell (p:=⟨bc,1,none⟩) (.inl rfl) _;have hl1:=aX h.ops hc (fun g hg=>(n1 g hg).2.2);have hm1:=l9 h.mp hc (fun e=>(n2 _ e).2.1 rfl);have hro:∀g,(Value.slice ao (c.aO.length+1) cp).ownBlock=some g->g≠bc:=fun g hg=>yN hown hg hb1 (by decide)
 refine⟨fun g=>own g\/(Value.slice ao (c.aO.length+1) cp).ownBlock=some g,⟨oo,oc,ao,cp,mb,?_⟩,?_,?_⟩
 ·refine⟨?_,aX hl1 hc2 (fun g hg=>(n1 g hg).1),?_,(l9 hm1 hc2 n3).mono (Nat.le_succ _),.inl h.ob,fun g hg=>.inl (h.Xy g hg),fun g hg=>.inr (by simpa [Cd.label] using hg),.inl h.om,?_,h.few,?_,?_⟩
  ·simpa [Cd.label] using hset
  ·have h9:=aX hown hc2 hro;simpa [Cd.label] using h9
  ·rintro g (hg|hg)
   ·exact Nat.lt_of_lt_of_le (h.lt g hg) (Nat.le_trans hc.size hc2.size)
   ·exact Nat.lt_of_lt_of_le (hown.lt g hg).2 hc2.size
  ·have:=h.lk;simp[Cd.label];omega
  ·intro p hp;have:=h.jl p hp;simp[Cd.label];omega
 ·exact bz.dY (bz.dY (bz.refl own w) hc (fun g _ e=>h.ol g e)) hc2 (fun g _ e=>by rw[e];exact h.ob)
 ·rintro g hl (hg|hg)
  ·exact hg
  ·rcases jh g hg with e|e
   ·exact h.ol g e
   ·omega
end
theorem Wm (h:jZ w own bc c k) (o:bR) (hf:262144<=c.ops.length):
  Calls Tryz.prog 95 #[.pointer (some ⟨bc,0,none⟩),.agg #[.int .u8 o.kind,.int .u8 o.bD,.int .u8 o.a,.int .u8 o.b,.int .u8 o.c,.int .i64 o.n]] w (FM own w bc c (c.put o) k (.tuple #[])):=by
 obtain⟨oo,oc,lo,lc,mb,h⟩:=h;have c0:w.cell? ⟨bc,0,none⟩=some (.slice oo c.ops.length oc):=af h.blk rfl;have c3:w.cell? ⟨bc,3,none⟩=some (.bool c.over):=af h.blk rfl;have f3:w.frozen? ⟨bc,3,none⟩=false:=ah h.blk;have xR:=h.few;have hg:(c.ops.length:Int)>=262144:=by omega
 have hbl:=lt_of_block h.blk;have H:=ag h;have HF:=ag hf;clear h hf xR;go_in;go_wp2_with fail;go_end0;have hput:c.put o={c with over:=true}:=by unfold Cd.put;rw[if_pos HF.out]
 have hc1:bz (fun g=>g=bc) w ((w.setCell ⟨bc,3,none⟩ (.bool true)).alloc (.cells #[.int .u8 o.kind,.int .u8 o.bD,.int .u8 o.a,.int .u8 o.b,.int .u8 o.c,.int .i64 o.n] 107)):=((bz.refl (fun g=>g=bc) w).setCell (p:=⟨bc,3,none⟩) (.inl rfl) _).alloc _;obtain⟨n1,n2,n3⟩:=H.out.ne;have hset:=aZ (o:=.cells #[.int .u8 o.kind,.int .u8 o.bD,.int .u8 o.a,.int .u8 o.b,.int .u8 o.c,.int .i64 o.n] 107) (ai (o:=3) (.bool true) H.out.blk);refine⟨rfl,own,⟨oo,oc,lo,lc,mb,?_⟩,⟨bz.dY (bz.refl own w) hc1 (fun g _ (e:g=bc)=>by rw[e];exact H.out.ob),fun _ _ e=>e⟩,by rw[JO];exact aB _⟩;rw[hput];exact⟨by simpa using hset,aX H.out.ops hc1 (fun g hg=>(n1 g hg).1),aX H.out.aO hc1 (fun g hg=>(n2 g hg).1),l9 H.out.mp hc1 n3,H.out.ob,H.out.Xy,H.out.ol,H.out.om,fun g hg=>Nat.lt_of_lt_of_le (H.out.lt g hg) hc1.size,H.out.few,H.out.lk,H.out.jl⟩
theorem Wi (h:jZ w own bc c k) (o:bR) (hf:c.ops.length<262144):
  Calls Tryz.prog 95 #[.pointer (some ⟨bc,0,none⟩),.agg #[.int .u8 o.kind,.int .u8 o.bD,.int .u8 o.a,.int .u8 o.b,.int .u8 o.c,.int .i64 o.n]] w (FM own w bc c (c.put o) k (.tuple #[])):=by
 obtain⟨oo,oc,lo,lc,mb,h⟩:=h;have c0:w.cell? ⟨bc,0,none⟩=some (.slice oo c.ops.length oc):=af h.blk rfl;have hg:¬((c.ops.length:Int)>=262144):=by omega
 have hbl:=lt_of_block h.blk;have H:=ag h;have HF:=ag hf;obtain⟨i0,hi,hz0,hz1,hz2⟩:=info_parts JP;have HI:=ag hi;have HZ0:=ag hz0;have HZ1:=ag hz1;have HZ2:=ag hz2;clear h hi hz0 hz1 hz2;go_in;go_wp2_with fail;obtain⟨wa,VY⟩:∃x,x=w.alloc (.cells #[.int .u8 o.kind,.int .u8 o.bD,.int .u8 o.a,.int .u8 o.b,.int .u8 o.c,.int .i64 o.n] 107):=⟨_,rfl⟩;have OA:Below w.heap.size w wa:=by rw[VY];exact(au _ _).alloc (aB _) _
 have vD:=ag OA;have a0:wa.cell? ⟨bc,0,none⟩=some (.slice oo c.ops.length oc):=(OA.cell hbl).trans c0;have a1:∀o:Obj,(wa.alloc o).cell? ⟨bc,0,none⟩=some (.slice oo c.ops.length oc):=fun o=>by rw[World.cell?_alloc_lt _ _ _ (by have:=OA.size;show bc<_;omega)];exact a0
 have hnew:wa.heap[w.heap.size]? =some (.cells #[.int .u8 o.kind,.int .u8 o.bD,.int .u8 o.a,.int .u8 o.b,.int .u8 o.c,.int .i64 o.n] 107 (0,0)):=by rw[VY];exact aj _ _
 have d0:wa.cell? ⟨w.heap.size,0,none⟩=some (.int .u8 o.kind):=af hnew rfl;have d1:wa.cell? ⟨w.heap.size,1,none⟩=some (.int .u8 o.bD):=af hnew rfl;have d2:wa.cell? ⟨w.heap.size,2,none⟩=some (.int .u8 o.a):=af hnew rfl;have d3:wa.cell? ⟨w.heap.size,3,none⟩=some (.int .u8 o.b):=af hnew rfl;have d4:wa.cell? ⟨w.heap.size,4,none⟩=some (.int .u8 o.c):=af hnew rfl;have d5:wa.cell? ⟨w.heap.size,5,none⟩=some (.int .i64 o.n):=af hnew rfl;have HA:=ag (H.out.keep (bz.of_below (S:=fun _=>False) OA) (fun _ _ e=>e));rw[<-VY];obtain⟨bx,hbx⟩:∃x,x=w.heap.size:=⟨_,rfl⟩;rw[<-hbx] at d0 d1 d2 d3 d4 d5⊢;clear VY OA c0 hnew hbx hbl
 go_region_law (first
  |(refine ji (by rfl) (.tmp 17) (.tmp 19) 57 (by rfl) 0 107 i0 _ 6 16 Tryz.underlying57 HI.out HZ0.out HZ1.out HZ2.out rfl (by decide) (.slice oo c.ops.length oc) c.ops.length (c.ops.flatMap b_) (by simp[Act.eval]) (by exact aX HA.out.ops (((bz.refl (fun _=>False) wa).alloc _).drew) (fun _ _=>id)) ⟨wa.heap.size,0,none⟩ 1 1 (by decide) (b_ o) (by simp[Act.eval]) rfl (by exact iP (aj wa _)) (Lg _) (by have:=HF.out;unfold maxLen;omega) (by have:=HF.out;omega) (Nat.zero_le _) ?_;intro ao cp w5 h1 h2 h3;have Sw:=ag h1;have HF5:=ag h2;have qZ:=ag h3;have Ai:=(((bz.refl (fun g=>(Value.slice oo c.ops.length oc).ownBlock=some g) wa).alloc _).drew).grown h3 (fun g hg=>.inl hg);have Xv:=ag Ai;have hb5:=dG Ai HA.out.blk (fun e=>(HA.out.ne.1 _ e).1 rfl);have s0:w5.cell? ⟨bc,0,none⟩=some (.slice oo c.ops.length oc):=af hb5 rfl;have s1:w5.frozen? ⟨bc,0,none⟩=false:=ah hb5;clear h1 h2 h3 Ai hb5))
 all_goals (
  go_wp2_with fail;go_end0;have hsz:wa.heap.size<(wa.alloc (.cells (b_ o).toArray 107)).heap.size:=by rw[World.size_alloc];omega
  obtain⟨own',r1,r2⟩:=HA.out.V6 o HF.out Xv.out Sw.out (fun g hg=>(HF5.out g hg).imp id (fun e=>by
   have e2:(wa.alloc (.cells (b_ o).toArray 107)).heap.size<=g:=e;omega))
  exact⟨rfl,own',r1,((nC.refl own w).below vD.out).trans r2,by rw[JO];exact aB _⟩)
theorem nE (h:jZ w own bc c k) (o:bR):
  Calls Tryz.prog 95 #[.pointer (some ⟨bc,0,none⟩),.agg #[.int .u8 o.kind,.int .u8 o.bD,.int .u8 o.a,.int .u8 o.b,.int .u8 o.c,.int .i64 o.n]] w (FM own w bc c (c.put o) k (.tuple #[])):=by
 rcases Nat.lt_or_ge c.ops.length 262144 with hf|hf
 ·exact Wi h o hf
 ·exact Wm h o hf
theorem PT (h:jZ w own bc c k) (hk:k<=1099511627776):
  Calls Tryz.prog 85 #[.pointer (some ⟨bc,0,none⟩)] w (FM own w bc c c.label (k+1) (.int .i64 (c.aO.length:Int))):=by
 obtain⟨oo,oc,lo,lc,mb,h⟩:=h;have c1:w.cell? ⟨bc,1,none⟩=some (.slice lo c.aO.length lc):=af h.blk rfl;have hlk:=h.lk;have HLK:=ag (show c.aO.length<=1099511627776 from by omega);have hsub:IntKind.i64.wrap (((c.aO.length+1:Nat):Int) - 1)=(c.aO.length:Int):=by rw[show((c.aO.length+1:Nat):Int) - 1=(c.aO.length:Int) from by omega];exact IntWalk.i64_in _ (by omega)
 have hsub2:IntKind.i64.wrap ((c.aO.length:Int)+1 - 1)=(c.aO.length:Int):=by rw[show(c.aO.length:Int)+1 - 1=(c.aO.length:Int) from by omega];exact IntWalk.i64_in _ (by omega)
 have ahh:(c.aO.length:Int)+1 - 1=(c.aO.length:Int):=by omega
 have ahF:IntKind.i64.wrap (c.aO.length:Int)=(c.aO.length:Int):=IntWalk.i64_in _ (by omega);obtain⟨i0,hi,hz0,hz1,hz2⟩:=info_parts Ar;have H:=ag h;clear h hlk;go_in;go_wp2_with (at_builtin;refine dD _ rfl _ _ 72 rfl 0 3 i0 _ 1 8 Tryz.underlying72 hi hz0 hz1 hz2 rfl (by decide) _ _ _ rfl (aX H.out.aO ((bz.refl (fun _=>False) w).alloc _) (fun _ _=>id)) ⟨w.heap.size,0,none⟩ 1 1 [.int .i64 (-1)] rfl rfl ?c1 ?c2 ?c3 ?c4 ?c5 ?_)
 case c1=>exact iP (aj _ _)
 case c2=>intro u hu;simp at hu;subst hu;rfl
 case c3=>have:=HLK.out;unfold maxLen;omega
 case c4=>have:=HLK.out;omega
 case c5=>exact Nat.zero_le _
 intro ao cp w5 h1 h2 h3;have Ai:=((bz.refl (fun g=>(Value.slice lo c.aO.length lc).ownBlock=some g) w).alloc _).grown h3 (fun g hg=>.inl hg);have hb5:=dG Ai H.out.blk (fun e=>(H.out.ne.2.1 _ e).1 rfl);have s0:w5.cell? ⟨bc,1,none⟩=some (.slice lo c.aO.length lc):=af hb5 rfl;have s1:w5.frozen? ⟨bc,1,none⟩=false:=ah hb5;obtain⟨own',r1,r2⟩:=H.out.Rt Ai h1 (fun g hg=>(h2 g hg).imp id (fun e=>by
  first|(rw[World.size_alloc] at e;omega)|omega))
 have s2:(w5.setCell ⟨bc,1,none⟩ (.slice ao (c.aO.length+1) cp)).cell? ⟨bc,1,none⟩=some (.slice ao (c.aO.length+1) cp):=af (ai _ hb5) rfl;have HR1:=ag r1;have HR2:=ag r2;clear h1 h2 h3 Ai hb5 r1 r2 c1 hi hz0 hz1 hz2;go_wp2_with fail;go_ret;exact⟨rfl,own',HR1.out,HR2.out,by simp[Cd.label]⟩
theorem MP {base g n cap o sz:Nat} {e:TypeId} {cs:List Value} (h:w.ownsRow base e sz (.slice (some ⟨g,0,none⟩) n cap) n cs) (u:Value):(w.setCell ⟨g,o,none⟩ u).ownsRow base e sz (.slice (some ⟨g,0,none⟩) n cap) n (cs.set o u):=by
 rcases h.2 with⟨hv',_⟩|⟨g',cap',cur,hv',hb,hg,hc,hm,hs,ht⟩
 ·simp at hv'
 ·simp only[Value.slice.injEq,bH,Addr.mk.injEq,and_true,true_and] at hv';obtain⟨rfl,rfl⟩:=hv';refine⟨by rw[List.length_set];exact h.1,.inr ⟨g,cap,_,rfl,hb,ai u hg,hc,hm,by simpa using hs,?_⟩⟩;rw[Array.toList_setIfInBounds,List.take_set,ht]
theorem V_ (h:jZ w own bc c k) {l:Nat} (hl:l<c.aO.length):
  Calls Tryz.prog 86 #[.pointer (some ⟨bc,0,none⟩),.int .i64 (l:Int)] w (FM own w bc c (c.here l) k (.tuple #[])):=by
 obtain⟨oo,oc,lo,lc,mb,h⟩:=h;have c0:w.cell? ⟨bc,0,none⟩=some (.slice oo c.ops.length oc):=af h.blk rfl;have c1:w.cell? ⟨bc,1,none⟩=some (.slice lo c.aO.length lc):=af h.blk rfl;obtain⟨g,cur,hlo, -,hgb,hcap,hcells⟩:=bX h.aO (by omega);subst hlo;have hv:(c.aO.map (Value.int .i64))[l]? =some (.int .i64 (c.aO.getD l 0)):=by simp[hl]
 have d0:w.cell? ⟨g,l,none⟩=some (.int .i64 (c.aO.getD l 0)):=af hgb (hcells _ _ hv);have f0:w.frozen? ⟨g,l,none⟩=false:=ah hgb;have q1:(l:Int)<(c.aO.length:Int):=by omega
 have H:=ag h;generalize c.aO.getD l 0=old at d0;clear h hgb hcells hv;go_in;go_wp2_with fail;go_still_tail 11,(by kernel_rfl)
 go_wp2_with fail;go_end0;obtain⟨n1,n2,n3⟩:=H.out.ne;have hc:bz (fun x=>x=g) w (w.setCell ⟨g,l,none⟩ (.int .i64 (c.ops.length:Int))).drew:=((bz.refl (fun x=>x=g) w).setCell (p:=⟨g,l,none⟩) (.inl rfl) _).drew;have hg:=n2 g rfl;refine⟨rfl,own,⟨oo,oc,some ⟨g,0,none⟩,lc,mb,?_⟩,⟨bz.dY (bz.refl own w) hc (fun x _ e=>by rw[e];exact H.out.ol g rfl),fun _ _ e=>e⟩,by simp[Cd.here]⟩;have hls:(c.here l).aO.length=c.aO.length:=by simp[Cd.here]
 refine⟨?_,aX H.out.ops hc (fun x hx e=>hg.2.2 (by rw[<-e];exact hx)),?_,l9 H.out.mp hc (fun e=>hg.2.1 e.symm),H.out.ob,H.out.Xy,?_,H.out.om,fun x hx=>Nat.lt_of_lt_of_le (H.out.lt x hx) hc.size,H.out.few,by rw[hls];exact H.out.lk,?_⟩
 ·rw[hls];exact dG hc H.out.blk (fun e=>hg.1 e.symm)
 ·rw[hls];have h9:=MP (o:=l) H.out.aO (.int .i64 (c.ops.length:Int));rw[<-List.map_set] at h9;exact h9
 ·rw[hls];exact H.out.ol
 ·intro p hp;rw[hls];exact H.out.jl p hp
theorem Ph:Keyed Tryz.prog 3:=int_keyed Tryz.underlying3
theorem BU.marked {oo lo:Option Addr} {oc lc mb l:Nat} (h:BU w own bc c k oo oc lo lc mb) (hl:l<c.aO.length) (hm:w1.ownsMap Tryz.prog 3 (plainElem Tryz.prog 169) mb (k+1) ((JD c.jmp).put (.int .i64 (c.ops.length:Int)) (.lit (.int .i64 (l:Int))))) (hg:w.grownBy w1 (some mb)):
  jZ w1 own bc (c.mark l) (k+1)/\nC own w own w1:=by
 obtain⟨n1,n2,n3⟩:=h.ne;have hc:bz (fun g=>g=mb) w w1:=(bz.refl (fun g=>g=mb) w).grown hg (fun g hg=>.inl (by simpa using hg.symm));refine⟨⟨oo,oc,lo,lc,mb,⟨dG hc h.blk n3.symm,aX h.ops hc (fun g hg=>(n1 g hg).2.1),aX h.aO hc (fun g hg=>(n2 g hg).2.1),?_,h.ob,h.Xy,h.ol,h.om,fun g hg=>Nat.lt_of_lt_of_le (h.lt g hg) hc.size,h.few,Nat.le_succ_of_le h.lk,?_⟩⟩,⟨bz.dY (bz.refl own w) hc (fun g _ e=>by rw[e];exact h.om),fun _ _ e=>e⟩⟩
 ·rw[show(c.mark l).jmp=c.jmp++[(c.ops.length,l)] from rfl,Xr];exact hm
 ·intro p hp;rcases List.mem_append.1 hp with hp|hp
  ·exact h.jl p hp
  ·simp at hp;rw[hp];exact hl
theorem zi {x:Nat} (h:x<=1099511627776):(Lit.int .i64 (x:Int)).wf=true:=WalkArith.wf_i64 (by omega)
theorem Uu (h:jZ w own bc c k) {l:Nat} (hl:l<c.aO.length) (hk:k<=1099511627776):
  Calls Tryz.prog 93 #[.pointer (some ⟨bc,0,none⟩),.int .i64 (l:Int)] w (FM own w bc c (c.jump l) (k+1) (.tuple #[])):=by
 obtain⟨oo,oc,lo,lc,mb,h⟩:=h;have c0:w.cell? ⟨bc,0,none⟩=some (.slice oo c.ops.length oc):=af h.blk rfl;have c2:w.cell? ⟨bc,2,none⟩=some (.map (some mb)):=af h.blk rfl;have hlk:=h.lk;have xR:=h.few;have HKEY:Hid (keyOf Tryz.prog 3 (.int .i64 (c.ops.length:Int))=some (.int .i64 (c.ops.length:Int))):=ag (keyOf_int_mk Tryz.underlying3 (zi (by omega)));have Aq:=ag (zi (x:=l) (by omega));have HK:=ag hk;have HL:=ag hl;have H:=ag h;clear h hlk xR hk hl;go_in;go_wp2_with fail;go_still_tail 10,(by kernel_rfl)
 go_wp2_with (at_mapUpdate;refine wpList_mapUpdate_own _ rfl _ _ _ 139 rfl 3 169 Ph Tryz.underlying139 _ mb k _ rfl H.out.mp.drew (by have:=HK.out;unfold maxLen;omega) _ _ _ rfl rfl HKEY.out _ [] (plainElem_int Tryz.underlying169 Aq.out) ?_);intro w5 hown hgrow;obtain⟨r1,r2⟩:=H.out.marked HL.out hown (show w.grownBy w5 (some mb) from⟨hgrow.os,hgrow.tape,hgrow.output,hgrow.size,hgrow.block⟩);have HR1:=ag r1;have HR2:=ag r2;clear hown hgrow r1 r2 c0 c2;go_wp2_with fail;refine(nE HR1.out ⟨6,0,0,0,0,0⟩).mono ?_;rintro e w6 ⟨rfl,own',r3,r4,r5⟩;go_wp2_with fail;go_end0;exact⟨rfl,own',r3,HR2.out.trans r4,r5⟩
theorem Vt (h:jZ w own bc c k) (r:Int) {l:Nat} (hl:l<c.aO.length) (hk:k<=1099511627776):
  Calls Tryz.prog 123 #[.pointer (some ⟨bc,0,none⟩),.int .u8 r,.int .i64 (l:Int)] w (FM own w bc c (c.zero r l) (k+1) (.tuple #[])):=by
 obtain⟨oo,oc,lo,lc,mb,h⟩:=h;have c0:w.cell? ⟨bc,0,none⟩=some (.slice oo c.ops.length oc):=af h.blk rfl;have c2:w.cell? ⟨bc,2,none⟩=some (.map (some mb)):=af h.blk rfl;have hlk:=h.lk;have xR:=h.few;have HKEY:Hid (keyOf Tryz.prog 3 (.int .i64 (c.ops.length:Int))=some (.int .i64 (c.ops.length:Int))):=ag (keyOf_int_mk Tryz.underlying3 (zi (by omega)));have Aq:=ag (zi (x:=l) (by omega));have HK:=ag hk;have HL:=ag hl;have H:=ag h;clear h hlk xR hk hl;go_in;go_wp2_with fail;go_still_tail 10,(by kernel_rfl)
 go_wp2_with (at_mapUpdate;refine wpList_mapUpdate_own _ rfl _ _ _ 139 rfl 3 169 Ph Tryz.underlying139 _ mb k _ rfl H.out.mp.drew (by have:=HK.out;unfold maxLen;omega) _ _ _ rfl rfl HKEY.out _ [] (plainElem_int Tryz.underlying169 Aq.out) ?_);intro w5 hown hgrow;obtain⟨r1,r2⟩:=H.out.marked HL.out hown (show w.grownBy w5 (some mb) from⟨hgrow.os,hgrow.tape,hgrow.output,hgrow.size,hgrow.block⟩);have HR1:=ag r1;have HR2:=ag r2;clear hown hgrow r1 r2 c0 c2;go_wp2_with fail;refine(nE HR1.out ⟨7,0,r,0,0,0⟩).mono ?_;rintro e w6 ⟨rfl,own',r3,r4,r5⟩;go_wp2_with fail;go_end0;exact⟨rfl,own',r3,HR2.out.trans r4,r5⟩
theorem Rn (w:World):Calls Tryz.prog 54 #[] w fun e w'=>∃bc own,e= .returned (.pointer (some ⟨bc,0,none⟩))/\jZ w' own bc Cd.new 0/\(∀g,own g->w.heap.size<=g)/\Below w.heap.size w w':=by
 have hmm:=@run_makeMap Tryz.prog;go_in;go_wp2_with fail;go_ret;refine⟨w.heap.size+1,fun g=>g=w.heap.size\/g=w.heap.size+1,rfl,⟨none,0,none,0,w.heap.size,?_⟩,fun g hg=>by omega,((au _ _).alloc (aB _) _).alloc (by simp) _⟩;refine⟨iT _ _ _,World.ownsRow_nil _ _ _ _,World.ownsRow_nil _ _ _ _,(World.ownsMap_made _ _ _ _).alloc _,.inr rfl,fun g hg=>by simp[Value.ownBlock] at hg,fun g hg=>by simp[Value.ownBlock] at hg,.inl rfl,fun g hg=>by simp;omega,by simp[Cd.new],by simp[Cd.new],fun p hp=>by simp[Cd.new] at hp⟩
end Go.Proofs.YtopdcjimpdalpaaGreat

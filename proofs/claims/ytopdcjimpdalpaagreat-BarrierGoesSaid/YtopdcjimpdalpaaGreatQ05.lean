import Derived.Test.YtopdcjimpdalpaaGreatQ04
import Derived.Test.YtopdcjimpdalpaaGreatQ02
namespace Go.Proofs.YtopdcjimpdalpaaGreat
open Go.RowKit
set_option linter.all false
set_option maxHeartbeats 1000000
structure Ring (w:World) (b:Nat) (q:List (Int×Int)) (c:Array Value) (f:Nat):Prop where
 blk:w.heap[b]? =some (.cells c 226 (0,0))
 size:c.size=131
 f64:f<64
 q64:q.length<=64
 first:c[128]? =some (.int .i64 f)
 many:c[129]? =some (.int .i64 q.length)
 made:c[130]? =some (.bool true)
 ints:∀i,i<64->∃x y,c[i*2]? =some (.int .i64 x)/\c[i*2+1]? =some (.int .i64 y)
 cells:∀i x,q[i]? =some x->c[(f+i)%64*2]? =some (.int .i64 x.1)/\c[(f+i)%64*2+1]? =some (.int .i64 x.2)
def sK:Array Value:=((List.replicate 130 (Value.int .i64 0))++[Value.bool true]).toArray
def Dk:Array Value:=((List.replicate 130 (Value.int .i64 0))++[Value.bool false]).toArray
theorem Qv (w:World):(zeroValue 226).run Tryz.prog w= .ok (.agg Dk) w:=by kernel_rfl
theorem NY:Dk.size=131:=by decide+kernel
theorem RS:Dk.setIfInBounds 130 (.bool true)=sK:=by kernel_rfl
theorem VA (w:World):Calls Tryz.prog 98 #[] w fun e w'=>e= .returned (.pointer (some ⟨w.heap.size,0,none⟩))/\w'=w.alloc (.cells sK 226):=by
 have h1:=Qv;have h2:=NY;have h3:=RS;go_in;go_wp2;go_ret;exact⟨rfl,rfl⟩
theorem BH (i:Nat) (h:i<130):sK[i]? =some (.int .i64 0):=by
 unfold sK;rw[List.getElem?_toArray,List.getElem?_append_left (by rw[List.length_replicate];exact h),List.getElem?_replicate,if_pos h]
theorem QW (w:World):Ring (w.alloc (.cells sK 226)) w.heap.size [] sK 0:=
 ⟨aX _ _,by decide+kernel,by decide,by simp,BH 128 (by decide),BH 129 (by decide),by kernel_rfl,
  fun i hi=>⟨0,0,BH _ (by omega),BH _ (by omega)⟩,fun i x h=>by simp at h⟩
theorem sj {w:World} {b:Nat} {q:List (Int×Int)} {c:Array Value} {f:Nat} (h:Ring w b q c f):
  Calls Tryz.prog 158 #[.pointer (some ⟨b,0,none⟩)] w fun e w'=>e= .returned (.bool true)/\w'=w:=by
 have c1:=af h.blk h.made;clear h;go_in;go_wp2;go_ret;exact⟨rfl,rfl⟩
theorem KP {w:World} {b:Nat} {q:List (Int×Int)} {c:Array Value} {f:Nat} (h:Ring w b q c f) (i:Nat) (hi:i<=64) (z:Int:=i) (hz:z=i:=by rfl):
  Calls Tryz.prog 159 #[.pointer (some ⟨b,0,none⟩),.int .i64 z] w fun e w'=>e= .returned (.pointer (some ⟨b,(f+i)%64*2,none⟩))/\∃n,w'=w.drewN n:=by
 subst hz;have c1:=af h.blk h.first;have hf:=h.f64;clear h;have e1:IntKind.i64.wrap ((f:Int)+i)=f+i:=IntWalk.i64_in _ (by omega);have e2:((f:Int)+i).tmod 64=((f+i)%64:Nat):=by
  rw[Int.tmod_eq_emod_of_nonneg (by omega)];omega
 have hlt:(f+i)%64<64:=Nat.mod_lt _ (by decide);go_in;go_wp2;go_quiet (fail)
 go_wp2;go_ret;exact⟨rfl,nq,rfl⟩
theorem Ring.drewN {w:World} {b:Nat} {q:List (Int×Int)} {c:Array Value} {f:Nat} (h:Ring w b q c f) (n:Nat):Ring (w.drewN n) b q c f:=⟨h.blk,h.size,h.f64,h.q64,h.first,h.many,h.made,h.ints,h.cells⟩
theorem Ring.keep {w w':World} {b:Nat} {q:List (Int×Int)} {c:Array Value} {f:Nat} (h:Ring w b q c f) (hk:w'.heap[b]? =w.heap[b]?):Ring w' b q c f:=⟨hk.trans h.blk,h.size,h.f64,h.q64,h.first,h.many,h.made,h.ints,h.cells⟩
theorem Ring.lt {w:World} {b:Nat} {q:List (Int×Int)} {c:Array Value} {f:Nat} (h:Ring w b q c f):b<w.heap.size:=lt_of_block h.blk
theorem Ring.below {w w':World} {b:Nat} {q:List (Int×Int)} {c:Array Value} {f:Nat} (h:Ring w b q c f) (hb:Below w.heap.size w w'):Ring w' b q c f:=h.keep (hb.block _ h.lt)
theorem Ny {w:World} {b:Nat} {q:List (Int×Int)} {c:Array Value} {f:Nat} (h:Ring w b q c f):
  Calls Tryz.prog 142 #[.pointer (some ⟨b,0,none⟩)] w fun e w'=>e= .returned (.int .i64 q.length)/\w'=w:=by
 have c1:=af h.blk h.many;have H:=ag h;clear h;go_in;go_wp2_with fail;refine(sj H.out).mono ?_;rintro e w1 ⟨rfl,rfl⟩;go_wp2;go_ret;exact⟨rfl,rfl⟩
theorem Si {w w':World} {b:Nat} {q:List (Int×Int)} {c:Array Value} {f:Nat} (h:Ring w b q c f) (hq:q.length<64) (x:Int×Int)
  (hw:w'.heap[b]? =some (.cells (((c.setIfInBounds ((f+q.length)%64*2) (.int .i64 x.1)).setIfInBounds ((f+q.length)%64*2+1) (.int .i64 x.2)).setIfInBounds 129 (.int .i64 (q.length+1))) 226 (0,0))):
  Ring w' b (q++[x]) (((c.setIfInBounds ((f+q.length)%64*2) (.int .i64 x.1)).setIfInBounds ((f+q.length)%64*2+1) (.int .i64 x.2)).setIfInBounds 129 (.int .i64 (q.length+1))) f:=by
 have hs:=h.size;have hk:(f+q.length)%64<64:=Nat.mod_lt _ (by decide);refine⟨hw,by simp[hs],h.f64,by simp;omega,?_,?_,?_,?_,?_⟩
 ·rw[g_ (by omega),g_ (by omega),g_ (by omega)];exact h.first
 ·rw[Array.getElem?_setIfInBounds_self_of_lt (by simp[hs])];simp
 ·rw[g_ (by omega),g_ (by omega),g_ (by omega)];exact h.made
 ·intro i hi;obtain⟨y1,y2,e1,e2⟩:=h.ints i hi;by_cases he:i=(f+q.length)%64
  ·refine⟨x.1,x.2,?_,?_⟩
   ·rw[he,g_ (by omega),g_ (by omega),Array.getElem?_setIfInBounds_self_of_lt (by omega)]
   ·rw[he,g_ (by omega),Array.getElem?_setIfInBounds_self_of_lt (by simp;omega)]
  ·refine⟨y1,y2,?_,?_⟩
   ·rw[g_ (by omega),g_ (by omega),g_ (by omega)];exact e1
   ·rw[g_ (by omega),g_ (by omega),g_ (by omega)];exact e2
 ·intro i y hy;have hf:=h.f64;rcases Nat.lt_or_ge i q.length with hi|hi
  ·rw[List.getElem?_append_left hi] at hy;obtain⟨e1,e2⟩:=h.cells i y hy;have hne:(f+i)%64≠(f+q.length)%64:=by omega
   refine⟨?_,?_⟩
   ·rw[g_ (by omega),g_ (by omega),g_ (by omega)];exact e1
   ·rw[g_ (by omega),g_ (by omega),g_ (by omega)];exact e2
  ·rw[List.getElem?_append_right hi] at hy;have:i=q.length:=by
    have:=(bE.1 hy).1;simp at this;omega
   subst this;simp at hy;subst hy;refine⟨?_,?_⟩
   ·rw[g_ (by omega),g_ (by omega),Array.getElem?_setIfInBounds_self_of_lt (by omega)]
   ·rw[g_ (by omega),Array.getElem?_setIfInBounds_self_of_lt (by simp;omega)]
def Ww (b:Nat) (q:List (Int×Int)) (f:Nat) (x:Int×Int) (w:World) (e:Ending) (w':World):Prop:=
 e= .returned (.bool true)/\(∃c',Ring w' b (q++[x]) c' f)/\bH (fun k=>k=b) w w'/\w'.heap.size=w.heap.size
theorem QY {w:World} {b:Nat} {q:List (Int×Int)} {c:Array Value} {f:Nat} (h:Ring w b q c f) (hq:q.length<64) (a v:Int):
  Calls Tryz.prog 170 #[.pointer (some ⟨b,0,none⟩),.int .i64 a,.int .i64 v] w (Ww b q f (a,v) w):=by
 have c1:=af h.blk h.many;have c1f:=aJ (o:=129) h.blk;have hk:(f+q.length)%64<64:=Nat.mod_lt _ (by decide);obtain⟨y1,y2,e1,e2⟩:=h.ints _ hk;have c2:=af h.blk e1;have c3:=af h.blk e2;have c2f:=aJ (o:=(f+q.length)%64*2) h.blk;have c3f:=aJ (o:=(f+q.length)%64*2+1) h.blk;have H:=ag h;have tq:((q.length:Int)==64)=false:=by rw[bY];omega
 clear h e1 e2;go_in;go_wp2_with fail;refine(sj H.out).mono ?_;rintro e w1 ⟨rfl,rfl⟩;go_wp2_with fail;refine(KP H.out q.length (by omega)).mono ?_;rintro e w2 ⟨rfl,n,rfl⟩;have hk1:¬129=(f+q.length)%64*2:=by omega
 have hk2:¬129=(f+q.length)%64*2+1:=by omega
 go_wp2;go_ret;exact⟨rfl,⟨_,Si H.out hq (a,v) (aK _ (aK _ (aK _ H.out.blk)))⟩,
  ((((bH.refl (fun k=>k=b) _).drewN n).setCell (.inl rfl) _).setCell (.inl rfl) _).setCell (.inl rfl) _,by simp[World.setCell]⟩
theorem Qc {w w':World} {b:Nat} {x:Int×Int} {q:List (Int×Int)} {c:Array Value} {f:Nat} (h:Ring w b (x::q) c f)
  (hw:w'.heap[b]? =some (.cells ((c.setIfInBounds 128 (.int .i64 ((f+1)%64:Nat))).setIfInBounds 129 (.int .i64 q.length)) 226 (0,0))):
  Ring w' b q ((c.setIfInBounds 128 (.int .i64 ((f+1)%64:Nat))).setIfInBounds 129 (.int .i64 q.length)) ((f+1)%64):=by
 have hs:=h.size;have hq:=h.q64;simp only[List.length_cons] at hq;refine⟨hw,by simp[hs],Nat.mod_lt _ (by decide),by omega,?_,?_,?_,?_,?_⟩
 ·rw[g_ (by omega),Array.getElem?_setIfInBounds_self_of_lt (by omega)]
 ·rw[Array.getElem?_setIfInBounds_self_of_lt (by simp[hs])]
 ·rw[g_ (by omega),g_ (by omega)];exact h.made
 ·intro i hi;obtain⟨y1,y2,e1,e2⟩:=h.ints i hi;refine⟨y1,y2,?_,?_⟩
  ·rw[g_ (by omega),g_ (by omega)];exact e1
  ·rw[g_ (by omega),g_ (by omega)];exact e2
 ·intro i y hy;have hi:=(bE.1 hy).1;obtain⟨e1,e2⟩:=h.cells (i+1) y (by simpa using hy);rw[show((f+1)%64+i)%64=(f+(i+1))%64 from by omega];have:(f+(i+1))%64<64:=Nat.mod_lt _ (by decide);refine⟨?_,?_⟩
  ·rw[g_ (by omega),g_ (by omega)];exact e1
  ·rw[g_ (by omega),g_ (by omega)];exact e2
def Rz (w:World) (e:Ending) (w':World):Prop:=e= .returned (.tuple #[.agg #[.int .i64 0,.int .i64 0],.bool false])/\Below w.heap.size w w'
theorem Lv {w:World} {b:Nat} {c:Array Value} {f:Nat} (h:Ring w b [] c f):
  Calls Tryz.prog 106 #[.pointer (some ⟨b,0,none⟩)] w (Rz w):=by
 have c1:∀o,(w.alloc o).cell? ⟨b,129,none⟩=some (.int .i64 0):=fun o=>af (bz h.blk) h.many
 have H:∀o,Ring (w.alloc o) b [] c f:=fun o=>h.below ((aQ _ _).alloc (aR _) _)
 have HH:=ag H;clear h H;go_in;go_wp2_with fail;refine(sj (HH.out _)).mono ?_;rintro e w1 ⟨rfl,rfl⟩;go_wp2;refine bodyPost_ret (v:=.tuple #[.agg #[.int .i64 0,.int .i64 0],.bool false]) (by simp[results,Tryz.results106,go_sem]) rfl ⟨rfl,(aQ _ _).alloc (aR _) _⟩
def Tm (b:Nat) (x:Int×Int) (q:List (Int×Int)) (w:World) (e:Ending) (w':World):Prop:=
 e= .returned (.tuple #[.agg #[.int .i64 x.1,.int .i64 x.2],.bool true])/\(∃c' f',Ring w' b q c' f')/\bH (fun k=>k=b) w w'
theorem NP {w:World} {b:Nat} {x:Int×Int} {q:List (Int×Int)} {c:Array Value} {f:Nat} (h:Ring w b (x::q) c f):
  Calls Tryz.prog 106 #[.pointer (some ⟨b,0,none⟩)] w (Tm b x q w):=by
 have h64:=h.q64;simp only[List.length_cons] at h64;have hf:=h.f64;have hb:b<w.heap.size:=h.lt;have c1:=af h.blk h.many;have c1f:=aJ (o:=129) h.blk;have c0:=af h.blk h.first;have c0f:=aJ (o:=128) h.blk;have hx:=h.cells 0 x rfl;have c2:=af h.blk hx.1;have c3:=af h.blk hx.2;simp only[Nat.add_zero] at c2 c3;simp only[List.length_cons] at c1;have H:∀o,Ring (w.alloc o) b (x::q) c f:=fun o=>h.below ((aQ _ _).alloc (aR _) _)
 have HH:=ag H;have HB:=ag h;have tq:(((q.length+1:Nat):Int)==0)=false:=by rw[bY];omega
 have e1:((f:Int)+1).tmod 64=((f+1)%64:Nat):=by
  rw[Int.tmod_eq_emod_of_nonneg (by omega)];omega
 clear h H hx;go_in;go_wp2_with fail;refine(sj (HH.out _)).mono ?_;rintro e w1 ⟨rfl,rfl⟩;go_wp2_with fail;refine(KP (HH.out _) 0 (by omega) 0).mono ?_;rintro e w2 ⟨rfl,n,rfl⟩;rw[Nat.add_zero];have hfm:f%64<64:=Nat.mod_lt _ (by decide);go_wp2;have hR0:((w.alloc (Obj.cells #[Value.int IntKind.i64 0,Value.int IntKind.i64 0] 99)).drewN n).heap[w.heap.size]? =some (.cells #[Value.int IntKind.i64 0,Value.int IntKind.i64 0] 99 (0,0)):=aX _ _;have hB0:((w.alloc (Obj.cells #[Value.int IntKind.i64 0,Value.int IntKind.i64 0] 99)).drewN n).heap[b]? =some (.cells c 226 (0,0)):=bz HB.out.blk;have hne:w.heap.size≠b:=by omega
 have hR:=aK (o:=1) (.int .i64 x.2) (aK (o:=0) (.int .i64 x.1) (jV (a:=⟨b,129,none⟩) (u:=.int .i64 q.length) (jV (a:=⟨b,128,none⟩) (u:=.int .i64 (((f:Int)+1)%64)) hR0 hne) hne));have hQ:=jV (a:=⟨w.heap.size,1,none⟩) (u:=.int .i64 x.2) (jV (a:=⟨w.heap.size,0,none⟩) (u:=.int .i64 x.1) (aK (o:=129) (.int .i64 q.length) (aK (o:=128) (.int .i64 (((f:Int)+1)%64)) hB0)) (Ne.symm hne)) (Ne.symm hne);have hR':=bz (o:=Obj.cells #[Value.int IntKind.i64 x.fst,Value.int IntKind.i64 x.snd] 99) hR;have hQ':=bz (o:=Obj.cells #[Value.int IntKind.i64 x.fst,Value.int IntKind.i64 x.snd] 99) hQ;refine bodyPost_ret (v:=.tuple #[.agg #[.int .i64 x.1,.int .i64 x.2],.bool true]) ?_ rfl ?_
 ·have r0:=af (o:=0) hR' rfl;have r1:=af (o:=1) hR' rfl;simp[results,Tryz.results106,go_sem,r0,r1]
 ·refine⟨rfl,⟨_,_,Qc HB.out (by rw[show(((f+1)%64:Nat):Int)=((f:Int)+1)%64 from by omega];exact hQ')⟩,?_⟩;exact(((((((bH.refl (fun k=>k=b) _).alloc _).drewN n).setCell (.inl rfl) _).setCell (.inl rfl) _).setCell (.inr (aR _)) _).setCell (.inr (aR _)) _).alloc _
def jS (q:List (Int×Int)) (a:Int):Option Int:=(q.reverse.find? fun c=>c.1==a).map (·.2)
theorem Da {q:List (Int×Int)} {a:Int} (h:∀(i:Nat) (x:Int×Int),q[i]? =some x->x.1≠a):jS q a=none:=by
 unfold jS;rw[Option.map_eq_none_iff,List.find?_eq_none];intro x hx;obtain⟨i,hi⟩:=List.getElem?_of_mem (List.mem_reverse.1 hx);simpa using h i x hi
theorem C8 {q:List (Int×Int)} {a:Int} {k:Nat} {x:Int×Int} (hk:q[k]? =some x) (hx:x.1=a) (h:∀(i:Nat) (y:Int×Int),k<i->q[i]? =some y->y.1≠a):jS q a=some x.2:=by
 have e:q.reverse=(q.drop (k+1)).reverse++x::(q.take k).reverse:=by
  obtain⟨hlt,rfl⟩:=bE.1 hk;have:q=q.take k++(q[k]::q.drop (k+1)):=by simp
  conv=>lhs;rw[this]
  simp
 unfold jS;rw[e,List.find?_append];have h1:(q.drop (k+1)).reverse.find? (fun c=>c.1==a)=none:=by
  rw[List.find?_eq_none];intro y hy;obtain⟨i,hi⟩:=List.getElem?_of_mem (List.mem_reverse.1 hy);rw[List.getElem?_drop] at hi;simpa using h _ y (by omega) hi
 rw[h1];simp[hx]
def DD (q:List (Int×Int)) (a:Int):Value:=match jS q a with
 |some v=>.tuple #[.int .i64 v,.bool true]
 |none=>.tuple #[.int .i64 0,.bool false]
def R4 (q:List (Int×Int)) (a:Int) (w:World) (e:Ending) (w':World):Prop:=e= .returned (DD q a)/\∃n,w'=w.drewN n
theorem Ty {w:World} {b:Nat} {q:List (Int×Int)} {c:Array Value} {f:Nat} (h:Ring w b q c f) (a:Int):
  Calls Tryz.prog 169 #[.pointer (some ⟨b,0,none⟩),.int .i64 a] w (R4 q a w):=by
 have c1:=af h.blk h.many;have h64:=h.q64;have H:=ag h;clear h;go_in;go_wp2_with fail;refine(sj H.out).mono ?_;rintro e w1 ⟨rfl,rfl⟩;go_wp2_with fail;go_loopw [6] (fun i wr=>∃k:Nat,k<=q.length/\i= .int .i64 ((k:Int) - 1)/\(∃n,wr=w1.drewN n)/\∀j y,k<=j->q[j]? =some y->y.1≠a) (fun i _=>(intOf i+1).toNat)
 case atStart=>exact⟨q.length,aR _,rfl,⟨0,rfl⟩,fun j y hj hy=>by have:=(bE.1 hy).1;omega⟩
 case round=>
  obtain⟨k,hk,rfl,⟨n,rfl⟩,hall⟩:=hrel;have HA:=ag hall;clear hall;by_cases h0:k=0
  ·subst h0;go_wp2
   go_ret2
   refine⟨?_,n,rfl⟩;unfold DD;rw[Da (fun i x hx=>HA.out i x (by omega) hx)];rfl
  ·obtain⟨m,rfl⟩:∃m,k=m+1:=⟨k - 1,by omega⟩;obtain⟨x,hx⟩:=bW (l:=q) (k:=m) (by omega);have hc:=H.out.cells m x hx;have c2:=af H.out.blk hc.1;have c3:=af H.out.blk hc.2;have HX:=ag hx;have e1:(((m+1:Nat):Int) - 1)=m:=by omega
   rw[e1];clear hx hc e1 h0;go_wp2_with fail;refine(KP (H.out.drewN n) m (by omega)).mono ?_;rintro e w2 ⟨rfl,n2,rfl⟩;by_cases ha:x.1=a
   ·have ta:((x.1:Int)==a)=true:=by rw[ha];simp
    go_wp2
    go_ret2
    refine⟨?_,_,rfl⟩;unfold DD;rw[C8 HX.out ha (fun i y hi hy=>HA.out i y (by omega) hy)];rfl
   ·have ta:((x.1:Int)==a)=false:=by rw[bY];exact ha
    go_wp2;refine⟨⟨m,by omega,rfl,⟨_,rfl⟩,fun j y hj hy=>?_⟩,by simp[intOf]⟩;rcases Nat.lt_or_ge m j with h|h
    ·exact HA.out j y h hy
    ·obtain rfl:j=m:=by omega
     have:=HX.out;rw[hy] at this;simp only[bU] at this;subst this;exact ha
structure MT where
 code:List bM
 reg:Nat->Int
 at_:Int
 wait:List (Int×Int)
 out:List Int
 fin:Int
structure MM where
 mem:List Int
 aM:List MT
 evs:List Ev
def MT.new (code:List bM):MT:=⟨code,fun _=>0,0,[],[],0⟩
def fq (x:Int):Int:=wrap64 x
theorem eT {x:Int} (h: -9223372036854775808<=x/\x<=9223372036854775807):fq x=x:=by unfold fq wrap64;omega
theorem zm (x:Int):IntKind.i64.wrap x=fq x:=IntWalk.i64_left x
def vM (b:Bool):Int:=if b=true then 1 else 0
def gL (c a b:Int):Option Int:=
 if c=1 then some (fq (a+b))
 else if c=2 then some (fq (a - b))
 else if c=3 then some (fq (a*b))
 else if c=4 then(if b=0 then none else some (fq (a.tdiv b)))
 else if c=5 then(if b=0 then none else some (a.tmod b))
 else if c=6 then some (bits BinOp.and IntKind.i64 a b)
 else if c=7 then some (bits BinOp.or IntKind.i64 a b)
 else if c=8 then some (bits BinOp.xor IntKind.i64 a b)
 else if c=9 then some (fq (a*2 ^ min (IntKind.u64.wrap (bits BinOp.and IntKind.i64 b 63)).toNat 64))
 else if c=10 then some (fq (IntKind.u64.wrap a/2 ^ min (IntKind.u64.wrap (bits BinOp.and IntKind.i64 b 63)).toNat 64))
 else if c=11 then some (vM (a==b))
 else if c=12 then some (vM (a !=b))
 else if c=13 then some (vM (decide (a<b)))
 else if c=14 then some (vM (decide (a<=b)))
 else none
def MT.r (t:MT) (i:Int):Int:=t.reg i.toNat
def MT.goes (t:MT) (i v:Int):MT:={t with reg:=upd t.reg i.toNat v,at_:=t.at_+1}
def MT.next (t:MT):MT:={t with at_:=t.at_+1}
def MM.put (m:MM) (n:Nat) (t:MT):MM:={m with aM:=m.aM.set n t}
def MM.tell (m:MM) (n:Nat) (k a b:Int):MM:={m with evs:=m.evs++[⟨n,k,a,b⟩]}
def MM.stop (m:MM) (n:Nat) (t:MT) (k:Int):MM:=(m.put n {t with fin:=k}).tell n (if k=1 then 10 else 11) (if k=1 then 0 else k) 0
def MT.word (t:MT) (o:bM):Option Int:=
 if o.kind=4\/o.kind=15 then some (fq (t.r o.b+o.n))
 else if o.kind=5\/o.kind=8\/o.kind=9 then some (fq (t.r o.a+o.n))
 else none
def MT.waits (t:MT) (o:bM):Bool:=
 if o.kind=5 then decide (64<=t.wait.length)
 else if o.kind=8\/o.kind=9\/o.kind=10 then decide (0<t.wait.length)
 else false
def MM.at (m:MM) (a:Int):Int:=m.mem.getD a.toNat 0
def MM.found (m:MM) (t:MT) (a:Int):Int:=(jS t.wait a).getD (m.at a)
def MM.has (m:MM) (a:Int):Bool:=decide (0<=a/\a<m.mem.length)
def MM.act (m:MM) (n:Nat) (t:MT) (o:bM) (a:Int):MM:=
 if o.kind=1 then m.put n (t.goes o.a o.n)
 else if o.kind=2 then m.put n (t.goes o.a (t.r o.b))
 else if o.kind=3 then(match gL o.bn (t.r o.a) (t.r o.b) with
  |none=>m.stop n t 2
  |some v=>m.put n (t.goes o.a v))
 else if o.kind=4 then m.put n (t.goes o.a (m.found t a))
 else if o.kind=5 then m.put n {t.next with wait:=t.wait++[(a,t.r o.b)]}
 else if o.kind=6 then m.put n {t with at_:=o.n}
 else if o.kind=7 then m.put n {t with at_:=if t.r o.a=0 then o.n else t.at_+1}
 else if o.kind=8 then {m with mem:=if m.at a=t.r o.b then m.mem.set a.toNat (t.r o.c) else m.mem}.put n (t.goes o.b (m.at a))
 else if o.kind=9 then {m with mem:=m.mem.set a.toNat (fq (m.at a+t.r o.b))}.put n (t.goes o.b (m.at a))
 else if o.kind=10 then m.put n t.next
 else if o.kind=11 then(m.put n {t.next with out:=t.out++[t.r o.a]}).tell n 9 (t.r o.a) 0
 else if o.kind=12 then(m.put n t.next).tell n o.n (t.r o.a) (t.r o.b)
 else if o.kind=13 then m.stop n t o.n
 else if o.kind=14 then m.stop n t 1
 else if o.kind=15 then(m.put n (t.goes o.a (m.found t a))).tell n 1 (m.found t a) 0
 else m
def MM.go (m:MM) (n:Nat) (t:MT):Bool×MM:=
 match(if t.at_<0 then none else t.code[t.at_.toNat]?) with
 |none=>(true,m.stop n t 8)
 |some o=>
  match t.word o with
  |none=>if t.waits o=true then(false,m) else(true,m.act n t o 0)
  |some a=>if m.has a=true then(if t.waits o=true then(false,m) else(true,m.act n t o a)) else(true,m.stop n t 8)
def MM.xq (m:MM) (z:Int):Option MT:=if z<0 then none else m.aM[z.toNat]?
def MM.step (m:MM) (z:Int):Bool×MM:=
 match m.xq z with
 |none=>(false,m)
 |some t=>if t.fin≠0 then(false,m) else m.go z.toNat t
def MM.flush (m:MM) (z:Int):Bool×MM:=
 match m.xq z with
 |none=>(false,m)
 |some t=>match t.wait with
  |[]=>(false,m)
  |c::r=>(true,{m with mem:=m.mem.set c.1.toNat c.2}.put z.toNat {t with wait:=r})
section
inductive Pt
 |look|rd|Bz|dat|ym|wr|full|ro|Eg|zw|qG|Bc|BM|wb|rel|DK|u6|out|halt|over
inductive fF
 |dat (x v:Int)
 |lock (s:Nat) (v:Int)
structure aO where
 pt:Pt
 row:Nat
 op:Nat
 bX:Int
 reads:Nat
 log:List (Int×Int)
 sum:Int
 held:Nat->Bool
 old:Nat->Int
 new:Int
 x:Int
 v:Int
 l1:Int
 s:Nat
 i:Nat
 buf:List fF
 out:List Int
 fin:Int
def aO.none:aO:=⟨.over,0,0,0,0,[],0,fun _=>false,fun _=>0,0,0,0,0,0,0,[],[],0⟩
structure AS where
 data:Int->Int
 clock:Int
 aN:Nat->Int
 aM:Nat->aO
 evs:List Ev
def sL (s:Nat) (v:Int) (e:fF):Int:=match e with
 |.lock k u=>if k=s then u else v
 |.dat _ _=>v
def sD (x:Int) (v:Int) (e:fF):Int:=match e with
 |.dat y u=>if y=x then u else v
 |.lock _ _=>v
def dh (b:List fF) (L:Nat->Int) (s:Nat):Int:=b.foldl (sL s) (L s)
def sU (b:List fF) (D:Int->Int) (x:Int):Int:=b.foldl (sD x) (D x)
def nS (p:Nat->Bool) (s:Nat):Option Nat:=(List.range 16).find? (fun k=>decide (s<=k) && p k)
theorem jc {p:Nat->Bool} {s k:Nat} (h:nS p s=some k):s<=k/\k<16/\p k=true/\∀j,s<=j->j<k->p j=false:=by
 unfold nS at h;have h1:=List.find?_some h;have h2:=List.mem_of_find?_eq_some h;simp only[Bool.and_eq_true,decide_eq_true_eq] at h1;refine⟨h1.1,by simpa using h2,h1.2,fun j hj hjk=>?_⟩;rw[List.find?_eq_some_iff_append] at h;obtain⟨-,ls,bs,e,hno⟩:=h;have hlen:ls.length=k:=by
  have h6:(List.range 16)[ls.length]? =some k:=by rw[e];simp
  have h7:=List.getElem?_range (show ls.length<16 by
   have:=congrArg List.length e;simp at this;omega)
  rw[h7] at h6;simpa using h6
 have agu:k<16:=by simpa using h2
 have h6:ls[j]? =some j:=by
  have h7:=List.getElem?_range (show j<16 by omega);rw[e,List.getElem?_append_left (by omega)] at h7;exact h7
 have:=hno j (bA h6);simpa [hj] using this
theorem nV {p:Nat->Bool} {s:Nat} (h:nS p s=none):∀j,s<=j->j<16->p j=false:=by
 unfold nS at h;rw[List.find?_eq_none] at h;intro j h1 h2;have:=h j (by simpa using h2);simpa [h1] using this
theorem yV {p:Nat->Bool} {s:Nat} (h:∀j,s<=j->j<16->p j=false):nS p s=none:=by
 unfold nS;rw[List.find?_eq_none];intro j hj;have hj:j<16:=by simpa using hj
 by_cases h1:s<=j
 ·simp[h j h1 hj]
 ·simp[h1]
theorem zy {p:Nat->Bool} {s k:Nat} (h1:s<=k) (h2:k<16) (h3:p k=true) (h4:∀j,s<=j->j<k->p j=false):nS p s=some k:=by
 cases h:nS p s with
 |none=>rw[nV h k h1 h2] at h3;cases h3
 |some j=>
  obtain⟨q1,q2,q3,q4⟩:=jc h;rcases Nat.lt_trichotomy j k with e|e|e
  ·rw[h4 j q1 e] at q3;cases q3
  ·rw[e]
  ·rw[q4 k h1 e] at h3;cases h3
def kz (log:List (Int×Int)) (x v:Int):List (Int×Int):=if place log x<log.length then log.set (place log x) (x,v) else log++[(x,v)]
def aO.cu (a:aO) (s:Nat):aO:=match nS (fun k=>(needs a.log).testBit k) s with
 |some k=>{a with pt:=.Eg,s:=k}
 |.none=>{a with pt:=.qG}
def aO.cz (a:aO) (s:Nat):aO:=match nS (fun k=>a.reads.testBit k) s with
 |some k=>{a with pt:=.Bc,s:=k}
 |.none=>{a with pt:=.BM}
def aO.dV (a:aO) (s:Nat):aO:=match nS a.held s with
 |some k=>{a with pt:=.rel,s:=k}
 |.none=>{a with pt:=.out}
def aO.bJ (a:aO) (s:Nat):aO:=match nS a.held s with
 |some k=>{a with pt:=.DK,s:=k}
 |.none=>{a with pt:=.u6}
def aO.iB (a:aO) (i:Nat):aO:=if i<a.log.length then {a with pt:=.wb,i:=i} else a.dV 0
def aO.fu (rs:List (List Tx)) (a:aO):aO:=if a.row<rs.length then {a with pt:=.look} else {a with pt:=.halt}
def aO.bL (l:List Tx) (a:aO):aO:=match l[a.op]? with
 |some o=>
  if o.kind=2 then(match a.log[place a.log o.at_]? with
   |some c=>{a with pt:=.rd,x:=o.at_,v:=c.2}
   |.none=>{a with pt:=.Bz,x:=o.at_})
  else if place a.log o.at_<a.log.length\/a.log.length<64 then {a with pt:=.wr,x:=o.at_,v:=fq (a.sum+o.v)}
  else {a with pt:=.full}
 |.none=>if a.log=[] then {a with pt:=.ro} else a.cu 0
def aO.begin (rs:List (List Tx)):aO:=aO.none.fu rs
def AS.set (m:AS) (n:Nat) (a:aO):AS:={m with aM:=upd m.aM n a}
def AS.tell (m:AS) (n:Nat) (k a b:Int):AS:={m with evs:=m.evs++[⟨n,k,a,b⟩]}
def AS.act (rs:List (List Tx)) (m:AS) (n:Nat):AS:=
 let a:=m.aM n
 let l:=rs.getD a.row []
 match a.pt with
 |.look=>(m.set n ({a with bX:=m.clock,reads:=0,log:=[],sum:=0,held:=fun _=>false,op:=0}.bL l)).tell n 1 m.clock 0
 |.rd=>(m.set n ({a with op:=a.op+1,sum:=fq (a.sum+a.v)}.bL l)).tell n 2 a.x a.v
 |.Bz=>if dh a.buf m.aN (aV a.x)%2≠0\/a.bX<dh a.buf m.aN (aV a.x)/2 then m.set n {a with pt:=.u6} else m.set n {a with pt:=.dat,l1:=dh a.buf m.aN (aV a.x)}
 |.dat=>m.set n {a with pt:=.ym,v:=sU a.buf m.data a.x}
 |.ym=>if dh a.buf m.aN (aV a.x)=a.l1 then m.set n {a with pt:=.rd,reads:=a.reads|||1<<<aV a.x} else m.set n {a with pt:=.u6}
 |.wr=>(m.set n ({a with op:=a.op+1,log:=kz a.log a.x a.v}.bL l)).tell n 3 a.x a.v
 |.full=>(m.set n {a with pt:=.over,fin:=6}).tell n 11 6 0
 |.ro=>(m.set n {a with pt:=.out}).tell n 7 a.bX 0
 |.Eg=>if dh a.buf m.aN a.s%2≠0 then m.set n (a.bJ 0) else m.set n {a with pt:=.zw,l1:=dh a.buf m.aN a.s}
 |.zw=>if m.aN a.s=a.l1 then {m with aN:=upd m.aN a.s (2*n+1)}.set n ({a with held:=upd a.held a.s true,old:=upd a.old a.s a.l1}.cu (a.s+1)) else m.set n (a.bJ 0)
 |.qG=>{m with clock:=m.clock+1}.set n ({a with new:=m.clock+1}.cz 0)
 |.Bc=>if dh a.buf m.aN a.s%2=0 then(if a.bX<dh a.buf m.aN a.s/2 then m.set n (a.bJ 0) else m.set n (a.cz (a.s+1)))
  else if dh a.buf m.aN a.s=2*n+1 then(if a.bX<a.old a.s/2 then m.set n (a.bJ 0) else m.set n (a.cz (a.s+1)))
  else m.set n (a.bJ 0)
 |.BM=>(m.set n (a.iB 0)).tell n 7 a.new 1
 |.wb=>match a.log[a.i]? with
  |some c=>m.set n ({a with buf:=a.buf++[fF.dat c.1 c.2]}.iB (a.i+1))
  |.none=>m
 |.rel=>m.set n ({a with buf:=a.buf++[fF.lock a.s (2*a.new)],held:=upd a.held a.s false}.dV (a.s+1))
 |.DK=>m.set n ({a with buf:=a.buf++[fF.lock a.s (a.old a.s)],held:=upd a.held a.s false}.bJ (a.s+1))
 |.u6=>(m.set n {a with pt:=.look}).tell n 8 0 0
 |.out=>(m.set n ({a with row:=a.row+1,out:=a.out++[a.sum]}.fu rs)).tell n 9 a.sum 0
 |.halt=>(m.set n {a with pt:=.over,fin:=1}).tell n 10 0 0
 |.over=>m
def AS.flush (m:AS) (n:Nat):AS:=match(m.aM n).buf with
 |[]=>m
 |.dat x v::r=>{m with data:=fun y=>if y=x then v else m.data y}.set n {m.aM n with buf:=r}
 |.lock s v::r=>{m with aN:=upd m.aN s v}.set n {m.aM n with buf:=r}
def aO.bare (a:aO):Prop:=(a.pt= .zw\/a.pt= .qG)->a.buf=[]
variable {m:AS} {n:Nat} {a:aO} {rs:List (List Tx)}
theorem qF (h:m.aM n=a) (hp:a.pt= .look):m.act rs n=(m.set n ({a with bX:=m.clock,reads:=0,log:=[],sum:=0,held:=fun _=>false,op:=0}.bL (rs.getD a.row []))).tell n 1 m.clock 0:=by
 unfold AS.act;rw[h];simp only[hp]
theorem xV (h:m.aM n=a) (hp:a.pt= .rd):m.act rs n=(m.set n ({a with op:=a.op+1,sum:=fq (a.sum+a.v)}.bL (rs.getD a.row []))).tell n 2 a.x a.v:=by
 unfold AS.act;rw[h];simp only[hp]
theorem uo (h:m.aM n=a) (hp:a.pt= .Bz):m.act rs n=if dh a.buf m.aN (aV a.x)%2≠0\/a.bX<dh a.buf m.aN (aV a.x)/2 then m.set n {a with pt:=.u6} else m.set n {a with pt:=.dat,l1:=dh a.buf m.aN (aV a.x)}:=by
 unfold AS.act;rw[h];simp only[hp]
theorem uy (h:m.aM n=a) (hp:a.pt= .dat):m.act rs n=m.set n {a with pt:=.ym,v:=sU a.buf m.data a.x}:=by
 unfold AS.act;rw[h];simp only[hp]
theorem uz (h:m.aM n=a) (hp:a.pt= .ym):m.act rs n=if dh a.buf m.aN (aV a.x)=a.l1 then m.set n {a with pt:=.rd,reads:=a.reads|||1<<<aV a.x} else m.set n {a with pt:=.u6}:=by
 unfold AS.act;rw[h];simp only[hp]
theorem xR (h:m.aM n=a) (hp:a.pt= .wr):m.act rs n=(m.set n ({a with op:=a.op+1,log:=kz a.log a.x a.v}.bL (rs.getD a.row []))).tell n 3 a.x a.v:=by
 unfold AS.act;rw[h];simp only[hp]
theorem yU (h:m.aM n=a) (hp:a.pt= .full):m.act rs n=(m.set n {a with pt:=.over,fin:=6}).tell n 11 6 0:=by
 unfold AS.act;rw[h];simp only[hp]
theorem xL (h:m.aM n=a) (hp:a.pt= .ro):m.act rs n=(m.set n {a with pt:=.out}).tell n 7 a.bX 0:=by
 unfold AS.act;rw[h];simp only[hp]
theorem uB (h:m.aM n=a) (hp:a.pt= .Eg):m.act rs n=if dh a.buf m.aN a.s%2≠0 then m.set n (a.bJ 0) else m.set n {a with pt:=.zw,l1:=dh a.buf m.aN a.s}:=by
 unfold AS.act;rw[h];simp only[hp]
theorem tX (h:m.aM n=a) (hp:a.pt= .zw):m.act rs n=if m.aN a.s=a.l1 then {m with aN:=upd m.aN a.s (2*n+1)}.set n ({a with held:=upd a.held a.s true,old:=upd a.old a.s a.l1}.cu (a.s+1)) else m.set n (a.bJ 0):=by
 unfold AS.act;rw[h];simp only[hp]
theorem qJ (h:m.aM n=a) (hp:a.pt= .qG):m.act rs n={m with clock:=m.clock+1}.set n ({a with new:=m.clock+1}.cz 0):=by
 unfold AS.act;rw[h];simp only[hp]
theorem uN (h:m.aM n=a) (hp:a.pt= .Bc):m.act rs n=if dh a.buf m.aN a.s%2=0 then(if a.bX<dh a.buf m.aN a.s/2 then m.set n (a.bJ 0) else m.set n (a.cz (a.s+1)))
  else if dh a.buf m.aN a.s=2*n+1 then(if a.bX<a.old a.s/2 then m.set n (a.bJ 0) else m.set n (a.cz (a.s+1)))
  else m.set n (a.bJ 0):=by
 unfold AS.act;rw[h];simp only[hp]
theorem uP (h:m.aM n=a) (hp:a.pt= .BM):m.act rs n=(m.set n (a.iB 0)).tell n 7 a.new 1:=by
 unfold AS.act;rw[h];simp only[hp]
theorem xJ (h:m.aM n=a) (hp:a.pt= .wb) {c:Int×Int} (hc:a.log[a.i]? =some c):m.act rs n=m.set n ({a with buf:=a.buf++[fF.dat c.1 c.2]}.iB (a.i+1)):=by
 unfold AS.act;rw[h];simp only[hp,hc]
theorem uI (h:m.aM n=a) (hp:a.pt= .rel):m.act rs n=m.set n ({a with buf:=a.buf++[fF.lock a.s (2*a.new)],held:=upd a.held a.s false}.dV (a.s+1)):=by
 unfold AS.act;rw[h];simp only[hp]
theorem tY (h:m.aM n=a) (hp:a.pt= .DK):m.act rs n=m.set n ({a with buf:=a.buf++[fF.lock a.s (a.old a.s)],held:=upd a.held a.s false}.bJ (a.s+1)):=by
 unfold AS.act;rw[h];simp only[hp]
theorem uw (h:m.aM n=a) (hp:a.pt= .u6):m.act rs n=(m.set n {a with pt:=.look}).tell n 8 0 0:=by
 unfold AS.act;rw[h];simp only[hp]
theorem uh (h:m.aM n=a) (hp:a.pt= .out):m.act rs n=(m.set n ({a with row:=a.row+1,out:=a.out++[a.sum]}.fu rs)).tell n 9 a.sum 0:=by
 unfold AS.act;rw[h];simp only[hp]
theorem qM (h:m.aM n=a) (hp:a.pt= .halt):m.act rs n=(m.set n {a with pt:=.over,fin:=1}).tell n 10 0 0:=by
 unfold AS.act;rw[h];simp only[hp]
theorem tu (h:m.aM n=a) (hp:a.pt= .over):m.act rs n=m:=by
 unfold AS.act;rw[h];simp only[hp]
end
end Go.Proofs.YtopdcjimpdalpaaGreat

import Derived.Test.YtopdcjimpdalpaaGreatP43
import Derived.Test.YtopdcjimpdalpaaGreatP41
import Derived.Deep.CutRange
namespace Go.Proofs.YtopdcjimpdalpaaGreat
open Go.RowKit
set_option linter.all false
set_option maxHeartbeats 8000000
set_option maxRecDepth 100000
theorem Um:(Tryz.prog.info? 99).map (fun i=>(i.zero,i.size,i.bytes))=some (some (.agg #[.int .i64 0,.int .i64 0]),2,16):=by kernel_rfl
theorem zV {l:List (Int×Int)} {a:Int} {k:Nat} {c:Int×Int} (hc:l[k]? =some c) (ha:c.1=a):place l a<=k:=by
 rcases Nat.lt_or_ge k (place l a) with h|h
 ·have:=List.not_of_lt_findIdx h;obtain⟨hk,rfl⟩:=bu.1 hc;simp[ha] at this
 ·exact h
theorem WJ (c:Int×Int):∀u∈dQ c,u.oneCell'=true:=by
 intro u hu;simp[dQ] at hu;rcases hu with rfl|rfl<;>rfl
theorem YU {α:Type} {enc:α->List Value} {sz:Nat} (he:∀a,(enc a).length=sz) {w:World} {g:Nat} {T:TypeId} {l:List α} {c:Array Value} (h:w.heap[g]? =some (.cells c T (0,0))) (hc:c=(l.flatMap enc).toArray):
  dH enc w sz (.slice (some ⟨g,0,none⟩) l.length l.length) l:=by
 subst hc;refine⟨jD he l,_,_,rfl,aB _,fun _=>⟨g,0,rfl,lt_of_block h,fun j u hj=>?_⟩⟩;rw[Nat.zero_add];exact af h (by simpa using hj)
section
variable {w w':World}
structure xm (a:bJ):Prop where
 th:0<=a.th/\a.th<4
 kind:a.kind=0/\a.fin= -1\/(a.kind=1\/a.kind=2\/a.kind=3)/\a.dN<a.fin
 dN:0<=a.dN
 clock:0<=a.clock
 plain:a.kind≠1->a.place=0/\a.writer=false
 evs:∀e∈a.done,e.th=a.th/\0<=e.a/\e.a<262144/\(e.k=2\/e.k=3)
 few:a.done.length<=2097152
structure tK (w:World) (v:Value) (ps:List (bJ×Value)):Prop where
 row:dH enc2 w 8 v ps
 evs:∀p∈ps,dH iB w 4 p.2 p.1.done
theorem tK.below {v:Value} {ps:List (bJ×Value)} (h:tK w v ps) (hb:Below w.heap.size w w'):tK w' v ps:=⟨Rd.below h.row hb,fun p hp=>Rd.below (h.evs p hp) hb⟩
theorem tK.of {base:Nat} {v:Value} {ps:List (bJ×Value)} (h:vU w base v ps):tK w v ps:=
 ⟨Rd.gu h.row,fun p hp=>by
  obtain⟨j,hj⟩:=List.getElem?_of_mem hp;exact Rd.gu (h.own j p hj)⟩
theorem Cq (th kind dN fin clock place:Int) (wr:Bool) (dv:Value) (k a b:Int) (h0:0<=a) (h1:a<262144) (hk:k=2\/k=3):
  Calls Tryz.prog 115 #[.agg #[.int .i64 th,.int .u8 kind,.int .i64 dN,.int .i64 fin,.int .i64 clock,.int .i64 place,.bool wr,dv],.agg #[.int .i64 th,.int .u8 k,.int .i64 a,.int .i64 b]] w fun e w'=>e= .returned (.bool true)/\Below w.heap.size w w':=by
 have hz:(th !=th)=false:=by simp
 have h2:¬a<0:=by omega
 have h3:¬262144<=a:=by omega
 rcases hk with rfl|rfl
 ·go_in;go_wp2_with fail;go_ret;exact⟨rfl,((au _ _).alloc (aB _) _).alloc (by simp) _⟩
 ·go_in;go_wp2_with fail;go_ret;exact⟨rfl,((au _ _).alloc (aB _) _).alloc (by simp) _⟩
theorem UW {ao:Option Addr} {cap:Nat} {done:List Ev} {th dN clock:Int} (hth:0<=th/\th<4) (NW:0<=dN) (yB:0<=clock) (hev:∀e∈done,e.th=th/\0<=e.a/\e.a<262144/\(e.k=2\/e.k=3)) (xR:done.length<=2097152) (hd:dH iB w 4 (.slice ao done.length cap) done):
  Calls Tryz.prog 77 #[.agg #[.int .i64 th,.int .u8 0,.int .i64 dN,.int .i64 (-1),.int .i64 clock,.int .i64 0,.bool false,.slice ao done.length cap]] w fun e w'=>e= .returned (.bool true)/\Below w.heap.size w w':=by
 have HD:=ag hd;have Cc:=ag hev;have g1:¬th<0:=by omega
 have g2:¬4<=th:=by omega
 have g3:¬dN<0:=by omega
 have g4:¬clock<0:=by omega
 clear hd hev hth NW yB;have hb0:Below w.heap.size w (w.alloc (.cells #[.int .i64 th,.int .u8 0,.int .i64 dN,.int .i64 (-1),.int .i64 clock,.int .i64 0,.bool false,.slice ao done.length cap] 76)):=(au _ _).alloc (aB _) _;have HB0:=ag hb0;have HX0:=ag (aj w (.cells #[.int .i64 th,.int .u8 0,.int .i64 dN,.int .i64 (-1),.int .i64 clock,.int .i64 0,.bool false,.slice ao done.length cap] 76));clear hb0;go_in;go_wp2_with fail;obtain⟨w0,hw0⟩:∃w0,w0=w.alloc (.cells #[.int .i64 th,.int .u8 0,.int .i64 dN,.int .i64 (-1),.int .i64 clock,.int .i64 0,.bool false,.slice ao done.length cap] 76):=⟨_,rfl⟩;rw[<-hw0] at HB0 HX0⊢;clear hw0;go_loopw [3] (fun i wr=>∃k:Nat,k<=done.length/\i= .int .i64 (k:Int)/\Hid (Below w0.heap.size w0 wr)) (fun i _=>((done.length:Int) - intOf i).toNat)
 case atStart=>exact⟨0,by omega,rfl,ag (au _ _)⟩
 case round=>
  obtain⟨k,hk,rfl,HW⟩:=hrel;have hx:=blk HW.out HX0.out;have q0:=fun t=>ak (af (o:=0) hx rfl) t
  have q1:=fun t=>ak (af (o:=1) hx rfl) t
  have q2:=fun t=>ak (af (o:=2) hx rfl) t
  have q3:=fun t=>ak (af (o:=3) hx rfl) t
  have q4:=fun t=>ak (af (o:=4) hx rfl) t
  have q5:=fun t=>ak (af (o:=5) hx rfl) t
  have q6:=fun t=>ak (af (o:=6) hx rfl) t
  have q7:=fun t=>ak (af (o:=7) hx rfl) t
  have p7:wr.cell? ⟨w.heap.size,7,none⟩=some (.slice ao done.length cap):=af hx rfl;clear hx;by_cases hlt:k<done.length
  ·obtain⟨⟨Ct,ek,ea,eb⟩,he⟩:=bE hlt;obtain⟨e1,e2,e3,e4⟩:=Cc.out _ (bC he);simp only at e1 e2 e3 e4;subst e1;obtain⟨b,off,rfl,hs1,hc⟩:=dH.at lS (Rd.below (Rd.below HD.out HB0.out) HW.out) he;have x0:=fun t=>ak (hc 0 _ rfl) t
   have x1:=fun t=>ak (hc 1 _ rfl) t
   have x2:=fun t=>ak (hc 2 _ rfl) t
   have x3:=fun t=>ak (hc 3 _ rfl) t
   simp only[Nat.add_zero] at x0;have E2:=ag e2;have E3:=ag e3;have E4:=ag e4;clear hc hs1 he e2 e3 e4;go_wp2_with fail;refine bG (by kernel_rfl) (by kernel_rfl) ?_;repeat (go_big_quiet_step ((first|(go_at_call 115;exact kQ (Cq _ _ _ _ _ _ _ _ _ _ _ E2.out E3.out E4.out)))))
   refine wpQuiet_nil ?_;intro wU hb;have HU:=ag (HW.out.trans (hb.mono HW.out.size));clear hb q0 q1 q2 q3 q4 q5 q6 q7 x0 x1 x2 x3 p7;go_wp2_with fail;exact⟨⟨k+1,by omega,by go_num,HU⟩,by simp[intOf];omega⟩
  ·obtain rfl:k=done.length:=by omega
   go_wp2_with fail;go_ret;exact⟨rfl,HB0.out.trans (HW.out.mono HB0.out.size)⟩
theorem Ub {ao:Option Addr} {cap:Nat} {done:List Ev} {th dN fin clock place:Int} {r_:Bool} (hth:0<=th/\th<4) (NW:0<=dN) (yB:0<=clock) (hfin:dN<fin) (hev:∀e∈done,e.th=th/\0<=e.a/\e.a<262144/\(e.k=2\/e.k=3)) (xR:done.length<=2097152) (hd:dH iB w 4 (.slice ao done.length cap) done):
  Calls Tryz.prog 77 #[.agg #[.int .i64 th,.int .u8 1,.int .i64 dN,.int .i64 fin,.int .i64 clock,.int .i64 place,.bool r_,.slice ao done.length cap]] w fun e w'=>e= .returned (.bool true)/\Below w.heap.size w w':=by
 have HD:=ag hd;have Cc:=ag hev;have g1:¬th<0:=by omega
 have g2:¬4<=th:=by omega
 have g3:¬dN<0:=by omega
 have g4:¬clock<0:=by omega
 have g5:¬fin<=dN:=by omega
 clear hfin;clear hd hev hth NW yB;have hb0:Below w.heap.size w (w.alloc (.cells #[.int .i64 th,.int .u8 1,.int .i64 dN,.int .i64 fin,.int .i64 clock,.int .i64 place,.bool r_,.slice ao done.length cap] 76)):=(au _ _).alloc (aB _) _;have HB0:=ag hb0;have HX0:=ag (aj w (.cells #[.int .i64 th,.int .u8 1,.int .i64 dN,.int .i64 fin,.int .i64 clock,.int .i64 place,.bool r_,.slice ao done.length cap] 76));clear hb0;go_in;go_wp2_with fail;obtain⟨w0,hw0⟩:∃w0,w0=w.alloc (.cells #[.int .i64 th,.int .u8 1,.int .i64 dN,.int .i64 fin,.int .i64 clock,.int .i64 place,.bool r_,.slice ao done.length cap] 76):=⟨_,rfl⟩;rw[<-hw0] at HB0 HX0⊢;clear hw0;go_loopw [3] (fun i wr=>∃k:Nat,k<=done.length/\i= .int .i64 (k:Int)/\Hid (Below w0.heap.size w0 wr)) (fun i _=>((done.length:Int) - intOf i).toNat)
 case atStart=>exact⟨0,by omega,rfl,ag (au _ _)⟩
 case round=>
  obtain⟨k,hk,rfl,HW⟩:=hrel;have hx:=blk HW.out HX0.out;have q0:=fun t=>ak (af (o:=0) hx rfl) t
  have q1:=fun t=>ak (af (o:=1) hx rfl) t
  have q2:=fun t=>ak (af (o:=2) hx rfl) t
  have q3:=fun t=>ak (af (o:=3) hx rfl) t
  have q4:=fun t=>ak (af (o:=4) hx rfl) t
  have q5:=fun t=>ak (af (o:=5) hx rfl) t
  have q6:=fun t=>ak (af (o:=6) hx rfl) t
  have q7:=fun t=>ak (af (o:=7) hx rfl) t
  have p7:wr.cell? ⟨w.heap.size,7,none⟩=some (.slice ao done.length cap):=af hx rfl;clear hx;by_cases hlt:k<done.length
  ·obtain⟨⟨Ct,ek,ea,eb⟩,he⟩:=bE hlt;obtain⟨e1,e2,e3,e4⟩:=Cc.out _ (bC he);simp only at e1 e2 e3 e4;subst e1;obtain⟨b,off,rfl,hs1,hc⟩:=dH.at lS (Rd.below (Rd.below HD.out HB0.out) HW.out) he;have x0:=fun t=>ak (hc 0 _ rfl) t
   have x1:=fun t=>ak (hc 1 _ rfl) t
   have x2:=fun t=>ak (hc 2 _ rfl) t
   have x3:=fun t=>ak (hc 3 _ rfl) t
   simp only[Nat.add_zero] at x0;have E2:=ag e2;have E3:=ag e3;have E4:=ag e4;clear hc hs1 he e2 e3 e4;go_wp2_with fail;refine bG (by kernel_rfl) (by kernel_rfl) ?_;repeat (go_big_quiet_step ((first|(go_at_call 115;exact kQ (Cq _ _ _ _ _ _ _ _ _ _ _ E2.out E3.out E4.out)))))
   refine wpQuiet_nil ?_;intro wU hb;have HU:=ag (HW.out.trans (hb.mono HW.out.size));clear hb q0 q1 q2 q3 q4 q5 q6 q7 x0 x1 x2 x3 p7;go_wp2_with fail;exact⟨⟨k+1,by omega,by go_num,HU⟩,by simp[intOf];omega⟩
  ·obtain rfl:k=done.length:=by omega
   go_wp2_with fail;go_ret;exact⟨rfl,HB0.out.trans (HW.out.mono HB0.out.size)⟩
theorem Us {ao:Option Addr} {cap:Nat} {done:List Ev} {th dN fin clock:Int} (hth:0<=th/\th<4) (NW:0<=dN) (yB:0<=clock) (hfin:dN<fin) (hev:∀e∈done,e.th=th/\0<=e.a/\e.a<262144/\(e.k=2\/e.k=3)) (xR:done.length<=2097152) (hd:dH iB w 4 (.slice ao done.length cap) done):
  Calls Tryz.prog 77 #[.agg #[.int .i64 th,.int .u8 2,.int .i64 dN,.int .i64 fin,.int .i64 clock,.int .i64 0,.bool false,.slice ao done.length cap]] w fun e w'=>e= .returned (.bool true)/\Below w.heap.size w w':=by
 have HD:=ag hd;have Cc:=ag hev;have g1:¬th<0:=by omega
 have g2:¬4<=th:=by omega
 have g3:¬dN<0:=by omega
 have g4:¬clock<0:=by omega
 have g5:¬fin<=dN:=by omega
 clear hfin;clear hd hev hth NW yB;have hb0:Below w.heap.size w (w.alloc (.cells #[.int .i64 th,.int .u8 2,.int .i64 dN,.int .i64 fin,.int .i64 clock,.int .i64 0,.bool false,.slice ao done.length cap] 76)):=(au _ _).alloc (aB _) _;have HB0:=ag hb0;have HX0:=ag (aj w (.cells #[.int .i64 th,.int .u8 2,.int .i64 dN,.int .i64 fin,.int .i64 clock,.int .i64 0,.bool false,.slice ao done.length cap] 76));clear hb0;go_in;go_wp2_with fail;obtain⟨w0,hw0⟩:∃w0,w0=w.alloc (.cells #[.int .i64 th,.int .u8 2,.int .i64 dN,.int .i64 fin,.int .i64 clock,.int .i64 0,.bool false,.slice ao done.length cap] 76):=⟨_,rfl⟩;rw[<-hw0] at HB0 HX0⊢;clear hw0;go_loopw [3] (fun i wr=>∃k:Nat,k<=done.length/\i= .int .i64 (k:Int)/\Hid (Below w0.heap.size w0 wr)) (fun i _=>((done.length:Int) - intOf i).toNat)
 case atStart=>exact⟨0,by omega,rfl,ag (au _ _)⟩
 case round=>
  obtain⟨k,hk,rfl,HW⟩:=hrel;have hx:=blk HW.out HX0.out;have q0:=fun t=>ak (af (o:=0) hx rfl) t
  have q1:=fun t=>ak (af (o:=1) hx rfl) t
  have q2:=fun t=>ak (af (o:=2) hx rfl) t
  have q3:=fun t=>ak (af (o:=3) hx rfl) t
  have q4:=fun t=>ak (af (o:=4) hx rfl) t
  have q5:=fun t=>ak (af (o:=5) hx rfl) t
  have q6:=fun t=>ak (af (o:=6) hx rfl) t
  have q7:=fun t=>ak (af (o:=7) hx rfl) t
  have p7:wr.cell? ⟨w.heap.size,7,none⟩=some (.slice ao done.length cap):=af hx rfl;clear hx;by_cases hlt:k<done.length
  ·obtain⟨⟨Ct,ek,ea,eb⟩,he⟩:=bE hlt;obtain⟨e1,e2,e3,e4⟩:=Cc.out _ (bC he);simp only at e1 e2 e3 e4;subst e1;obtain⟨b,off,rfl,hs1,hc⟩:=dH.at lS (Rd.below (Rd.below HD.out HB0.out) HW.out) he;have x0:=fun t=>ak (hc 0 _ rfl) t
   have x1:=fun t=>ak (hc 1 _ rfl) t
   have x2:=fun t=>ak (hc 2 _ rfl) t
   have x3:=fun t=>ak (hc 3 _ rfl) t
   simp only[Nat.add_zero] at x0;have E2:=ag e2;have E3:=ag e3;have E4:=ag e4;clear hc hs1 he e2 e3 e4;go_wp2_with fail;refine bG (by kernel_rfl) (by kernel_rfl) ?_;repeat (go_big_quiet_step ((first|(go_at_call 115;exact kQ (Cq _ _ _ _ _ _ _ _ _ _ _ E2.out E3.out E4.out)))))
   refine wpQuiet_nil ?_;intro wU hb;have HU:=ag (HW.out.trans (hb.mono HW.out.size));clear hb q0 q1 q2 q3 q4 q5 q6 q7 x0 x1 x2 x3 p7;go_wp2_with fail;exact⟨⟨k+1,by omega,by go_num,HU⟩,by simp[intOf];omega⟩
  ·obtain rfl:k=done.length:=by omega
   go_wp2_with fail;go_ret;exact⟨rfl,HB0.out.trans (HW.out.mono HB0.out.size)⟩
theorem VZ {ao:Option Addr} {cap:Nat} {done:List Ev} {th dN fin clock:Int} (hth:0<=th/\th<4) (NW:0<=dN) (yB:0<=clock) (hfin:dN<fin) (hev:∀e∈done,e.th=th/\0<=e.a/\e.a<262144/\(e.k=2\/e.k=3)) (xR:done.length<=2097152) (hd:dH iB w 4 (.slice ao done.length cap) done):
  Calls Tryz.prog 77 #[.agg #[.int .i64 th,.int .u8 3,.int .i64 dN,.int .i64 fin,.int .i64 clock,.int .i64 0,.bool false,.slice ao done.length cap]] w fun e w'=>e= .returned (.bool true)/\Below w.heap.size w w':=by
 have HD:=ag hd;have Cc:=ag hev;have g1:¬th<0:=by omega
 have g2:¬4<=th:=by omega
 have g3:¬dN<0:=by omega
 have g4:¬clock<0:=by omega
 have g5:¬fin<=dN:=by omega
 clear hfin;clear hd hev hth NW yB;have hb0:Below w.heap.size w (w.alloc (.cells #[.int .i64 th,.int .u8 3,.int .i64 dN,.int .i64 fin,.int .i64 clock,.int .i64 0,.bool false,.slice ao done.length cap] 76)):=(au _ _).alloc (aB _) _;have HB0:=ag hb0;have HX0:=ag (aj w (.cells #[.int .i64 th,.int .u8 3,.int .i64 dN,.int .i64 fin,.int .i64 clock,.int .i64 0,.bool false,.slice ao done.length cap] 76));clear hb0;go_in;go_wp2_with fail;obtain⟨w0,hw0⟩:∃w0,w0=w.alloc (.cells #[.int .i64 th,.int .u8 3,.int .i64 dN,.int .i64 fin,.int .i64 clock,.int .i64 0,.bool false,.slice ao done.length cap] 76):=⟨_,rfl⟩;rw[<-hw0] at HB0 HX0⊢;clear hw0;go_loopw [3] (fun i wr=>∃k:Nat,k<=done.length/\i= .int .i64 (k:Int)/\Hid (Below w0.heap.size w0 wr)) (fun i _=>((done.length:Int) - intOf i).toNat)
 case atStart=>exact⟨0,by omega,rfl,ag (au _ _)⟩
 case round=>
  obtain⟨k,hk,rfl,HW⟩:=hrel;have hx:=blk HW.out HX0.out;have q0:=fun t=>ak (af (o:=0) hx rfl) t
  have q1:=fun t=>ak (af (o:=1) hx rfl) t
  have q2:=fun t=>ak (af (o:=2) hx rfl) t
  have q3:=fun t=>ak (af (o:=3) hx rfl) t
  have q4:=fun t=>ak (af (o:=4) hx rfl) t
  have q5:=fun t=>ak (af (o:=5) hx rfl) t
  have q6:=fun t=>ak (af (o:=6) hx rfl) t
  have q7:=fun t=>ak (af (o:=7) hx rfl) t
  have p7:wr.cell? ⟨w.heap.size,7,none⟩=some (.slice ao done.length cap):=af hx rfl;clear hx;by_cases hlt:k<done.length
  ·obtain⟨⟨Ct,ek,ea,eb⟩,he⟩:=bE hlt;obtain⟨e1,e2,e3,e4⟩:=Cc.out _ (bC he);simp only at e1 e2 e3 e4;subst e1;obtain⟨b,off,rfl,hs1,hc⟩:=dH.at lS (Rd.below (Rd.below HD.out HB0.out) HW.out) he;have x0:=fun t=>ak (hc 0 _ rfl) t
   have x1:=fun t=>ak (hc 1 _ rfl) t
   have x2:=fun t=>ak (hc 2 _ rfl) t
   have x3:=fun t=>ak (hc 3 _ rfl) t
   simp only[Nat.add_zero] at x0;have E2:=ag e2;have E3:=ag e3;have E4:=ag e4;clear hc hs1 he e2 e3 e4;go_wp2_with fail;refine bG (by kernel_rfl) (by kernel_rfl) ?_;repeat (go_big_quiet_step ((first|(go_at_call 115;exact kQ (Cq _ _ _ _ _ _ _ _ _ _ _ E2.out E3.out E4.out)))))
   refine wpQuiet_nil ?_;intro wU hb;have HU:=ag (HW.out.trans (hb.mono HW.out.size));clear hb q0 q1 q2 q3 q4 q5 q6 q7 x0 x1 x2 x3 p7;go_wp2_with fail;exact⟨⟨k+1,by omega,by go_num,HU⟩,by simp[intOf];omega⟩
  ·obtain rfl:k=done.length:=by omega
   go_wp2_with fail;go_ret;exact⟨rfl,HB0.out.trans (HW.out.mono HB0.out.size)⟩
theorem Bj {x:bJ} {dv:Value} (h:xm x) (hd:dH iB w 4 dv x.done):
  Calls Tryz.prog 77 #[.agg #[.int .i64 x.th,.int .u8 x.kind,.int .i64 x.dN,.int .i64 x.fin,.int .i64 x.clock,.int .i64 x.place,.bool x.writer,dv]] w fun e w'=>e= .returned (.bool true)/\Below w.heap.size w w':=by
 obtain⟨ao,cap,rfl⟩:=Rd.shape hd;obtain⟨th,kind,dN,fin,clock,place,r_,done⟩:=x;obtain⟨h1,h2,h3,h4,h5,h6,h7⟩:=h;simp only at h1 h2 h3 h4 h5 h6 h7 hd⊢;rcases h2 with⟨rfl,rfl⟩|⟨rfl|rfl|rfl,hf⟩
 ·obtain⟨rfl,rfl⟩:=h5 (by decide);exact UW h1 h3 h4 h6 h7 hd
 ·exact Ub h1 h3 h4 hf h6 h7 hd
 ·obtain⟨rfl,rfl⟩:=h5 (by decide);exact Us h1 h3 h4 hf h6 h7 hd
 ·obtain⟨rfl,rfl⟩:=h5 (by decide);exact VZ h1 h3 h4 hf h6 h7 hd
theorem QO (a b:bJ) (da db:Value):
  Calls Tryz.prog 78 #[(.agg #[.int .i64 a.th,.int .u8 a.kind,.int .i64 a.dN,.int .i64 a.fin,.int .i64 a.clock,.int .i64 a.place,.bool a.writer,da]),(.agg #[.int .i64 b.th,.int .u8 b.kind,.int .i64 b.dN,.int .i64 b.fin,.int .i64 b.clock,.int .i64 b.place,.bool b.writer,db])] w fun e w'=>e= .returned (.bool (ahead a b))/\Below w.heap.size w w':=by
 obtain⟨th,kind,dN,fin,clock,place,r_,done⟩:=a;obtain⟨th2,ahc,aiO,ais,clock2,Tq,aaY,ahS⟩:=b;unfold ahead;simp only;by_cases h1:place=Tq
 ·subst h1;have hz:(place !=place)=false:=by simp
  rw[if_neg (by simp)];by_cases h2:r_=aaY
  ·subst h2;have hy:(r_ !=r_)=false:=by simp
   rw[if_neg (by simp)];go_in;go_wp2_with fail;go_ret;exact⟨rfl,((au _ _).alloc (aB _) _).alloc (by simp) _⟩
  ·rw[if_pos h2];cases r_ with
   |true=>
    cases aaY with
    |true=>exact absurd rfl h2
    |false=>
     go_in;go_wp2_with fail;go_ret;exact⟨rfl,((au _ _).alloc (aB _) _).alloc (by simp) _⟩
   |false=>
    cases aaY with
    |false=>exact absurd rfl h2
    |true=>
     go_in;go_wp2_with fail;go_ret;exact⟨rfl,((au _ _).alloc (aB _) _).alloc (by simp) _⟩
 ·have hz:(place !=Tq)=true:=by simpa using h1
  rw[if_pos h1];go_in;go_wp2_with fail;go_ret;exact⟨rfl,((au _ _).alloc (aB _) _).alloc (by simp) _⟩
theorem MC (a:bJ) (da:Value) (h1:a.writer=true->a.clock<a.place) (h2:a.writer=false->a.place=a.clock):
  Calls Tryz.prog 46 #[(.agg #[.int .i64 a.th,.int .u8 a.kind,.int .i64 a.dN,.int .i64 a.fin,.int .i64 a.clock,.int .i64 a.place,.bool a.writer,da])] w fun e w'=>e= .returned (.bool true)/\Below w.heap.size w w':=by
 obtain⟨th,kind,dN,fin,clock,place,r_,done⟩:=a;simp only at h1 h2⊢;cases r_ with
 |true=>
  have h3:=h1 rfl;clear h1 h2;go_in;go_wp2_with fail;go_ret;exact⟨by simp[h3],(au _ _).alloc (aB _) _⟩
 |false=>
  have h3:=h2 rfl;subst h3;clear h1 h2;go_in;go_wp2_with fail;go_ret;exact⟨by simp,(au _ _).alloc (aB _) _⟩
end
section
variable {w w':World}
structure yu (w:World) (v:Value) (ts:xJ):Prop where
 rows:dH Fy w 1 v ts
 each:∀p∈ts,ry w p.1 p.2
 len:ts.length<=9223372036854775807
 abr:∀p∈ts,p.2.length<=9223372036854775807
 abG:∀p∈ts,∀q∈p.2,q.2.length<=9223372036854775807
 wf:∀p∈ts,∀q∈p.2,∀o∈q.2,Ab o
theorem yu.below {v:Value} {ts:xJ} (h:yu w v ts) (hb:Below w.heap.size w w'):yu w' v ts:=⟨Rd.below h.rows hb,fun p hp=>(h.each p hp).below hb,h.len,h.abr,h.abG,h.wf⟩
theorem yu.at {v:Value} {ts:xJ} (h:yu w v ts) (ht:∀p∈ts,dP p.2<=262144):Bv w v ts:=⟨h.rows,h.each,ht⟩
theorem U7 {ta:Option Addr} {tc:Nat} {ts:xJ} (h:yu w (.slice ta ts.length tc) ts):
  Calls Tryz.prog 9 #[.slice ta ts.length tc] w fun e w'=>∃z:Int,e= .returned (.int .i64 z)/\0<=z/\z<=9223372036854775807/\(z<=262144->∀p∈ts,dP p.2<=262144)/\Below w.heap.size w w':=by
 have H:=ag h;have hlen:=h.len;clear h;go_in;go_wp2_with fail;go_loopw [3,4] (fun z i wr=>∃(j:Nat) (y:Int),j<=ts.length/\i= .int .i64 (j:Int)/\z= .int .i64 y/\0<=y/\y<=1310721/\Hid (y<=262144->∀p∈ts.take j,dP p.2<=262144)/\Hid (Below w.heap.size w wr)) (fun _ i _=>ts.length - (intOf i).toNat)
 case atStart=>exact⟨0,0,Nat.zero_le _,rfl,rfl,by decide,by decide,fun _ p hp=>by simp at hp,au _ _⟩
 case round=>
  obtain⟨j,y,hj,rfl,rfl,hy0,hy1,HT,HB⟩:=hrel;by_cases hlt:j<ts.length
  ·by_cases hy:y<1048576
   ·obtain⟨t,hx⟩:=bE hlt;obtain⟨g,off,rfl,hg,hc⟩:=dH.at Gp (Rd.below H.out.rows HB.out) hx;have hrows:=(H.out.each t (bC hx)).below HB.out;obtain⟨ra,rc,SC⟩:=z8 hrows.rows;have d0:wr.cell? ⟨g,off+j,none⟩=some (.slice ra t.2.length rc):=by have:=hc 0 _ rfl;rw[<-SC];simpa [Fy] using this
    rw[SC] at hrows;have HR:=ag hrows;have HL:=ag (H.out.abr t (bC hx));have HE:=ag (H.out.abG t (bC hx));have Gg:=ag (show ∀p∈ts.take (j+1),p∈ts.take j\/p=t from fun p hp=>by
     rw[List.take_add_one,hx,Option.toList_some] at hp;rcases List.mem_append.1 hp with hp|hp
     ·exact .inl hp
     ·exact .inr (List.mem_singleton.1 hp))
    have RV:=ag hlt;clear hx hc SC hrows;go_wp2_with fail;refine(Oe HR.out HL.out HE.out).mono ?_;rintro e w1 ⟨z,rfl,hz0,hz1,hz2,hb⟩;have HB1:=ag (fe HB.out hb);have HT1:=ag (show y+z<=262144->∀p∈ts.take (j+1),dP p.2<=262144 from fun hle p hp=>by
     rcases Gg.out p hp with hp|rfl
     ·exact HT.out (by omega) p hp
     ·have:=hz2 (by omega);omega)
    clear hz2 hb d0;go_wp2_with fail;exact⟨⟨j+1,y+z,by have:=RV.out;omega,by go_num,by go_num,by omega,by omega,ag HT1.out,HB1⟩,by simp[intOf];have:=RV.out;omega⟩
   ·have HT1:=ag (show y<=262144->∀p∈ts,dP p.2<=262144 from fun hle=>by omega);have HY:=ag (show 0<=y/\y<=9223372036854775807 by omega);clear hy0 hy1;go_wp2_with fail;go_ret;exact⟨y,rfl,HY.out.1,HY.out.2,by simpa using HT1.out,HB.out⟩
  ·obtain rfl:j=ts.length:=by omega
   have hT:=HT.out;rw[List.take_length] at hT;have HT1:=ag hT;have HY:=ag (show 0<=y/\y<=9223372036854775807 by omega);clear hT hy0 hy1;go_wp2_with fail;go_ret;exact⟨y,rfl,HY.out.1,HY.out.2,by simpa using HT1.out,HB.out⟩
theorem Me {ta:Option Addr} {tc n:Nat} (h4:4<n) (hn:n<=9223372036854775807) (words:Int):
  Calls Tryz.prog 11 #[.int .i64 words,.slice ta n tc] w fun e w'=>e= .returned (.tuple #[.agg #[.slice none 0 0,.int .i64 0,.slice none 0 0],.int .i64 3])/\Below w.heap.size w w':=by
 have Xz:=ag (aj w (.cells #[.slice none 0 0,.int .i64 0,.slice none 0 0] 30));have HB0:=ag ((au w.heap.size w).alloc (aB _) (.cells #[.slice none 0 0,.int .i64 0,.slice none 0 0] 30));have q1:((n:Int)>4):=by omega
 clear h4;go_in;go_wp2_with fail;refine bodyPost_ret (v:=.tuple #[.agg #[.slice none 0 0,.int .i64 0,.slice none 0 0],.int .i64 3]) (by simp[results,Tryz.results11,go_sem]) rfl ?_;exact⟨rfl,HB0.out⟩
def vF (words:Int) (ts:xJ) (sc:List dB):MM×Int:=a_ (gF (dA words ts.length) (ts.mapIdx fun i t=>bM (fF words ts.length i) (rowsOf t)) [],0) (gy sc)
structure BB (words:Int) (ts:xJ) (sc:List dB):Prop where
 plan:gp words (dU ts.length)=0
 len:ts.length<=4
 rows:∀t∈ts,jJ words t.2=true
 script:(dK sc).2=0
theorem Ra {words:Int} {ts:xJ} (h:∀t∈ts,jJ words t.2=true):∀r∈ts.map rowsOf,∀l∈r,∀o∈l,(o.kind=2\/o.kind=3)/\1<=o.at_/\o.at_<=words:=by
 intro r hr l hl o ho;obtain⟨t,ht,rfl⟩:=List.mem_map.1 hr;obtain⟨p,hp,rfl⟩:=List.mem_map.1 hl;have h1:=List.all_eq_true.1 (h t ht) p hp;have h2:=List.all_eq_true.1 h1 o ho;unfold qP at h2;simp at h2;omega
theorem Jg (words:Int) (ts:xJ):(ts.mapIdx fun i t=>bM (fF words ts.length i) (rowsOf t))=(List.range (ts.map rowsOf).length).map (fun n=>bM (fF words (ts.map rowsOf).length n) ((ts.map rowsOf).getD n [])):=by
 refine List.ext_getElem (by simp) fun i h1 h2=>?_
 simp only[List.length_mapIdx] at h1;simp[List.getD_eq_getElem?_getD,h1]
theorem BB.stands {words:Int} {ts:xJ} {sc:List dB} (h:BB words ts sc):lq (He words (ts.map rowsOf)) (words+1).toNat (vF words ts sc)/\(vF words ts sc).1.evs.length<=1048576:=by
 have:=Nr (words:=words) (rs:=ts.map rowsOf) (by rw[List.length_map];exact h.plan) (by rw[List.length_map];exact h.len) (fun r hr l hl o ho=>(Ra h.rows r hr l hl o ho).2) h.script;unfold vF;rw[Jg];rw[List.length_map] at this⊢;exact this
def Yz (words:Int) (ts:xJ) (sc:List dB) (w:World) (e:Ending) (w':World):Prop:=
 Below w.heap.size w w'/\(e= .returned (.tuple #[.agg #[.slice none 0 0,.slice none 0 0,.int .i64 0],.slice none 0 0,.bool false,.bool true])\/
  BB words ts sc/\∃sa sn ls eo ec st ao ac ps s,e= .returned (.tuple #[.agg #[.slice sa ls.length sn,.slice eo (vF words ts sc).1.evs.length ec,.int .i64 st],.slice ao ps.length ac,.bool true,.bool true])/\
   Bb w' (.slice sa ls.length sn) ls/\ls.map (fun s=>(s.out,s.fin))=(vF words ts sc).1.aT.map (fun t=>(t.out,t.fin))/\jK (vF words ts sc).1.evs 0 HS.init= .inl s/\ps.map Prod.fst=s.aU/\tK w' (.slice ao ps.length ac) ps)
theorem Sm {words:Int} {ts:xJ} {cs:List (Nat×List bR)} (h:mZ words ts.length ts cs):(∀t∈ts,iO (rowsOf t)<=262144)/\cs.map Prod.snd=ts.mapIdx (fun i t=>bM (fF words ts.length i) (rowsOf t)):=by
 have h1:∀t∈ts,iO (rowsOf t)<=262144:=fun t ht=>by
  obtain⟨i,hi⟩:=List.getElem?_of_mem ht;have hil:=(bu.1 hi).1;have hc:=eO (show i<cs.length by rw[h.len];exact hil);exact FK (h.at_ i _ _ hc hi).2
 exact⟨h1,yL h h1⟩
structure Zw (w:World) (words:Int) (ts:xJ) (co:Option Addr) (cc:Nat) (l:List (Value×List bR)):Prop where
 code:mX w (.slice co l.length cc) l
 is:l.map (·.2)=ts.mapIdx (fun i t=>bM (fF words ts.length i) (rowsOf t))
 len:l.length<=4
 chk:cB (dA words ts.length) l []=0
 plan:gp words (dU ts.length)=0
 few:ts.length<=4
 rows:∀t∈ts,jJ words t.2=true
 each:∀p∈l,p.2.length<=262144
def Gi (words:Int) (ts:xJ) (w:World) (e:Ending) (w':World):Prop:=
 Below w.heap.size w w'/\((∃en:Int,en≠0/\e= .returned (.tuple #[.agg #[.slice none 0 0,.int .i64 0,.slice none 0 0],.int .i64 en]))\/
  ∃co cc l,e= .returned (.tuple #[.agg #[.slice co l.length cc,.int .i64 (dA words ts.length),.slice none 0 0],.int .i64 0])/\Zw w' words ts co cc l)
theorem Nb {cs:List (Nat×List bR)} {p:Nat×List bR} (h:p∈cs):p.2.length<=ja cs:=by
 unfold ja;induction cs with
 |nil=>cases h
 |cons a l ih=>
  rcases List.mem_cons.1 h with rfl|h
  ·simp
  ·have:=ih h;simp;omega
theorem adN {words:Int} {ts:xJ} {e:Ending} (h:Av words ts w e w') (hw:∀p∈ts,∀q∈p.2,∀o∈q.2,Ab o):Gi words ts w e w':=by
 obtain⟨hb,h⟩:=h;refine⟨hb,?_⟩;rcases h with⟨en,rfl,h⟩|⟨co,cc,cs,rfl,hown,hin,hcs,hsum,Te,hlen,hrows⟩
 ·exact .inl ⟨en,by rcases h with⟨rfl, -⟩|⟨rfl, -⟩<;>decide,rfl⟩
 ·obtain⟨hp,hc⟩:=Sm hcs;have hcl:=hcs.len;have hok:∀p∈cs,bF p.2:=by
   intro p hp2;obtain⟨k,hk,e⟩:=List.getElem_of_mem hp2;have hkt:k<ts.length:=by omega
   have h3:(cs.map Prod.snd)[k]'(by simpa using hk)=(ts.mapIdx (fun i t=>bM (fF words ts.length i) (rowsOf t)))[k]'(by simpa using hkt):=by simp only[hc]
   rw[List.getElem_map,List.getElem_mapIdx,e] at h3;rw[h3];refine IX (JS Te hkt) (hp _ (List.getElem_mem hkt)) fun l hl o ho=>?_
   obtain⟨q,hq,rfl⟩:=List.mem_map.1 hl;exact hw _ (List.getElem_mem hkt) q hq o ho
  obtain⟨l,hll,hcode,hl2⟩:=JK hown hin hok;obtain⟨w0,hsz,hle, -⟩:=IC Te;have Xo:=Gf (mem:=dA words ts.length) hl2 hsum (by omega) (by omega) hok;refine .inr ⟨co,cc,l,by rw[hll],hcode,hl2.trans hc,by omega,Xo,Te,hlen,hrows,fun p hp2=>?_⟩;have h1:p.2∈l.map (·.2):=List.mem_map_of_mem hp2;rw[hl2] at h1;obtain⟨q,hq,e⟩:=List.mem_map.1 h1;rw[<-e];exact Nat.le_trans (Nb hq) hsum
theorem YM {ta:Option Addr} {tc:Nat} {ts:xJ} (h:yu w (.slice ta ts.length tc) ts) (ht:∀p∈ts,dP p.2<=262144) (words:Int):
  Calls Tryz.prog 11 #[.int .i64 words,.slice ta ts.length tc] w (Gi words ts w):=by
 by_cases h4:4<ts.length
 ·refine(Me h4 h.len words).mono ?_;rintro e w1 ⟨rfl,hb⟩;exact⟨hb,.inl ⟨3,by decide,rfl⟩⟩
 ·exact(Gr (h.at ht) (by omega) words).mono fun e w1 hp=>adN hp h.wf
theorem Rf {mem:Int} {l:List (Value×List bR)} {cs:List (Int×Int)} {sc:List dB} (h:tZ mem l cs sc=0):(dK sc).2=0:=by
 unfold tZ at h;split at h
 ·rename_i hc;rw[h] at hc;simp at hc
 ·exact h
theorem aes {words:Int} {ts:xJ} {sc:List dB} {co:Option Addr} {cc:Nat} {l:List (Value×List bR)} (h:Zw w words ts co cc l) (he:tZ (dA words ts.length) l [] sc=0):BB words ts sc/\
  II (dA words ts.length) (l.map (·.2)) [] (tZ (dA words ts.length) l [] sc) sc=⟨(vF words ts sc).1.aT.map (fun t=>(t.out,t.fin)),(vF words ts sc).1.evs,(vF words ts sc).2,0⟩/\∃s,jK (vF words ts sc).1.evs 0 HS.init= .inl s:=by
 have hr:BB words ts sc:=⟨h.plan,h.few,h.rows,Rf he⟩;refine⟨hr,?_,?_⟩
 ·unfold II vF;rw[if_pos he,h.is]
 ·obtain⟨⟨m,ks,s,cw,h1,h2,h3, -, -⟩, -⟩:=hr.stands;exact⟨s,by have:=h3.eF.eF;rwa [<-h1.evs] at this⟩
theorem Hq {ta:Option Addr} {tc:Nat} {ts:xJ} (h:yu w (.slice ta ts.length tc) ts) (ht:∀p∈ts,dP p.2<=262144) (words:Int) {sa:Option Addr} {yG:Nat} {sc:List dB} (hs:dH fU w 3 (.slice sa sc.length yG) sc) (hsl:sc.length<=9000000000000) (hsn:∀p∈sc,0<=p.kind/\(-9223372036854775808<=p.n/\p.n<=9223372036854775807)):
  Calls Tryz.prog 21 #[.int .i64 words,.slice ta ts.length tc,.slice sa sc.length yG] w (Yz words ts sc w):=by
 have H:=ag h;have HT:=ag ht;have HS:=ag hs;have HSL:=ag hsl;have EU:=ag hsn;have HLEN:=ag h.len;clear h ht hs hsl hsn;have Xz:=ag (aj w (.cells #[.slice none 0 0,.slice none 0 0,.int .i64 0] 66));have HB0:=ag ((au w.heap.size w).alloc (aB _) (.cells #[.slice none 0 0,.slice none 0 0,.int .i64 0] 66));go_in;go_wp2_with fail;refine(YM (H.out.below HB0.out) HT.out words).mono ?_;intro e w1 hpost;obtain⟨hb1,h⟩:=hpost;have HB1:=ag (fe HB0.out hb1);have HR1:=ag (blk hb1 Xz.out);obtain⟨br,hbr⟩:∃b,b=w.heap.size:=⟨_,rfl⟩;have rV:=ag hbr;rw[<-hbr] at HR1⊢;have HS1:=ag (Rd.below HS.out HB1.out);clear hb1 hbr Xz HB0 HS;rcases h with⟨en,hen,rfl⟩|⟨co,cc,l,rfl,VS⟩
 ·have KO:=ag ((au w1.heap.size w1).alloc (aB _) (.cells #[.slice none 0 0,.int .i64 0,.slice none 0 0] 30));have HB2:=ag (fe HB1.out KO.out);have HR2:=ag (blk KO.out HR1.out);have r0:(w1.alloc (.cells #[.slice none 0 0,.int .i64 0,.slice none 0 0] 30)).cell? ⟨br,0,none⟩=some (.slice none 0 0):=af HR2.out rfl;have r1:(w1.alloc (.cells #[.slice none 0 0,.int .i64 0,.slice none 0 0] 30)).cell? ⟨br,1,none⟩=some (.slice none 0 0):=af HR2.out rfl;have r2:(w1.alloc (.cells #[.slice none 0 0,.int .i64 0,.slice none 0 0] 30)).cell? ⟨br,2,none⟩=some (.int .i64 0):=af HR2.out rfl;have Lb:(w1.alloc (.cells #[.slice none 0 0,.int .i64 0,.slice none 0 0] 30)).frozen? ⟨br,0,none⟩=false:=ah HR2.out;have Oc:(w1.alloc (.cells #[.slice none 0 0,.int .i64 0,.slice none 0 0] 30)).frozen? ⟨br,1,none⟩=false:=ah HR2.out;have LV:(w1.alloc (.cells #[.slice none 0 0,.int .i64 0,.slice none 0 0] 30)).frozen? ⟨br,2,none⟩=false:=ah HR2.out;go_wp2_with fail;have Cf:=ag (show Below w.heap.size w ((((w1.alloc (.cells #[.slice none 0 0,.int .i64 0,.slice none 0 0] 30)).setCell ⟨br,0,none⟩ (.slice none 0 0)).setCell ⟨br,1,none⟩ (.slice none 0 0)).setCell ⟨br,2,none⟩ (.int .i64 0)) from((HB2.out.setCell (p:=⟨br,0,none⟩) (Nat.le_of_eq rV.out.symm) _).setCell (p:=⟨br,1,none⟩) (Nat.le_of_eq rV.out.symm) _).setCell (p:=⟨br,2,none⟩) (Nat.le_of_eq rV.out.symm) _);have hfin:=ai (o:=2) (.int .i64 0) (ai (o:=1) (.slice none 0 0) (ai (o:=0) (.slice none 0 0) HR2.out));have F6:=ag (show ∀g,g≠br->((((w1.alloc (.cells #[.slice none 0 0,.int .i64 0,.slice none 0 0] 30)).setCell ⟨br,0,none⟩ (.slice none 0 0)).setCell ⟨br,1,none⟩ (.slice none 0 0)).setCell ⟨br,2,none⟩ (.int .i64 0)).heap[g]? =(w1.alloc (.cells #[.slice none 0 0,.int .i64 0,.slice none 0 0] 30)).heap[g]? from fun g hg=>((dm _ _ _ _ hg).trans (dm _ _ _ _ hg)).trans (dm _ _ _ _ hg));generalize((((w1.alloc (.cells #[.slice none 0 0,.int .i64 0,.slice none 0 0] 30)).setCell ⟨br,0,none⟩ (.slice none 0 0)).setCell ⟨br,1,none⟩ (.slice none 0 0)).setCell ⟨br,2,none⟩ (.int .i64 0))=w9 at Cf hfin F6⊢;have k0:w9.cell? ⟨br,0,none⟩=some (.slice none 0 0):=af hfin rfl;have k1:w9.cell? ⟨br,1,none⟩=some (.slice none 0 0):=af hfin rfl;have k2:w9.cell? ⟨br,2,none⟩=some (.int .i64 0):=af hfin rfl;clear hfin r0 r1 r2 Lb Oc LV;refine bodyPost_ret (v:=.tuple #[.agg #[.slice none 0 0,.slice none 0 0,.int .i64 0],.slice none 0 0,.bool false,.bool true]) (by simp[results,Tryz.results21,go_sem,k0,k1,k2]) rfl ?_;exact⟨Cf.out,.inl rfl⟩
 ·obtain⟨mem,hmem⟩:∃z,z=dA words ts.length:=⟨_,rfl⟩;have aao:=ag hmem;have HIM:=ag VS;rw[<-hmem];clear VS hmem;have KO:=ag ((au w1.heap.size w1).alloc (aB _) (.cells #[.slice co l.length cc,.int .i64 mem,.slice none 0 0] 30));have HB2:=ag (fe HB1.out KO.out);have HR2:=ag (blk KO.out HR1.out);have HM2:=ag (aj w1 (.cells #[.slice co l.length cc,.int .i64 mem,.slice none 0 0] 30));have HS2:=ag (Rd.below HS1.out KO.out);have aaE:=ag (HIM.out.code.below KO.out);have WV:=ag (show br<w1.heap.size from by have:=HB1.out.size;have:=rV.out;have:=lt_of_block HR1.out;omega);go_wp2_with fail;have XX:=ag (show w1.heap.size<(w1.alloc (.cells #[.slice co l.length cc,.int .i64 mem,.slice none 0 0] 30)).heap.size from by rw[World.size_alloc];omega);generalize w1.alloc (.cells #[.slice co l.length cc,.int .i64 mem,.slice none 0 0] 30)=w2 at HB2 HR2 HM2 HS2 aaE XX⊢;clear KO HS1 HR1;refine((show Calls Tryz.prog 42 #[.agg #[.slice co l.length cc,.int .i64 mem,.slice none 0 0],.slice sa sc.length yG] w2 (adM (II mem (l.map (·.2)) [] (tZ mem l [] sc) sc) w2) from
   ac8 (l:=l) (cs:=[]) (sc:=sc) (ca:=co) (fo:=cc) (oL:=none) (h_:=0) (sa:=sa) (yG:=yG) aaE.out (Rd.nil _ 2) mem (by have:=HIM.out.len;omega) (by simp) (fun p hp=>Nat.le_trans (HIM.out.each p hp) (by decide)) HS2.out HSL.out EU.out)).mono ?_
  rintro e w3 ⟨ao,ac,ls,eo,ec,rfl,htr,hot,hb3⟩;have HB3:=ag (fe HB2.out hb3);have HR3:=ag (blk hb3 HR2.out);clear hb3 HR2 HB2 HM2 HS2 aaE;by_cases he:tZ mem l [] sc=0
  ·have EX:=ag (show BB words ts sc/\II mem (l.map (·.2)) [] (tZ mem l [] sc) sc=⟨(vF words ts sc).1.aT.map (fun t=>(t.out,t.fin)),(vF words ts sc).1.evs,(vF words ts sc).2,0⟩/\∃s,jK (vF words ts sc).1.evs 0 HS.init= .inl s from by rw[aao.out] at he⊢;exact aes HIM.out he);rw[EX.out.2.1] at htr hot⊢;have HOT:=ag hot;have HEL:=ag EX.out.1.stands.2;have OE:=ag htr.same;clear htr hot he;obtain⟨evs,aaN⟩:∃x,x=(vF words ts sc).1.evs:=⟨_,rfl⟩;have abd:=ag aaN;obtain⟨st,hst⟩:∃x,x=(vF words ts sc).2:=⟨_,rfl⟩;simp only;rw[<-hst];simp only at HOT;rw[<-aaN] at HOT HEL⊢;obtain⟨ne,hne⟩:∃x,x=evs.length:=⟨_,rfl⟩;have Fh:=ag hne;obtain⟨nl,hnl⟩:∃x,x=ls.length:=⟨_,rfl⟩;have HNL:=ag hnl;have Cc:=ag (show dH iB w3 4 (.slice eo ne ec) evs from by rw[hne];exact Rd.gu HOT.out.evs);rw[<-hne,<-hnl];clear aaN hst hne hnl;have Ho:=ag ((au w3.heap.size w3).alloc (aB _) (.cells #[.slice ao nl ac,.slice eo ne ec,.int .i64 st] 66));have sN:=ag (fe HB3.out Ho.out);have HR4:=ag (blk Ho.out HR3.out);have ZY:=ag (HOT.out.keep fun g _ hl=>Ho.out.block g hl);have abn:=ag (Rd.below Cc.out Ho.out);have X6:=ag (aj w3 (.cells #[.slice ao nl ac,.slice eo ne ec,.int .i64 st] 66));go_wp2_with fail;have Sz:=ag (show w3.heap.size<(w3.alloc (.cells #[.slice ao nl ac,.slice eo ne ec,.int .i64 st] 66)).heap.size from by rw[World.size_alloc];omega);have HSC:=ag (show br<w3.heap.size from lt_of_block HR3.out);generalize w3.alloc (.cells #[.slice ao nl ac,.slice eo ne ec,.int .i64 st] 66)=w4 at sN HR4 ZY abn X6 Sz⊢;clear Ho Cc HR3 HB3 HOT;obtain⟨bt,hbt⟩:∃b,b=w3.heap.size:=⟨_,rfl⟩;rw[<-hbt] at X6 Sz HSC⊢;clear hbt;refine(YE abn.out (by have:=HEL.out;omega)).mono ?_;rintro e w5 ⟨po,pc,ps,hps,rfl,hown,hb5⟩;have pO:=ag (fe sN.out hb5);have yU:=ag (blk hb5 HR4.out);have ZB:=ag (blk hb5 X6.out);have afD:=ag (ZY.out.keep fun g _ hl=>hb5.block g hl);have HOW:=ag hown;have HPS:=ag hps;have ait:=ag hb5.size;have hoe:Gw evs=0:=by
    obtain⟨s,hs⟩:=EX.out.2.2;rw[<-abd.out] at hs;unfold Gw;rw[hs]
   rw[hoe];generalize Xt evs=oa at*;obtain⟨np,hnp⟩:∃x,x=ps.length:=⟨_,rfl⟩;have HNP:=ag hnp;rw[<-hnp];clear hown hps hb5 hoe hnp sN HR4 X6 ZY abn;have t0:w5.cell? ⟨bt,0,none⟩=some (.slice ao nl ac):=af ZB.out rfl;have t1:w5.cell? ⟨bt,1,none⟩=some (.slice eo ne ec):=af ZB.out rfl;have t2:w5.cell? ⟨bt,2,none⟩=some (.int .i64 st):=af ZB.out rfl;have r0:w5.cell? ⟨br,0,none⟩=some (.slice none 0 0):=af yU.out rfl;have r1:w5.cell? ⟨br,1,none⟩=some (.slice none 0 0):=af yU.out rfl;have r2:w5.cell? ⟨br,2,none⟩=some (.int .i64 0):=af yU.out rfl;have Lb:w5.frozen? ⟨br,0,none⟩=false:=ah yU.out;have Oc:w5.frozen? ⟨br,1,none⟩=false:=ah yU.out;have LV:w5.frozen? ⟨br,2,none⟩=false:=ah yU.out;go_wp2_with fail;have Cf:=ag (show Below w.heap.size w (((w5.setCell ⟨br,0,none⟩ (.slice ao nl ac)).setCell ⟨br,1,none⟩ (.slice eo ne ec)).setCell ⟨br,2,none⟩ (.int .i64 st)) from((pO.out.setCell (p:=⟨br,0,none⟩) (Nat.le_of_eq rV.out.symm) _).setCell (p:=⟨br,1,none⟩) (Nat.le_of_eq rV.out.symm) _).setCell (p:=⟨br,2,none⟩) (Nat.le_of_eq rV.out.symm) _);have hfin:=ai (o:=2) (.int .i64 st) (ai (o:=1) (.slice eo ne ec) (ai (o:=0) (.slice ao nl ac) yU.out));have F6:=ag (show ∀g,g≠br->(((w5.setCell ⟨br,0,none⟩ (.slice ao nl ac)).setCell ⟨br,1,none⟩ (.slice eo ne ec)).setCell ⟨br,2,none⟩ (.int .i64 st)).heap[g]? =w5.heap[g]? from fun g hg=>((dm _ _ _ _ hg).trans (dm _ _ _ _ hg)).trans (dm _ _ _ _ hg));generalize(((w5.setCell ⟨br,0,none⟩ (.slice ao nl ac)).setCell ⟨br,1,none⟩ (.slice eo ne ec)).setCell ⟨br,2,none⟩ (.int .i64 st))=w9 at Cf hfin F6⊢;have k0:w9.cell? ⟨br,0,none⟩=some (.slice ao nl ac):=af hfin rfl;have k1:w9.cell? ⟨br,1,none⟩=some (.slice eo ne ec):=af hfin rfl;have k2:w9.cell? ⟨br,2,none⟩=some (.int .i64 st):=af hfin rfl;clear hfin r0 r1 r2 Lb Oc LV;refine bodyPost_ret (v:=.tuple #[.agg #[.slice ao nl ac,.slice eo ne ec,.int .i64 st],.slice po np pc,.bool true,.bool true]) (by simp[results,Tryz.results21,go_sem,k0,k1,k2]) rfl ?_;have hq:=F6.out;have hw4:br<w4.heap.size:=by have:=HSC.out;have:=Sz.out;omega
   obtain⟨s,hs⟩:=EX.out.2.2;refine⟨Cf.out,.inr ⟨EX.out.1,ao,ac,ls,eo,ec,st,po,pc,ps,s,?_,?_,OE.out,hs,?_,?_⟩⟩
   ·rw[<-abd.out,<-Fh.out,<-HNL.out,<-HNP.out]
   ·exact(afD.out.keep fun g hg hl=>hq g (by have:=XX.out;have:=WV.out;omega)).seen
   ·rw[HPS.out];unfold ofL;rw[<-abd.out] at hs;rw[hs]
   ·have hA:tK w9 (.slice po ps.length pc) ps:=⟨Rd.gu (aP HOW.out.row fun g hg hl=>hq g (by have:=(bO HOW.out.row hg).1;omega)),fun p hp=>by
     obtain⟨j,hj⟩:=List.getElem?_of_mem hp;exact Rd.gu (aP (HOW.out.own j p hj) fun g hg hl=>hq g (by have:=(bO (HOW.out.own j p hj) hg).1;omega))⟩
    exact hA
  ·have hv:II mem (l.map (·.2)) [] (tZ mem l [] sc) sc=⟨[],[],0,tZ mem l [] sc⟩:=by unfold II;rw[if_neg he]
   clear hot;rw[hv] at htr⊢;generalize tZ mem l [] sc=en at he⊢;have hls:ls=[]:=by have:=htr.same;simpa using this
   subst hls;have hao:dH encS w3 2 (.slice ao 0 ac) []:=htr.seen.rows;clear htr hv;simp only[List.length_nil];have Ho:=ag ((au w3.heap.size w3).alloc (aB _) (.cells #[.slice ao 0 ac,.slice eo 0 ec,.int .i64 0] 66));have sN:=ag (fe HB3.out Ho.out);have HR4:=ag (blk Ho.out HR3.out);have r0:(w3.alloc (.cells #[.slice ao 0 ac,.slice eo 0 ec,.int .i64 0] 66)).cell? ⟨br,0,none⟩=some (.slice none 0 0):=af HR4.out rfl;have r1:(w3.alloc (.cells #[.slice ao 0 ac,.slice eo 0 ec,.int .i64 0] 66)).cell? ⟨br,1,none⟩=some (.slice none 0 0):=af HR4.out rfl;have r2:(w3.alloc (.cells #[.slice ao 0 ac,.slice eo 0 ec,.int .i64 0] 66)).cell? ⟨br,2,none⟩=some (.int .i64 0):=af HR4.out rfl;have Lb:(w3.alloc (.cells #[.slice ao 0 ac,.slice eo 0 ec,.int .i64 0] 66)).frozen? ⟨br,0,none⟩=false:=ah HR4.out;have Oc:(w3.alloc (.cells #[.slice ao 0 ac,.slice eo 0 ec,.int .i64 0] 66)).frozen? ⟨br,1,none⟩=false:=ah HR4.out;have LV:(w3.alloc (.cells #[.slice ao 0 ac,.slice eo 0 ec,.int .i64 0] 66)).frozen? ⟨br,2,none⟩=false:=ah HR4.out;go_wp2_with fail;have Cf:=ag (show Below w.heap.size w ((((w3.alloc (.cells #[.slice ao 0 ac,.slice eo 0 ec,.int .i64 0] 66)).setCell ⟨br,0,none⟩ (.slice none 0 0)).setCell ⟨br,1,none⟩ (.slice none 0 0)).setCell ⟨br,2,none⟩ (.int .i64 0)) from((sN.out.setCell (p:=⟨br,0,none⟩) (Nat.le_of_eq rV.out.symm) _).setCell (p:=⟨br,1,none⟩) (Nat.le_of_eq rV.out.symm) _).setCell (p:=⟨br,2,none⟩) (Nat.le_of_eq rV.out.symm) _);have hfin:=ai (o:=2) (.int .i64 0) (ai (o:=1) (.slice none 0 0) (ai (o:=0) (.slice none 0 0) HR4.out));have F6:=ag (show ∀g,g≠br->((((w3.alloc (.cells #[.slice ao 0 ac,.slice eo 0 ec,.int .i64 0] 66)).setCell ⟨br,0,none⟩ (.slice none 0 0)).setCell ⟨br,1,none⟩ (.slice none 0 0)).setCell ⟨br,2,none⟩ (.int .i64 0)).heap[g]? =(w3.alloc (.cells #[.slice ao 0 ac,.slice eo 0 ec,.int .i64 0] 66)).heap[g]? from fun g hg=>((dm _ _ _ _ hg).trans (dm _ _ _ _ hg)).trans (dm _ _ _ _ hg));generalize((((w3.alloc (.cells #[.slice ao 0 ac,.slice eo 0 ec,.int .i64 0] 66)).setCell ⟨br,0,none⟩ (.slice none 0 0)).setCell ⟨br,1,none⟩ (.slice none 0 0)).setCell ⟨br,2,none⟩ (.int .i64 0))=w9 at Cf hfin F6⊢;have k0:w9.cell? ⟨br,0,none⟩=some (.slice none 0 0):=af hfin rfl;have k1:w9.cell? ⟨br,1,none⟩=some (.slice none 0 0):=af hfin rfl;have k2:w9.cell? ⟨br,2,none⟩=some (.int .i64 0):=af hfin rfl;clear hfin r0 r1 r2 Lb Oc LV;refine bodyPost_ret (v:=.tuple #[.agg #[.slice none 0 0,.slice none 0 0,.int .i64 0],.slice none 0 0,.bool false,.bool true]) (by simp[results,Tryz.results21,go_sem,k0,k1,k2]) rfl ?_;exact⟨Cf.out,.inl rfl⟩
end
section
variable {w w':World}
def vD (ps:List (bJ×Value)):Nat:=(ps.map (fun p=>p.1.done.length)).sum
theorem R8 (l:List (bJ×Value)) (p:bJ×Value):vD (l++[p])=vD l+p.1.done.length:=by simp[vD]
theorem XA (l:List (bJ×Value)) (k:Nat):vD (l.take k)<=vD l:=by
 conv=>rhs;rw[<-List.take_append_drop k l]
 unfold vD;rw[List.map_append,List.sum_append];omega
theorem Gv {l:List (bJ×Value)} {k:Nat} {p:bJ×Value} (h:l[k]? =some p):vD (l.take (k+1))=vD (l.take k)+p.1.done.length:=by
 rw[List.take_add_one,h,Option.toList_some,R8]
theorem Gc {ao:Option Addr} {cap:Nat} {ps:List (bJ×Value)} (h:tK w (.slice ao ps.length cap) ps) (hf:∀p∈ps,xm p.1) (Kr:∀(j:Nat) a b,ps[j]? =some a->ps[j+1]? =some b->a.1.dN<b.1.dN) (hlen:ps.length<=1048576) (htot:ps.length+vD ps<=1048576):
  Calls Tryz.prog 44 #[.slice ao ps.length cap] w fun e w'=>e= .returned (.int .i64 0)/\Below w.heap.size w w':=by
 have H:=ag h;have HF:=ag hf;have HI:=ag Kr;have HT:=ag htot;clear h hf Kr htot;go_in;go_wp2_with fail;go_loopw [3,4] (fun l i wr=>∃(k d:Nat) (z:Int),k<=ps.length/\l= .int .i64 z/\z=1048576 - (k:Int) - (d:Int)/\i= .int .i64 (k:Int)/\Hid (d=vD (ps.take k))/\wr=w) (fun _ i _=>((ps.length:Int) - intOf i).toNat)
 case atStart=>exact⟨0,0,1048576,by omega,rfl,by simp,rfl,ag rfl,rfl⟩
 case round=>
  obtain⟨k,d,z,hk,rfl,hz,rfl,HD,rfl⟩:=hrel;by_cases hlt:k<ps.length
  ·obtain⟨p,hp⟩:=bE hlt;obtain⟨b,off,rfl,hs1,hc⟩:=dH.at (enc:=enc2) iJ H.out.row hp;obtain⟨do_,dc,hdv⟩:=Rd.shape (H.out.evs p (bC hp));have x7:=hc 7 _ rfl;rw[hdv] at x7;have hds:k+1+(d+p.1.done.length)<=1048576:=by
    have q1:d+p.1.done.length<=vD ps:=by
     rw[HD.out,<-Gv hp];exact XA _ _
    have:=HT.out;omega
   have hn:¬(z - 1 - (p.1.done.length:Int)<0):=by omega
   have HN:=ag (show d+p.1.done.length=vD (ps.take (k+1)) from by rw[Gv hp,HD.out]);clear hc hs1 hp hdv;go_wp2_with fail;exact⟨⟨k+1,d+p.1.done.length,z - 1 - p.1.done.length,by omega,by go_num,by omega,by go_num,HN,trivial⟩,by simp[intOf];omega⟩
  ·obtain rfl:k=ps.length:=by omega
   clear HD hz;go_wp2_with fail;obtain⟨w0,hw0⟩:∃w0,w0=wr:=⟨_,rfl⟩;subst hw0;go_loopw [5] (fun i wr=>∃k:Nat,k<=ps.length/\i= .int .i64 (k:Int)/\Hid (Below w0.heap.size w0 wr)) (fun i _=>((ps.length:Int) - intOf i).toNat)
   case atStart=>exact⟨0,by omega,rfl,ag (au _ _)⟩
   case round=>
    obtain⟨k,hk,rfl,HW⟩:=hrel;by_cases hlt:k<ps.length
    ·obtain⟨⟨p,dv⟩,hp⟩:=bE hlt;have Y7:=HF.out _ (bC hp);have HFI:=ag Y7;have hev:=H.out.evs _ (bC hp);have Cc:=ag (fun t=>Rd.below (Rd.below hev HW.out) (uG wr t));have hrow:=Rd.below H.out.row HW.out;obtain⟨b,off,rfl,hs1,hc⟩:=dH.at (enc:=enc2) iJ hrow hp;have x0:=fun t=>ak (hc 0 _ rfl) t
     have x1:=fun t=>ak (hc 1 _ rfl) t
     have x2:=fun t=>ak (hc 2 _ rfl) t
     have x3:=fun t=>ak (hc 3 _ rfl) t
     have x4:=fun t=>ak (hc 4 _ rfl) t
     have x5:=fun t=>ak (hc 5 _ rfl) t
     have x6:=fun t=>ak (hc 6 _ rfl) t
     have x7:=fun t=>ak (hc 7 _ rfl) t
     simp only[Nat.add_zero] at x0;clear Y7 hev;by_cases hk0:k=0
     ·subst hk0;simp only[Nat.zero_mul,Nat.add_zero] at x0 x1 x2 x3 x4 x5 x6 x7;clear hc hs1 hp hrow;go_wp2_with fail;refine bG (by kernel_rfl) (by kernel_rfl) ?_;repeat (go_big_quiet_step ((first|(go_at_call 77;exact kQ (Bj HFI.out (Cc.out _))))))
      refine wpQuiet_nil ?_;intro wU hb;have HU:=ag (HW.out.trans (hb.mono HW.out.size));clear hb x0 x1 x2 x3 x4 x5 x6 x7;go_wp2_with fail;exact⟨⟨1,by omega,by go_num,HU⟩,by simp[intOf];omega⟩
     ·obtain⟨j,rfl⟩:∃j,k=j+1:=⟨k - 1,by omega⟩;obtain⟨⟨q,du⟩,hq⟩:=bE (l:=ps) (k:=j) (by omega);have hle:=HI.out j _ _ hq hp;simp only at hle;obtain⟨b2,NN,e2,hs2,hc2⟩:=dH.at (enc:=enc2) iJ hrow hq;simp only[bH,Addr.mk.injEq,and_true] at e2;obtain⟨rfl,rfl⟩:=e2;have y2:=fun t=>ak (hc2 2 _ rfl) t
      have hj1:((j:Int)+1) - 1=(j:Int):=by omega
      have hjw:IntKind.i64.wrap (j:Int)=(j:Int):=IntWalk.i64_in _ (by omega);have hj0:(0:Int)<(j:Int)+1:=by omega
      have Zc:¬p.dN<=q.dN:=by omega
      clear hc hs1 hp hrow hc2 hs2 hq hle;go_wp2_with fail;refine bG (by kernel_rfl) (by kernel_rfl) ?_;repeat (go_big_quiet_step ((first|(go_at_call 77;exact kQ (Bj HFI.out (Cc.out _))))))
      refine wpQuiet_nil ?_;intro wU hb;have HU:=ag (HW.out.trans (hb.mono HW.out.size));clear hb x0 x1 x2 x3 x4 x5 x6 x7 y2;go_wp2_with fail;exact⟨⟨j+2,by omega,by go_num,HU⟩,by simp[intOf];omega⟩
    ·obtain rfl:k=ps.length:=by omega
     go_wp2_with fail;go_ret;exact⟨rfl,HW.out⟩
end
section
variable {w w':World}
def acS:bJ:=⟨0,0,0,0,0,0,false,[]⟩
def jI (l:List bJ) (j:Nat):bJ:=(l[j]?).getD acS
def KJ (l:List bJ) (i:Nat) (out:List Nat):List Nat:=out.take (kH (jI l i) (out.map (jI l)) out.length)++i::out.drop (kH (jI l i) (out.map (jI l)) out.length)
def lG (l:List bJ):Nat->List Nat
 |0=>[]
 |k+1=>if(jI l k).kind=1 then KJ l k (lG l k) else lG l k
theorem yK (l:List bJ) (k:Nat):lG l (k+1)=if(jI l k).kind=1 then KJ l k (lG l k) else lG l k:=rfl
theorem Qk (l:List bJ):∀k,k<=l.length->(lG l k).map (jI l)=(l.take k).foldl sF []:=by
 intro k;induction k with
 |zero=>intro _;rfl
 |succ k ih=>
  intro hk;have hx:l[k]? =some (jI l k):=by unfold jI;rw[eO (by omega)];rfl
  rw[List.take_add_one,hx,Option.toList_some,List.foldl_append,<-ih (by omega)];simp only[List.foldl_cons,List.foldl_nil];rw[yK];unfold sF;by_cases h:(jI l k).kind=1
  ·rw[if_pos h,if_pos h];unfold KJ E9;rw[List.map_append,List.map_cons,List.map_take,List.map_drop,List.length_map]
  ·rw[if_neg h,if_neg h]
theorem El (l:List bJ):∀k,∀j∈lG l k,j<k:=by
 intro k;induction k with
 |zero=>intro j hj;cases hj
 |succ k ih=>
  intro j hj;rw[yK] at hj;split at hj
  ·unfold KJ at hj;rcases List.mem_append.1 hj with h|h
   ·have:=ih j (List.mem_of_mem_take h);omega
   ·rcases List.mem_cons.1 h with rfl|h
    ·omega
    ·have:=ih j (List.mem_of_mem_drop h);omega
  ·have:=ih j hj;omega
theorem Aq (l:List bJ):∀k,(lG l k).length<=k:=by
 intro k;induction k with
 |zero=>exact aB _
 |succ k ih=>
  rw[yK];split
  ·unfold KJ;rw[List.length_append,List.length_cons,List.length_take,List.length_drop];omega
  ·omega
def jy (l:List bJ):List Nat:=lG l l.length
theorem xq (l:List bJ):(jy l).map (jI l)=eY l:=by
 unfold jy eY;rw[Qk l _ (aB _),List.take_length]
theorem EP {a b:bJ} {sa:List bJ} {k:Nat} (h:sa[k]? =some b):kH a sa (k+1)=if ahead a b=true then kH a sa k else k+1:=by
 show(match sa[k]? with|some b=>if ahead a b=true then kH a sa k else k+1|none=>k+1)=_;rw[h]
def zs (l:List Nat):List Int:=l.map (fun j:Nat=>(j:Int))
def sh (out:List Nat) (c:Nat):List Nat:=(out++[0]).take (c+1)++out.drop c
theorem DU (out:List Nat) {c:Nat} (h:c<=out.length):(sh out c).length=out.length+1:=by
 unfold sh;rw[List.length_append,List.length_take,List.length_append,List.length_drop,List.length_singleton];omega
theorem KW (out:List Nat):sh out out.length=out++[0]:=by
 unfold sh;rw[List.take_of_length_le (by simp),List.drop_length,List.append_nil]
theorem Zm (out:List Nat) {c j:Nat} (h:c<out.length) (hj:j=c):(sh out (c+1))[j]? =out[c]?:=by
 subst hj;unfold sh;rw[List.getElem?_append_left (by rw[List.length_take,List.length_append];simp;omega),List.getElem?_take_of_lt (by omega),List.getElem?_append_left h]
theorem Po (out:List Nat) {c v:Nat} (h:c<out.length) (hv:out[c]? =some v):(sh out (c+1)).set (c+1) v=sh out c:=by
 have hl:=DU out (c:=c+1) (by omega);have hl2:=DU out (c:=c) (by omega);refine List.ext_getElem? fun j=>?_
 by_cases e:c+1=j
 ·subst e;rw[List.getElem?_set_self (by omega)];unfold sh;rw[List.getElem?_append_right (by rw[List.length_take];omega),List.length_take,List.length_append,List.length_singleton,List.getElem?_drop,<-hv];congr 1
  omega
 ·rw[List.getElem?_set_ne e];unfold sh;rcases Nat.lt_or_ge j (c+1) with h1|h1
  ·rw[List.getElem?_append_left (by rw[List.length_take,List.length_append,List.length_singleton];omega),List.getElem?_append_left (by rw[List.length_take,List.length_append,List.length_singleton];omega),List.getElem?_take_of_lt (by omega),List.getElem?_take_of_lt (by omega)]
  ·rw[List.getElem?_append_right (by rw[List.length_take];omega),List.getElem?_append_right (by rw[List.length_take];omega),List.length_take,List.length_take,List.length_append,List.length_singleton,List.getElem?_drop,List.getElem?_drop];congr 1
   omega
theorem VY (out:List Nat) {p i:Nat} (h:p<=out.length):(sh out p).set p i=out.take p++i::out.drop p:=by
 refine List.ext_getElem? fun j=>?_
 have hl:=DU out h;by_cases e:p=j
 ·subst e;rw[List.getElem?_set_self (by omega),List.getElem?_append_right (by rw[List.length_take];omega),List.length_take,Nat.min_eq_left h,Nat.sub_self];rfl
 ·rw[List.getElem?_set_ne e];unfold sh;rcases Nat.lt_or_ge j p with h1|h1
  ·rw[List.getElem?_append_left (by rw[List.length_take,List.length_append,List.length_singleton];omega),List.getElem?_append_left (by rw[List.length_take];omega),List.getElem?_take_of_lt (by omega),List.getElem?_take_of_lt h1,List.getElem?_append_left (by omega)]
  ·rw[List.getElem?_append_right (by rw[List.length_take];omega),List.getElem?_append_right (by rw[List.length_take];omega),List.length_take,List.length_take,List.length_append,List.length_singleton,List.getElem?_drop,List.getElem?_cons,if_neg (by omega),List.getElem?_drop];congr 1
   omega
theorem zP {base g n cap o sz:Nat} {e:TypeId} {cs:List Value} (h:w.ownsRow base e sz (.slice (some ⟨g,0,none⟩) n cap) n cs) (u:Value):(w.setCell ⟨g,o,none⟩ u).ownsRow base e sz (.slice (some ⟨g,0,none⟩) n cap) n (cs.set o u):=by
 rcases h.2 with⟨hv',_⟩|⟨g',cap',cur,hv',hb,hg,hc,hm,hs,ht⟩
 ·simp at hv'
 ·simp only[Value.slice.injEq,bH,Addr.mk.injEq,and_true,true_and] at hv';obtain⟨rfl,rfl⟩:=hv';refine⟨by rw[List.length_set];exact h.1,.inr ⟨g,cap,_,rfl,hb,ai u hg,hc,hm,by simpa using hs,?_⟩⟩;rw[Array.toList_setIfInBounds,List.take_set,ht]
theorem nU (l:List Int):l.flatMap encZ=l.map (Value.int .i64):=by
 induction l with
 |nil=>rfl
 |cons a l ih=>simp[encZ,ih]
theorem Ic (l:List Nat) (j v:Nat):((zs l).flatMap encZ).set j (.int .i64 (v:Int))=(zs (l.set j v)).flatMap encZ:=by
 rw[nU,nU];unfold zs;rw[List.map_map,List.map_map,List.map_set];rfl
end
section
variable {w w':World}
theorem F4 {a b:bJ} {da db:Value} {v:Bool} (h:ahead a b=v):
  Calls Tryz.prog 78 #[(.agg #[.int .i64 a.th,.int .u8 a.kind,.int .i64 a.dN,.int .i64 a.fin,.int .i64 a.clock,.int .i64 a.place,.bool a.writer,da]),(.agg #[.int .i64 b.th,.int .u8 b.kind,.int .i64 b.dN,.int .i64 b.fin,.int .i64 b.clock,.int .i64 b.place,.bool b.writer,db])] w fun e w'=>e= .returned (.bool v)/\Below w.heap.size w w':=by
 subst h;exact QO a b da db
theorem GX (l:List Nat):(zs l).length=l.length:=List.length_map _
def zz (w:World) (base:Nat) (ao:Option Addr) (c:Nat) (out:List Nat):Prop:=w.ownsRow base 3 1 (.slice ao out.length c) out.length ((zs out).flatMap encZ)
theorem zz.rd {base c:Nat} {ao:Option Addr} {out:List Nat} (h:zz w base ao c out):dH encZ w 1 (.slice ao (zs out).length c) (zs out):=by
 have:=Rd.gu h;unfold dH;rw[show(zs out).length=out.length from List.length_map _];exact this
theorem Ec {ao:Option Addr} {cap:Nat} {ps:List (bJ×Value)} (h:tK w (.slice ao ps.length cap) ps) (hlen:ps.length<=4194304):
  Calls Tryz.prog 45 #[.slice ao ps.length cap] w fun e w'=>∃oo oc,e= .returned (.slice oo (jy (ps.map Prod.fst)).length oc)/\zz w' w.heap.size oo oc (jy (ps.map Prod.fst))/\Below w.heap.size w w':=by
 have H:=ag h;clear h;have HN:Hid (∀(j:Nat) p,ps[j]? =some p->jI (ps.map Prod.fst) j=p.1):=ag (fun j p hp=>by unfold jI;rw[List.getElem?_map,hp];rfl);obtain⟨i0,hi,hz0,hz1,hz2⟩:=info_parts Yd;go_in;go_wp2_with fail;go_loopw [3,4] (fun v i wr=>∃(k:Nat) (oo:Option Addr) (oc:Nat),k<=ps.length/\v= .slice oo (lG (ps.map Prod.fst) k).length oc/\i= .int .i64 (k:Int)/\Hid (zz wr w.heap.size oo oc (lG (ps.map Prod.fst) k))/\Hid (Below w.heap.size w wr)) (fun _ i _=>((ps.length:Int) - intOf i).toNat)
 case atStart=>exact⟨0,none,0,by omega,rfl,rfl,ag (show zz w w.heap.size none 0 [] from World.ownsRow_nil _ _ _ _),ag (au _ _)⟩
 case round=>
  obtain⟨k,oo,oc,hk,rfl,rfl,HO,HW⟩:=hrel;by_cases hlt:k<ps.length
  ·obtain⟨⟨p,dv⟩,hp⟩:=bE hlt;have hpn:=HN.out k _ hp;simp only at hpn;have hrow:=Rd.below H.out.row HW.out;obtain⟨b,off,rfl,hs1,hc⟩:=dH.at (enc:=enc2) iJ hrow hp;have x1:=hc 1 _ rfl;by_cases hkd:p.kind=1
   ·have HS:=ag (show lG (ps.map Prod.fst) (k+1)=KJ (ps.map Prod.fst) k (lG (ps.map Prod.fst) k) from by
     show(if(jI (ps.map Prod.fst) k).kind=1 then _ else _)=_;rw[hpn,if_pos hkd])
    have hol:=Aq (ps.map Prod.fst) k;have RV:=ag (El (ps.map Prod.fst) k);have HC:=ag hc;obtain⟨out,hout⟩:∃out,out=lG (ps.map Prod.fst) k:=⟨_,rfl⟩;rw[<-hout] at HO HS hol RV⊢;have Rl:=ag hout;have HPN:=ag hpn;clear hout hrow hc hs1 hp hpn;have ad6:(p.kind !=1)=false:=by rw[hkd];rfl
    go_wp2_with fail;clear x1 hkd ad6;obtain⟨wq,hwq⟩:∃wq,wq=wr:=⟨_,rfl⟩;subst hwq;go_loopw [5] (fun a wr=>∃r:Nat,r<=out.length/\a= .int .i64 (r:Int)/\Hid (kH p (out.map (jI (ps.map Prod.fst))) r=kH p (out.map (jI (ps.map Prod.fst))) out.length)/\Hid (Below wq.heap.size wq wr)) (fun a _=>(intOf a).toNat)
    case atStart=>exact⟨out.length,aB _,rfl,ag rfl,ag (au _ _)⟩
    case round=>
     obtain⟨r,hr,rfl,HP,HQ⟩:=hrel;by_cases hr0:r=0
     ·subst hr0;have abU:=ag (show kH p (out.map (jI (ps.map Prod.fst))) out.length=0 from HP.out.symm);clear HP;go_wp2_with fail;refine bG (by kernel_rfl) (by kernel_rfl) ?_;repeat (go_big_quiet_step (fail))
      refine wpQuiet_nil ?_;intro wU hb;have HU:=ag (HQ.out.trans (hb.mono HQ.out.size));clear hb HQ;have HOU:=ag (aX HO.out (bz.of_below (S:=fun _=>False) HU.out) (fun _ _=>id));have hz3:=GX out;go_wp2_with (at_builtin;refine dD _ rfl _ _ 72 rfl w.heap.size 3 i0 _ 1 8 Tryz.underlying72 hi hz0 hz1 hz2 rfl (by decide) _ _ _ rfl (aX HOU.out ((bz.refl (fun _=>False) wU).alloc _) (fun _ _=>id)) ⟨wU.heap.size,0,none⟩ 1 1 (encZ 0) rfl rfl ?c1 ?c2 ?c3 ?c4 ?c5 ?_)
      case c1=>exact iP (aj _ _)
      case c2=>intro u hu;simp[encZ] at hu;subst hu;rfl
      case c3=>unfold maxLen;omega
      case c4=>omega
      case c5=>have:=HU.out.size;have:=HW.out.size;simp;omega
      intro Jm c9 w9 hown jh eU;have FL:=bz.grown (S:=fun j=>(Value.slice oo out.length oc).ownBlock=some j) ((bz.refl _ wU).alloc _) eU (fun j hj=>.inl hj);have HWU:=ag (HW.out.trans (HU.out.mono HW.out.size));have yh:=ag (FL.below HWU.out HWU.out.size (fun j hj=>(HO.out.lt j hj).1));obtain⟨g,cur,rfl,hgb, -, -, -⟩:=bX hown (by omega);have HG:=ag hgb;have OZ:=ag (show w9.ownsRow w.heap.size 3 1 (.slice (some ⟨g,0,none⟩) (out.length+1) c9) (out.length+1) ((zs (sh out out.length)).flatMap encZ) from by rw[KW];unfold zs;rw[List.map_append,List.flatMap_append];exact hown);clear hown jh eU FL hgb;go_wp2_with fail;go_loopw [6] (fun c wr=>∃c':Nat,0<=c'/\c'<=out.length/\c= .int .i64 (c':Int)/\Hid (wr.ownsRow w.heap.size 3 1 (.slice (some ⟨g,0,none⟩) (out.length+1) c9) (out.length+1) ((zs (sh out c')).flatMap encZ))/\Hid (Below w.heap.size w wr)) (fun c _=>(intOf c).toNat)
      case atStart=>exact⟨out.length,by omega,aB _,by go_num,OZ,yh⟩
      case round=>
       obtain⟨c,hc1,hc2,rfl,HR,HB⟩:=hrel;have aat:=DU out hc2;by_cases hcp:0<c
       ·obtain⟨c,rfl⟩:∃q,c=q+1:=⟨c - 1,by omega⟩;obtain⟨v,hv⟩:=bE (l:=out) (k:=c) (by omega);obtain⟨g',cur,hg', -,hgb,hcap,hcells⟩:=bX HR.out (by omega);simp only[bH,Addr.mk.injEq,and_true] at hg';subst hg';have r1:wr.cell? ⟨g,c,none⟩=some (.int .i64 (v:Int)):=af hgb (hcells c _ (by rw[nU];unfold zs;rw[List.getElem?_map,List.getElem?_map,Zm out (by omega) rfl,hv];rfl));obtain⟨u9,Vn⟩:=bE (l:=sh out (c+1)) (k:=c+1) (by omega);have r2:wr.cell? ⟨g,c+1,none⟩=some (.int .i64 (u9:Int)):=af hgb (hcells (c+1) _ (by rw[nU];unfold zs;rw[List.getElem?_map,List.getElem?_map,Vn];rfl));have r3:wr.frozen? ⟨g,c+1,none⟩=false:=ah hgb;have hj1:((c:Int)+1) - 1=(c:Int):=by omega
        have hg0:(0:Int)<(c:Int)+1:=by omega
        have Wj:=ag (show(wr.setCell ⟨g,c+1,none⟩ (.int .i64 (v:Int))).ownsRow w.heap.size 3 1 (.slice (some ⟨g,0,none⟩) (out.length+1) c9) (out.length+1) ((zs (sh out c)).flatMap encZ) from by
         have:=zP (o:=c+1) HR.out (.int .i64 (v:Int));rw[Ic,Po out (by omega) hv] at this;exact this)
        have WR:=ag (HB.out.setCell (p:=⟨g,c+1,none⟩) (HG.out) (.int .i64 (v:Int)));clear hgb hcells hv Vn;go_wp2_with fail;exact⟨⟨c,by omega,by omega,by go_num,Wj,WR⟩,by simp only[intOf];omega⟩
       ·obtain rfl:c=0:=by omega
        obtain⟨g',cur,hg', -,hgb,hcap,hcells⟩:=bX HR.out (by omega);simp only[bH,Addr.mk.injEq,and_true] at hg';subst hg';obtain⟨u9,Vn⟩:=bE (l:=sh out (0)) (k:=0) (by omega);have r2:wr.cell? ⟨g,0,none⟩=some (.int .i64 (u9:Int)):=af hgb (hcells (0) _ (by rw[nU];unfold zs;rw[List.getElem?_map,List.getElem?_map,Vn];rfl));have r3:wr.frozen? ⟨g,0,none⟩=false:=ah hgb;have hsn:lG (ps.map Prod.fst) (k+1)=(sh out (0)).set (0) k:=by
         rw[HS.out,VY out (by omega)];unfold KJ;rw[HPN.out,abU.out]
        have hsl:(lG (ps.map Prod.fst) (k+1)).length=out.length+1:=by rw[hsn,List.length_set];exact aat
        have HSL:=ag hsl;have Wj:=ag (show zz (wr.setCell ⟨g,0,none⟩ (.int .i64 (k:Int))) w.heap.size (some ⟨g,0,none⟩) c9 (lG (ps.map Prod.fst) (k+1)) from by
         have:=zP (o:=0) HR.out (.int .i64 (k:Int));rw[Ic,<-hsn] at this;unfold zz;rw[hsl];exact this)
        have WR:=ag (HB.out.setCell (p:=⟨g,0,none⟩) (HG.out) (.int .i64 (k:Int)));clear hgb hcells Vn hsn hsl;go_wp2_with fail;exact⟨⟨k+1,some ⟨g,0,none⟩,c9,by omega,by rw[HSL.out],by go_num,Wj,WR⟩,by simp[intOf];omega⟩
     ·obtain⟨r,rfl⟩:∃q,r=q+1:=⟨r - 1,by omega⟩;obtain⟨j,hj⟩:=bE (l:=out) (k:=r) (by omega);have hjk:=RV.out j (bC hj);obtain⟨⟨q,du⟩,hq⟩:=bE (l:=ps) (k:=j) (by omega);have hqn:=HN.out j _ hq;simp only at hqn;have hmj:(out.map (jI (ps.map Prod.fst)))[r]? =some q:=by rw[List.getElem?_map,hj];simp[hqn]
      obtain⟨b2,NN,e2,hs2,hc2⟩:=dH.at (enc:=enc2) iJ (Rd.below H.out.row (HW.out.trans (HQ.out.mono HW.out.size))) hq;simp only[bH,Addr.mk.injEq,and_true] at e2;obtain⟨rfl,rfl⟩:=e2;obtain⟨g0,go0,eg,hsg,hcg⟩:=dH.at oD (Rd.below HO.out.rd HQ.out) (show(zs out)[r]? =some (j:Int) from by unfold zs;rw[List.getElem?_map,hj];rfl);subst eg;have z0:=fun t=>ak (hcg 0 _ rfl) t
      simp only[Nat.mul_one,Nat.add_zero] at z0;have x0:=fun t=>ak (cell_later HQ.out (HC.out 0 _ rfl)) t
      have x1:=fun t=>ak (cell_later HQ.out (HC.out 1 _ rfl)) t
      have x2:=fun t=>ak (cell_later HQ.out (HC.out 2 _ rfl)) t
      have x3:=fun t=>ak (cell_later HQ.out (HC.out 3 _ rfl)) t
      have x4:=fun t=>ak (cell_later HQ.out (HC.out 4 _ rfl)) t
      have x5:=fun t=>ak (cell_later HQ.out (HC.out 5 _ rfl)) t
      have x6:=fun t=>ak (cell_later HQ.out (HC.out 6 _ rfl)) t
      have x7:=fun t=>ak (cell_later HQ.out (HC.out 7 _ rfl)) t
      have y0:=fun t=>ak (hc2 0 _ rfl) t
      have y1:=fun t=>ak (hc2 1 _ rfl) t
      have y2:=fun t=>ak (hc2 2 _ rfl) t
      have y3:=fun t=>ak (hc2 3 _ rfl) t
      have y4:=fun t=>ak (hc2 4 _ rfl) t
      have y5:=fun t=>ak (hc2 5 _ rfl) t
      have y6:=fun t=>ak (hc2 6 _ rfl) t
      have y7:=fun t=>ak (hc2 7 _ rfl) t
      simp only[Nat.add_zero] at x0 y0;have hj1:((r:Int)+1) - 1=(r:Int):=by omega
      have hjw:IntKind.i64.wrap (r:Int)=(r:Int):=IntWalk.i64_in _ (by omega);have hj0:(0:Int)<(r:Int)+1:=by omega
      have HJ:=ag hj;clear hc2 hs2 hq hcg hsg hqn hj;cases hah:ahead p q with
      |true=>
       have R9:=ag (fun W:World=>F4 (w:=W) (da:=dv) (db:=du) hah);have HP2:=ag (show kH p (out.map (jI (ps.map Prod.fst))) r=kH p (out.map (jI (ps.map Prod.fst))) out.length from by rw[<-HP.out,EP hmj,if_pos hah]);clear hah hmj HP;go_wp2_with fail;refine bG (by kernel_rfl) (by kernel_rfl) ?_;repeat (go_big_quiet_step ((first|(go_at_call 78;exact kQ (R9.out _)))))
       refine wpQuiet_nil ?_;intro wU hb;have HU:=ag (HQ.out.trans (hb.mono HQ.out.size));clear hb x0 y0 x1 y1 x2 y2 x3 y3 x4 y4 x5 y5 x6 y6 x7 y7 z0;go_wp2_with fail;exact⟨⟨r,by omega,by go_num,HP2,HU⟩,by simp only[intOf];omega⟩
      |false=>
       have R9:=ag (fun W:World=>F4 (w:=W) (da:=dv) (db:=du) hah);have abU:=ag (show kH p (out.map (jI (ps.map Prod.fst))) out.length=r+1 from by rw[<-HP.out,EP hmj,if_neg (by rw[hah];simp)]);clear hah hmj HP;go_wp2_with fail;refine bG (by kernel_rfl) (by kernel_rfl) ?_;repeat (go_big_quiet_step ((first|(go_at_call 78;exact kQ (R9.out _)))))
       refine wpQuiet_nil ?_;intro wU hb;have HU:=ag (HQ.out.trans (hb.mono HQ.out.size));clear hb x0 y0 x1 y1 x2 y2 x3 y3 x4 y4 x5 y5 x6 y6 x7 y7 z0 HQ;have HOU:=ag (aX HO.out (bz.of_below (S:=fun _=>False) HU.out) (fun _ _=>id));have hz3:=GX out;go_wp2_with (at_builtin;refine dD _ rfl _ _ 72 rfl w.heap.size 3 i0 _ 1 8 Tryz.underlying72 hi hz0 hz1 hz2 rfl (by decide) _ _ _ rfl (aX HOU.out ((bz.refl (fun _=>False) wU).alloc _) (fun _ _=>id)) ⟨wU.heap.size,0,none⟩ 1 1 (encZ 0) rfl rfl ?c1 ?c2 ?c3 ?c4 ?c5 ?_)
       case c1=>exact iP (aj _ _)
       case c2=>intro u hu;simp[encZ] at hu;subst hu;rfl
       case c3=>unfold maxLen;omega
       case c4=>omega
       case c5=>have:=HU.out.size;have:=HW.out.size;simp;omega
       intro Jm c9 w9 hown jh eU;have FL:=bz.grown (S:=fun j=>(Value.slice (some ⟨g0,go0,none⟩) out.length oc).ownBlock=some j) ((bz.refl _ wU).alloc _) eU (fun j hj=>.inl hj);have HWU:=ag (HW.out.trans (HU.out.mono HW.out.size));have yh:=ag (FL.below HWU.out HWU.out.size (fun j hj=>(HO.out.lt j hj).1));obtain⟨g,cur,rfl,hgb, -, -, -⟩:=bX hown (by omega);have HG:=ag hgb;have OZ:=ag (show w9.ownsRow w.heap.size 3 1 (.slice (some ⟨g,0,none⟩) (out.length+1) c9) (out.length+1) ((zs (sh out out.length)).flatMap encZ) from by rw[KW];unfold zs;rw[List.map_append,List.flatMap_append];exact hown);clear hown jh eU FL hgb;go_wp2_with fail;go_loopw [6] (fun c wr=>∃c':Nat,r+1<=c'/\c'<=out.length/\c= .int .i64 (c':Int)/\Hid (wr.ownsRow w.heap.size 3 1 (.slice (some ⟨g,0,none⟩) (out.length+1) c9) (out.length+1) ((zs (sh out c')).flatMap encZ))/\Hid (Below w.heap.size w wr)) (fun c _=>(intOf c).toNat)
       case atStart=>exact⟨out.length,by omega,aB _,by go_num,OZ,yh⟩
       case round=>
        obtain⟨c,hc1,hc2,rfl,HR,HB⟩:=hrel;have aat:=DU out hc2;by_cases hcp:r+1<c
        ·obtain⟨c,rfl⟩:∃q,c=q+1:=⟨c - 1,by omega⟩;obtain⟨v,hv⟩:=bE (l:=out) (k:=c) (by omega);obtain⟨g',cur,hg', -,hgb,hcap,hcells⟩:=bX HR.out (by omega);simp only[bH,Addr.mk.injEq,and_true] at hg';subst hg';have r1:wr.cell? ⟨g,c,none⟩=some (.int .i64 (v:Int)):=af hgb (hcells c _ (by rw[nU];unfold zs;rw[List.getElem?_map,List.getElem?_map,Zm out (by omega) rfl,hv];rfl));obtain⟨u9,Vn⟩:=bE (l:=sh out (c+1)) (k:=c+1) (by omega);have r2:wr.cell? ⟨g,c+1,none⟩=some (.int .i64 (u9:Int)):=af hgb (hcells (c+1) _ (by rw[nU];unfold zs;rw[List.getElem?_map,List.getElem?_map,Vn];rfl));have r3:wr.frozen? ⟨g,c+1,none⟩=false:=ah hgb;have hj1:((c:Int)+1) - 1=(c:Int):=by omega
         have hg0:(r:Int)+1<(c:Int)+1:=by omega
         have Wj:=ag (show(wr.setCell ⟨g,c+1,none⟩ (.int .i64 (v:Int))).ownsRow w.heap.size 3 1 (.slice (some ⟨g,0,none⟩) (out.length+1) c9) (out.length+1) ((zs (sh out c)).flatMap encZ) from by
          have:=zP (o:=c+1) HR.out (.int .i64 (v:Int));rw[Ic,Po out (by omega) hv] at this;exact this)
         have WR:=ag (HB.out.setCell (p:=⟨g,c+1,none⟩) (HG.out) (.int .i64 (v:Int)));clear hgb hcells hv Vn;go_wp2_with fail;exact⟨⟨c,by omega,by omega,by go_num,Wj,WR⟩,by simp only[intOf];omega⟩
        ·obtain rfl:c=r+1:=by omega
         obtain⟨g',cur,hg', -,hgb,hcap,hcells⟩:=bX HR.out (by omega);simp only[bH,Addr.mk.injEq,and_true] at hg';subst hg';obtain⟨u9,Vn⟩:=bE (l:=sh out (r+1)) (k:=r+1) (by omega);have r2:wr.cell? ⟨g,r+1,none⟩=some (.int .i64 (u9:Int)):=af hgb (hcells (r+1) _ (by rw[nU];unfold zs;rw[List.getElem?_map,List.getElem?_map,Vn];rfl));have r3:wr.frozen? ⟨g,r+1,none⟩=false:=ah hgb;have hsn:lG (ps.map Prod.fst) (k+1)=(sh out (r+1)).set (r+1) k:=by
          rw[HS.out,VY out (by omega)];unfold KJ;rw[HPN.out,abU.out]
         have hsl:(lG (ps.map Prod.fst) (k+1)).length=out.length+1:=by rw[hsn,List.length_set];exact aat
         have HSL:=ag hsl;have Wj:=ag (show zz (wr.setCell ⟨g,r+1,none⟩ (.int .i64 (k:Int))) w.heap.size (some ⟨g,0,none⟩) c9 (lG (ps.map Prod.fst) (k+1)) from by
          have:=zP (o:=r+1) HR.out (.int .i64 (k:Int));rw[Ic,<-hsn] at this;unfold zz;rw[hsl];exact this)
         have WR:=ag (HB.out.setCell (p:=⟨g,r+1,none⟩) (HG.out) (.int .i64 (k:Int)));clear hgb hcells Vn hsn hsl;go_wp2_with fail;exact⟨⟨k+1,some ⟨g,0,none⟩,c9,by omega,by rw[HSL.out],by go_num,Wj,WR⟩,by simp[intOf];omega⟩
   ·have ad6:(p.kind !=1)=true:=by simpa using hkd
    have HS:=ag (show lG (ps.map Prod.fst) (k+1)=lG (ps.map Prod.fst) k from by
     show(if(jI (ps.map Prod.fst) k).kind=1 then _ else _)=_;rw[hpn,if_neg hkd])
    clear hrow hc hs1 hp hpn;go_wp2_with fail;exact⟨⟨k+1,oo,oc,by omega,by rw[HS.out],by go_num,by rw[HS.out];exact HO,HW⟩,by simp[intOf];omega⟩
  ·obtain rfl:k=ps.length:=by omega
   have hsi:jy (ps.map Prod.fst)=lG (ps.map Prod.fst) ps.length:=by unfold jy;rw[List.length_map]
   have HSI:=ag hsi;clear hsi;go_wp2_with fail;go_ret;rw[HSI.out];exact⟨oo,oc,rfl,HO.out,HW.out⟩
end
end Go.Proofs.YtopdcjimpdalpaaGreat

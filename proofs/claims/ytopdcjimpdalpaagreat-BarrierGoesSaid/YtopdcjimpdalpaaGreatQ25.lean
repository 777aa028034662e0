import Derived.Test.YtopdcjimpdalpaaGreatQ24
namespace Go.Proofs.YtopdcjimpdalpaaGreat
open Go.RowKit
set_option linter.all false
section
structure Lay (t:dw) (lo hi:Int):Prop where
 words:0<=t.words/\t.words<=262144
 low:t.words+18<=lo
 sum:t.sum=lo
 base:t.base=lo+1
 log:lo+32<=t.log
 room:t.log+128<=hi
 top:hi<=1000000
 th:0<=t.th/\t.th<4
variable {code:List bM} {lo hi:Int} {Q:LS->Prop} {K:Nat} {t:dw} {pv:Int->Int} {r0 r1 r2 r3 r4 r5 r6:Int} {log:List (Int×Int)} {x bX sum:Int} {rd H:Nat}
theorem Lay.b (L:Lay t lo hi) {k:Int} (h0:0<=k) (h1:k<=30):fq (0+(t.base+k))=t.base+k/\lo<=t.base+k/\t.base+k<hi:=by
 obtain⟨l1,l2,l3,l4,l5,l6,l7,l8⟩:=L;refine⟨?_,by omega,by omega⟩;rw[eT (by omega)];omega
theorem Lay.s (L:Lay t lo hi):fq (0+t.sum)=t.sum/\lo<=t.sum/\t.sum<hi:=by
 obtain⟨l1,l2,l3,l4,l5,l6,l7,l8⟩:=L;refine⟨?_,by omega,by omega⟩;rw[eT (by omega)];omega
theorem Lay.e (L:Lay t lo hi) {i:Nat} (hi':i<64) {k:Int} (h0:0<=k) (h1:k<=1):fq (t.log+2*i+k)=t.log+2*i+k/\lo<=t.log+2*i+k/\t.log+2*i+k<hi:=by
 obtain⟨l1,l2,l3,l4,l5,l6,l7,l8⟩:=L;exact⟨eT (by omega),by omega,by omega⟩
theorem Lay.o (L:Lay t lo hi) {s:Nat} (hs:s<16):fq (t.base+8+s+0)=t.base+8+s/\lo<=t.base+8+s/\t.base+8+s<hi:=by
 obtain⟨l1,l2,l3,l4,l5,l6,l7,l8⟩:=L;refine⟨?_,by omega,by omega⟩;rw[eT (by omega)];omega
theorem r9 {a:Nat} (h:a<1000000):fq ((a:Int)+1)=((a+1:Nat):Int):=by rw[eT (by omega)];omega
theorem Jw {a:Nat} (h:a<1000000):fq (((a+1:Nat):Int) - 1)=(a:Int):=by rw[eT (by omega)];omega
theorem Lay.jj (L:Lay t lo hi) {j:Nat} (h:j<64):fq ((j:Int)+j)=2*j:=by rw[eT (by omega)];omega
theorem Lay.a5 (L:Lay t lo hi) {j:Nat} (h:j<64):fq (2*(j:Int)+t.log)=t.log+2*j:=by
 obtain⟨l1,l2,l3,l4,l5,l6,l7,l8⟩:=L;rw[eT (by omega)];omega
theorem Lay.k5 (L:Lay t lo hi) {s:Nat} (h:s<16):fq ((s:Int)+(t.words+2))=t.words+2+s:=by
 obtain⟨l1,l2,l3,l4,l5,l6,l7,l8⟩:=L;rw[eT (by omega)];omega
theorem Lay.o5 (L:Lay t lo hi) {s:Nat} (h:s<16):fq ((s:Int)+(t.base+8))=t.base+8+s:=by
 obtain⟨l1,l2,l3,l4,l5,l6,l7,l8⟩:=L;rw[eT (by omega)];omega
structure Fr (t:dw) (bX:Int) (rd:Nat) (log:List (Int×Int)) (sum:Int) (H:Nat) (pv:Int->Int):Prop where
 bX:pv (t.base+0)=bX
 reads:pv (t.base+1)=(rd:Int)
 cnt:pv (t.base+2)=(log.length:Int)
 prints:pv (t.base+3)=0
 held:pv (t.base+6)=(H:Int)
 sum:pv t.sum=sum
 log:∀(i:Nat) c,log[i]? =some c->pv (t.log+2*i)=c.1/\pv (t.log+2*i+1)=c.2
theorem Fr.other (h:Fr t bX rd log sum H pv) (L:Lay t lo hi) (hl:log.length<=64) {a v:Int} (ha:a=t.base+4\/a=t.base+5\/t.base+7<=a/\a<t.log):Fr t bX rd log sum H (yw pv a v):=by
 obtain⟨l1,l2,l3,l4,l5,l6,l7,l8⟩:=L;refine⟨by rw[aW _ (by omega)];exact h.bX,by rw[aW _ (by omega)];exact h.reads,by rw[aW _ (by omega)];exact h.cnt,by rw[aW _ (by omega)];exact h.prints,by rw[aW _ (by omega)];exact h.held,by rw[aW _ (by omega)];exact h.sum,fun i c hc=>?_⟩;rw[aW _ (by omega),aW _ (by omega)];exact h.log i c hc
theorem Fr.TC (h:Fr t bX rd log sum H pv) (L:Lay t lo hi) (hl:log.length<=64) (r:Nat):Fr t bX r log sum H (yw pv (t.base+1) r):=by
 obtain⟨l1,l2,l3,l4,l5,l6,l7,l8⟩:=L;refine⟨by rw[aW _ (by omega)];exact h.bX,gu _ _ _,by rw[aW _ (by omega)];exact h.cnt,by rw[aW _ (by omega)];exact h.prints,by rw[aW _ (by omega)];exact h.held,by rw[aW _ (by omega)];exact h.sum,fun i c hc=>?_⟩;rw[aW _ (by omega),aW _ (by omega)];exact h.log i c hc
theorem Fr.UR (h:Fr t bX rd log sum H pv) (L:Lay t lo hi) (hl:log.length<=64) (r:Nat):Fr t bX rd log sum r (yw pv (t.base+6) r):=by
 obtain⟨l1,l2,l3,l4,l5,l6,l7,l8⟩:=L;refine⟨by rw[aW _ (by omega)];exact h.bX,by rw[aW _ (by omega)];exact h.reads,by rw[aW _ (by omega)];exact h.cnt,by rw[aW _ (by omega)];exact h.prints,gu _ _ _,by rw[aW _ (by omega)];exact h.sum,fun i c hc=>?_⟩;rw[aW _ (by omega),aW _ (by omega)];exact h.log i c hc
theorem Fr.XJ (h:Fr t bX rd log sum H pv) (L:Lay t lo hi) (hl:log.length<=64) (v:Int):Fr t bX rd log v H (yw pv t.sum v):=by
 obtain⟨l1,l2,l3,l4,l5,l6,l7,l8⟩:=L;refine⟨by rw[aW _ (by omega)];exact h.bX,by rw[aW _ (by omega)];exact h.reads,by rw[aW _ (by omega)];exact h.cnt,by rw[aW _ (by omega)];exact h.prints,by rw[aW _ (by omega)];exact h.held,gu _ _ _,fun i c hc=>?_⟩;rw[aW _ (by omega),aW _ (by omega)];exact h.log i c hc
theorem Fr.Yj (h:Fr t bX rd log sum H pv) (L:Lay t lo hi) (hl:log.length<=64) {i:Nat} {c:Int×Int} (hc:log[i]? =some c) (v:Int):Fr t bX rd (log.set i (c.1,v)) sum H (yw pv (t.log+2*i+1) v):=by
 obtain⟨l1,l2,l3,l4,l5,l6,l7,l8⟩:=L;have hi:=(bE.1 hc).1;refine⟨by rw[aW _ (by omega)];exact h.bX,by rw[aW _ (by omega)];exact h.reads,by rw[aW _ (by omega),List.length_set];exact h.cnt,by rw[aW _ (by omega)];exact h.prints,by rw[aW _ (by omega)];exact h.held,by rw[aW _ (by omega)];exact h.sum,fun k d hd=>?_⟩;rw[aW _ (by omega)];by_cases e:k=i
 ·subst e;rw[List.getElem?_set_self hi] at hd;cases hd;exact⟨(h.log k c hc).1,gu _ _ _⟩
 ·rw[List.getElem?_set_ne (fun q=>e q.symm)] at hd;rw[aW _ (by omega)];exact h.log k d hd
theorem Fr.XX (h:Fr t bX rd log sum H pv) (L:Lay t lo hi) (hl:log.length<64) (a v:Int):Fr t bX rd (log++[(a,v)]) sum H (yw (yw (yw pv (t.log+2*log.length) a) (t.base+2) ((log.length+1:Nat):Int)) (t.log+2*log.length+1) v):=by
 obtain⟨l1,l2,l3,l4,l5,l6,l7,l8⟩:=L;refine⟨by rw[aW _ (by omega),aW _ (by omega),aW _ (by omega)];exact h.bX,by rw[aW _ (by omega),aW _ (by omega),aW _ (by omega)];exact h.reads,by rw[aW _ (by omega),gu];simp,by rw[aW _ (by omega),aW _ (by omega),aW _ (by omega)];exact h.prints,by rw[aW _ (by omega),aW _ (by omega),aW _ (by omega)];exact h.held,by rw[aW _ (by omega),aW _ (by omega),aW _ (by omega)];exact h.sum,fun k d hd=>?_⟩;rcases Nat.lt_or_ge k log.length with e|e
 ·rw[List.getElem?_append_left e] at hd;rw[aW _ (by omega),aW _ (by omega),aW _ (by omega),aW _ (by omega),aW _ (by omega),aW _ (by omega)];exact h.log k d hd
 ·have hk:=(bE.1 hd).1;simp only[List.length_append,List.length_cons,List.length_nil] at hk;obtain rfl:k=log.length:=by omega
  simp at hd;subst hd;refine⟨?_,gu _ _ _⟩;rw[aW _ (by omega),aW _ (by omega),gu]
theorem Seg.part {p:Nat} {l:List bM} (h:Seg code p l) (k n:Nat):Seg code (p+k) ((l.drop k).take n):=fun i o ho=>by
 have h1:(l.drop k)[i]? =some o:=by
  rw[List.getElem?_take] at ho;split at ho
  ·exact ho
  ·cases ho
 rw[List.getElem?_drop] at h1;rw[Nat.add_assoc];exact h (k+i) o h1
theorem AP {u f:Nat} (L:Lay t lo hi) (S:Seg code u (fZ t u ((f:Nat):Int))) (F:Fr t bX rd log sum H pv) (hl:log.length<=64) (hx:1<=x/\x<=262144) (hk:∀c∈log,1<=c.1/\c.1<=262144)
  (hf:∀(i:Nat) c r3 r4,log[i]? =some c->c.1=x->dX code lo hi Q K ⟨f,r0,x,r2,r3,r4,t.log+2*i,0,0,pv⟩)
  (hm:(∀c∈log,c.1≠x)->∀r4 r5 r6,dX code lo hi Q K ⟨u+12,r0,x,r2,0,r4,r5,r6,0,pv⟩):
  dX code lo hi Q (K+2+11*log.length) ⟨u,r0,x,r2,r3,r4,r5,r6,0,pv⟩:=by
 have loop:∀(j:Nat) (r4 r5 r6:Int),j<=log.length->(∀(i:Nat) c,j<=i->log[i]? =some c->c.1≠x)->dX code lo hi Q (K+1+11*j) ⟨u+1,r0,x,r2,(j:Int),r4,r5,r6,0,pv⟩:=by
  intro j;induction j with
  |zero=>
   intro r4 r5 r6 _ hn;rw[Nat.mul_zero,Nat.add_zero];refine .step (S 1 _ rfl) (.zero (a:=3) (by decide) (rfl)) ?_;dsimp only[ay,az,ax,au,ak,aD,aG,aA,ah,ai,aB,aC,aF,aH,aj,LS.at,LS.aT];exact hm (fun c hc=>by obtain⟨i,hi⟩:=List.getElem?_of_mem hc;exact hn i c (Nat.zero_le _) hi) _ _ _
  |succ j ih=>
   intro r4 r5 r6 hj hn;have hc:=dZ (show j<log.length by omega);generalize log[j]=c at hc;have hcm:=hk c (bA hc);rw[show K+1+11*(j+1)=K+1+11*j+11 by omega];refine .step (S 1 _ rfl) (.more (a:=3) (by decide) ((show((j+1:Nat):Int)≠0 by omega))) ?_;dsimp only[ay,az,ax,au,ak,aD,aG,aA,ah,ai,aB,aC,aF,aH,aj,LS.at,LS.aT];refine .step (S 2 _ rfl) (.set (a:=4) (by decide)) ?_;dsimp only[ay,az,ax,au,ak,aD,aG,aA,ah,ai,aB,aC,aF,aH,aj,LS.at,LS.aT];refine .step (S 3 _ rfl) (.nQ (a:=3) (b:=4) (by decide) (by decide) (qH (Jw (a:=j) (by omega)))) ?_;dsimp only[ay,az,ax,au,ak,aD,aG,aA,ah,ai,aB,aC,aF,aH,aj,LS.at,LS.aT];refine .step (S 4 _ rfl) (.move (a:=5) (b:=3) (by decide) (by decide)) ?_;dsimp only[ay,az,ax,au,ak,aD,aG,aA,ah,ai,aB,aC,aF,aH,aj,LS.at,LS.aT];refine .step (S 5 _ rfl) (.nQ (a:=5) (b:=5) (by decide) (by decide) (dR (L.jj (j:=j) (by omega)))) ?_;dsimp only[ay,az,ax,au,ak,aD,aG,aA,ah,ai,aB,aC,aF,aH,aj,LS.at,LS.aT];refine .step (S 6 _ rfl) (.set (a:=4) (by decide)) ?_;dsimp only[ay,az,ax,au,ak,aD,aG,aA,ah,ai,aB,aC,aF,aH,aj,LS.at,LS.aT];refine .step (S 7 _ rfl) (.nQ (a:=5) (b:=4) (by decide) (by decide) (dR (L.a5 (j:=j) (by omega)))) ?_;dsimp only[ay,az,ax,au,ak,aD,aG,aA,ah,ai,aB,aC,aF,aH,aj,LS.at,LS.aT];refine .step (S 8 _ rfl) (.load (a:=6) (b:=5) (by decide) (by decide) (L.e (i:=j) (by omega) (by decide) (by decide)).1 (L.e (i:=j) (by omega) (by decide) (by decide)).2.1 (L.e (i:=j) (by omega) (by decide) (by decide)).2.2) ?_;dsimp only[ay,az,ax,au,ak,aD,aG,aA,ah,ai,aB,aC,aF,aH,aj,LS.at,LS.aT];rw[Int.add_zero,(F.log j c hc).1];refine .step (S 9 _ rfl) (.nQ (a:=6) (b:=1) (by decide) (by decide) (qH (eT (x:=c.1 - x) (by omega)))) ?_;dsimp only[ay,az,ax,au,ak,aD,aG,aA,ah,ai,aB,aC,aF,aH,aj,LS.at,LS.aT];by_cases e:c.1=x
   ·rw[e,Int.sub_self];refine .step (S 10 _ rfl) (.zero (a:=6) (by decide) (rfl)) ?_;dsimp only[ay,az,ax,au,ak,aD,aG,aA,ah,ai,aB,aC,aF,aH,aj,LS.at,LS.aT];exact(hf j c _ _ hc e).le (by omega)
   ·refine .step (S 10 _ rfl) (.more (a:=6) (by decide) ((show c.1 - x≠0 by omega))) ?_;dsimp only[ay,az,ax,au,ak,aD,aG,aA,ah,ai,aB,aC,aF,aH,aj,LS.at,LS.aT];refine .step (S 11 _ rfl) (.jump) ?_;dsimp only[ay,az,ax,au,ak,aD,aG,aA,ah,ai,aB,aC,aF,aH,aj,LS.at,LS.aT];exact ih _ _ _ (by omega) (fun i d hi hd=>by
     rcases Nat.lt_or_ge j i with q|q
     ·exact hn i d q hd
     ·obtain rfl:i=j:=by omega
      rw[hc] at hd;cases hd;exact e)
 show dX code lo hi Q (K+2+11*log.length) _;refine dX.le (k:=K+1+11*log.length+1) ?_ (by omega);refine .step (S 0 _ rfl) (.load (a:=3) (b:=7) (by decide) (by decide) (L.b (by decide) (by decide)).1 (L.b (by decide) (by decide)).2.1 (L.b (by decide) (by decide)).2.2) ?_;dsimp only[ay,az,ax,au,ak,aD,aG,aA,ah,ai,aB,aC,aF,aH,aj,LS.at,LS.aT];rw[F.cnt];exact loop _ _ _ _ (aR _) (fun i c hi hc=>by have:=(bE.1 hc).1;omega)
def hdF (t:dw) (w:Int) (E M:Nat):List bM:=[⟨1,0,6,0,0,0⟩,⟨2,0,4,6,0,0⟩,⟨1,0,3,0,0,16⟩,⟨3,13,4,3,0,0⟩,⟨7,0,4,0,0,(E:Int)⟩,⟨4,0,4,7,0,t.base+w⟩,⟨3,10,4,6,0,0⟩,⟨1,0,3,0,0,1⟩,⟨3,6,4,3,0,0⟩,⟨7,0,4,0,0,(M:Int)⟩]
def tlF (u:Nat):List bM:=[⟨1,0,3,0,0,1⟩,⟨3,1,6,3,0,0⟩,⟨6,0,0,0,0,((u+1:Nat):Int)⟩]
theorem wM {u E M:Nat} {w:Int} (L:Lay t lo hi) (S:Seg code u (hdF t w E M)) (T:Seg code M (tlF u)) (h0:0<=w) (h1:w<=30) (hH:H<65536) (hpv:pv (t.base+w)=(H:Int)) {s:Nat} (hs:s<=16)
  (hn:∀s':Nat,s<=s'->s'<16->H.testBit s'=true->(∀k,s<=k->k<s'->H.testBit k=false)->dX code lo hi Q K ⟨u+10,r0,r1,r2,1,1,r5,(s':Int),0,pv⟩)
  (he:(∀k,s<=k->k<16->H.testBit k=false)->dX code lo hi Q K ⟨E,r0,r1,r2,16,0,r5,16,0,pv⟩):
  dX code lo hi Q (K+9+12*(16 - s)) ⟨u+1,r0,r1,r2,r3,r4,r5,(s:Int),0,pv⟩:=by
 obtain⟨d,hd⟩:∃d,d=16 - s:=⟨_,rfl⟩;rw[<-hd];induction d generalizing s r3 r4 with
 |zero=>
  obtain rfl:s=16:=by omega
  refine dX.le (k:=K+4) ?_ (by omega);refine .step (S 1 _ rfl) (.move (a:=4) (b:=6) (by decide) (by decide)) ?_;dsimp only[ay,az,ax,au,ak,aD,aG,aA,ah,ai,aB,aC,aF,aH,aj,LS.at,LS.aT];refine .step (S 2 _ rfl) (.set (a:=3) (by decide)) ?_;dsimp only[ay,az,ax,au,ak,aD,aG,aA,ah,ai,aB,aC,aF,aH,aj,LS.at,LS.aT];refine .step (S 3 _ rfl) (.nQ (a:=4) (b:=3) (by decide) (by decide) (BD ((by omega:¬((16:Nat):Int)<16)))) ?_;dsimp only[ay,az,ax,au,ak,aD,aG,aA,ah,ai,aB,aC,aF,aH,aj,LS.at,LS.aT];refine .step (S 4 _ rfl) (.zero (a:=4) (by decide) (rfl)) ?_;dsimp only[ay,az,ax,au,ak,aD,aG,aA,ah,ai,aB,aC,aF,aH,aj,LS.at,LS.aT];exact he (fun k h1 h2=>by omega)
 |succ d ih=>
  have lQ:s<16:=by omega
  refine dX.le (k:=K+9+12*d+12) ?_ (by omega);refine .step (S 1 _ rfl) (.move (a:=4) (b:=6) (by decide) (by decide)) ?_;dsimp only[ay,az,ax,au,ak,aD,aG,aA,ah,ai,aB,aC,aF,aH,aj,LS.at,LS.aT];refine .step (S 2 _ rfl) (.set (a:=3) (by decide)) ?_;dsimp only[ay,az,ax,au,ak,aD,aG,aA,ah,ai,aB,aC,aF,aH,aj,LS.at,LS.aT];refine .step (S 3 _ rfl) (.nQ (a:=4) (b:=3) (by decide) (by decide) (vo ((by omega:(s:Int)<16)))) ?_;dsimp only[ay,az,ax,au,ak,aD,aG,aA,ah,ai,aB,aC,aF,aH,aj,LS.at,LS.aT];refine .step (S 4 _ rfl) (.more (a:=4) (by decide) (Int.one_ne_zero)) ?_;dsimp only[ay,az,ax,au,ak,aD,aG,aA,ah,ai,aB,aC,aF,aH,aj,LS.at,LS.aT];refine .step (S 5 _ rfl) (.load (a:=4) (b:=7) (by decide) (by decide) (L.b h0 h1).1 (L.b h0 h1).2.1 (L.b h0 h1).2.2) ?_;dsimp only[ay,az,ax,au,ak,aD,aG,aA,ah,ai,aB,aC,aF,aH,aj,LS.at,LS.aT];rw[hpv];refine .step (S 6 _ rfl) (.nQ (a:=4) (b:=6) (by decide) (by decide) (JR (a:=(H:Int)) ⟨by omega,by omega⟩ lQ)) ?_;dsimp only[ay,az,ax,au,ak,aD,aG,aA,ah,ai,aB,aC,aF,aH,aj,LS.at,LS.aT];refine .step (S 7 _ rfl) (.set (a:=3) (by decide)) ?_;dsimp only[ay,az,ax,au,ak,aD,aG,aA,ah,ai,aB,aC,aF,aH,aj,LS.at,LS.aT];refine .step (S 8 _ rfl) (.nQ (a:=4) (b:=3) (by decide) (by decide) (wJ _)) ?_;dsimp only[ay,az,ax,au,ak,aD,aG,aA,ah,ai,aB,aC,aF,aH,aj,LS.at,LS.aT];rw[Rt];cases hb:H.testBit s with
  |true=>
   rw[if_pos rfl];refine .step (S 9 _ rfl) (.more (a:=4) (by decide) (Int.one_ne_zero)) ?_;dsimp only[ay,az,ax,au,ak,aD,aG,aA,ah,ai,aB,aC,aF,aH,aj,LS.at,LS.aT];exact(hn s (aR _) lQ hb (fun k h1 h2=>by omega)).le (by omega)
  |false=>
   rw[if_neg (by simp)];refine .step (S 9 _ rfl) (.zero (a:=4) (by decide) (rfl)) ?_;dsimp only[ay,az,ax,au,ak,aD,aG,aA,ah,ai,aB,aC,aF,aH,aj,LS.at,LS.aT];refine .step (T 0 _ rfl) (.set (a:=3) (by decide)) ?_;dsimp only[ay,az,ax,au,ak,aD,aG,aA,ah,ai,aB,aC,aF,aH,aj,LS.at,LS.aT];refine .step (T 1 _ rfl) (.nQ (a:=6) (b:=3) (by decide) (by decide) (dR (r9 (a:=s) (by omega)))) ?_;dsimp only[ay,az,ax,au,ak,aD,aG,aA,ah,ai,aB,aC,aF,aH,aj,LS.at,LS.aT];refine .step (T 2 _ rfl) (.jump) ?_;dsimp only[ay,az,ax,au,ak,aD,aG,aA,ah,ai,aB,aC,aF,aH,aj,LS.at,LS.aT];refine ih (by omega) (fun s' h1 h2 h3 h4=>hn s' (by omega) h2 h3 (fun k h5 h6=>?_)) (fun h=>he (fun k h5 h6=>?_)) (by omega)
   ·rcases Nat.lt_or_ge s k with q|q
    ·exact h4 k (by omega) h6
    ·obtain rfl:k=s:=by omega
     exact hb
   ·rcases Nat.lt_or_ge s k with q|q
    ·exact h k (by omega) h6
    ·obtain rfl:k=s:=by omega
     exact hb
end
section
structure Ctx (t:dw) (lo hi:Int) (rs:List (List Tx)):Prop where
 lay:Lay t lo hi
 wf:∀l∈rs,∀o∈l,1<=o.at_/\o.at_<=t.words
def wH (t:dw) (a:aO) (s:Nat) (pv:Int->Int):Prop:=∃H:Nat,Fr t a.bX a.reads a.log a.sum H pv/\H<65536/\∀k,s<=k->k<16->H.testBit k=a.held k
def Ol (t:dw) (a:aO) (pv:Int->Int):Prop:=∀k,a.held k=true->pv (t.base+8+k)=a.old k
def fU (t:dw) (l:List Tx) (p:Nat) (a:aO) (s:LS):Prop:=
 let q:=p+9+aS (l.take a.op)
 let c:=p+9+aS l
 let g:=aV a.x
 match a.pt with
 |.look=>∃r0 r1 r2 r3 r4 r5 r6 pv,s=⟨p+6,r0,r1,r2,r3,r4,r5,r6,0,pv⟩/\pv (t.base+1)=0/\pv (t.base+2)=0/\pv (t.base+3)=0/\pv (t.base+6)=0
 |.rd=>∃o r0 r3 r4 r5 r6 pv,l[a.op]? =some o/\o.kind=2/\s=⟨q+44,r0,a.x,a.v,r3,r4,r5,r6,0,pv⟩/\wH t a 0 pv
 |.Bz=>∃o r2 r3 r4 r6 pv,l[a.op]? =some o/\o.kind=2/\s=⟨q+19,(g:Int),a.x,r2,r3,r4,t.words+2+(g:Int),r6,0,pv⟩/\wH t a 0 pv
 |.dat=>∃o r2 r4 r6 pv,l[a.op]? =some o/\o.kind=2/\s=⟨q+32,(g:Int),a.x,r2,a.l1,r4,t.words+2+(g:Int),r6,0,pv⟩/\wH t a 0 pv
 |.ym=>∃o r4 r6 pv,l[a.op]? =some o/\o.kind=2/\s=⟨q+33,(g:Int),a.x,a.v,a.l1,r4,t.words+2+(g:Int),r6,0,pv⟩/\wH t a 0 pv
 |.wr=>∃o r0 r3 r4 r5 r6 pv,l[a.op]? =some o/\o.kind≠2/\s=⟨q+32,r0,a.x,a.v,r3,r4,r5,r6,0,pv⟩/\wH t {a with log:=kz a.log a.x a.v} 0 pv
 |.full=>∃o r0 r1 r2 r3 r4 r5 r6 pv,l[a.op]? =some o/\o.kind≠2/\s=⟨q+22,r0,r1,r2,r3,r4,r5,r6,0,pv⟩
 |.ro=>∃r0 r2 r3 r4 r5 r6 pv,s=⟨c+158,r0,a.bX,r2,r3,r4,r5,r6,0,pv⟩/\wH t a 0 pv
 |.Eg=>∃r0 r1 r2 r3 r4 pv,s=⟨c+31,r0,r1,r2,r3,r4,t.words+2+(a.s:Int),(a.s:Int),0,pv⟩/\wH t a 0 pv/\Ol t a pv/\pv (t.base+7)=(needs a.log:Int)
 |.zw=>∃r0 r1 pv,s=⟨c+39,r0,r1,2*t.th+1,a.l1,a.l1,t.words+2+(a.s:Int),(a.s:Int),0,pv⟩/\wH t a 0 pv/\Ol t a pv/\pv (t.base+7)=(needs a.log:Int)
 |.qG=>∃r0 r2 r3 r4 r5 r6 pv,s=⟨c+56,r0,1,r2,r3,r4,r5,r6,0,pv⟩/\wH t a 0 pv/\Ol t a pv
 |.Bc=>∃r0 r1 r2 r3 r4 pv,s=⟨c+79,r0,r1,r2,r3,r4,t.words+2+(a.s:Int),(a.s:Int),0,pv⟩/\wH t a 0 pv/\Ol t a pv/\pv (t.base+7)=a.new
 |.BM=>∃r0 r3 r4 r5 r6 pv,s=⟨c+103,r0,a.new,1,r3,r4,r5,r6,0,pv⟩/\wH t a 0 pv/\pv (t.base+7)=a.new
 |.wb=>∃e r0 r1 r4 pv,a.log[a.i]? =some e/\s=⟨c+109,r0,r1,e.1,e.2,r4,t.log+2*(a.i:Int),((a.log.length - a.i:Nat):Int),0,pv⟩/\wH t a 0 pv/\pv (t.base+7)=a.new
 |.rel=>∃r0 r2 r3 r4 pv,s=⟨c+130,r0,2*a.new,r2,r3,r4,t.words+2+(a.s:Int),(a.s:Int),0,pv⟩/\wH t a a.s pv
 |.DK=>∃r0 r1 r3 r4 pv,s=⟨c+152,r0,r1,a.old a.s,r3,r4,t.words+2+(a.s:Int),(a.s:Int),0,pv⟩/\wH t a a.s pv/\Ol t a pv
 |.u6=>∃r0 r1 r2 r3 r4 r5 r6 pv,s=⟨p+181+aS l,r0,r1,r2,r3,r4,r5,r6,0,pv⟩
 |.out=>∃r0 r2 r3 r4 r5 r6 pv,s=⟨c+170,r0,a.sum,r2,r3,r4,r5,r6,0,pv⟩
 |.halt=>False
 |.over=>False
def vU (t:dw) (rs:List (List Tx)) (a:aO) (s:LS):Prop:=
 (a.pt= .halt/\∃r0 r1 r2 r3 r4 r5 r6 pv,s=⟨b_ rs rs.length,r0,r1,r2,r3,r4,r5,r6,0,pv⟩)\/a.pt= .over\/∃l,rs[a.row]? =some l/\fU t l (b_ rs a.row) a s
variable {t:dw} {lo hi words C:Int} {rs:List (List Tx)} {l:List Tx} {a:aO} {pv:Int->Int} {r0 r1 r2 r3 r4 r5 r6:Int} {s H:Nat}
theorem WB (x:Int):x%16=((aV x:Nat):Int):=by unfold aV;omega
theorem Nv (x:Int):gL 6 x 15=some ((aV x:Nat):Int):=by rw[Kt,WB]
theorem MV {m k:Nat} (hm:m<65536) (hk:k<65536) (h:∀i,i<16->m.testBit i=k.testBit i):m=k:=by
 refine Nat.eq_of_testBit_eq fun i=>?_
 rcases Nat.lt_or_ge i 16 with q|q
 ·exact h i q
 ·have e:2 ^ 16<=2 ^ i:=Nat.pow_le_pow_right (by decide) q;rw[Nat.testBit_lt_two_pow (Nat.lt_of_lt_of_le hm e),Nat.testBit_lt_two_pow (Nat.lt_of_lt_of_le hk e)]
theorem Il (l:List (Int×Int)):needs l<65536:=by
 have:∀(l:List (Int×Int)) (m:Nat),m<65536->l.foldl (fun m c=>m|||1<<<aV c.1) m<65536:=by
  intro l;induction l with
  |nil=>intro m h;exact h
  |cons c l ih=>intro m h;exact ih _ (Rb h (bO _))
 exact this l 0 (by decide)
theorem Mt {log:List (Int×Int)} {i:Nat} {e:Int×Int} (h:log[i]? =some e):needs (log.take (i+1))=needs (log.take i)|||2 ^ aV e.1:=by
 rw[List.take_add_one,h];unfold needs;rw[List.foldl_append];simp[Nat.one_shiftLeft]
theorem Yc (R:rO (bI t rs) t (b_ rs a.row) l):Seg (bI t rs) (b_ rs a.row+9+aS l+18) (hdF t 7 (b_ rs a.row+9+aS l+55) (b_ rs a.row+9+aS l+52)):=R.aL.part 18 10
theorem YQ (R:rO (bI t rs) t (b_ rs a.row) l):Seg (bI t rs) (b_ rs a.row+9+aS l+52) (tlF (b_ rs a.row+9+aS l+18)):=R.aL.part 52 3
theorem Yl (R:rO (bI t rs) t (b_ rs a.row) l):Seg (bI t rs) (b_ rs a.row+9+aS l+66) (hdF t 1 (b_ rs a.row+9+aS l+101) (b_ rs a.row+9+aS l+98)):=R.aL.part 66 10
theorem Yh (R:rO (bI t rs) t (b_ rs a.row) l):Seg (bI t rs) (b_ rs a.row+9+aS l+98) (tlF (b_ rs a.row+9+aS l+66)):=R.aL.part 98 3
theorem Y2 (R:rO (bI t rs) t (b_ rs a.row) l):Seg (bI t rs) (b_ rs a.row+9+aS l+117) (hdF t 6 (b_ rs a.row+9+aS l+134) (b_ rs a.row+9+aS l+131)):=R.aL.part 117 10
theorem XM (R:rO (bI t rs) t (b_ rs a.row) l):Seg (bI t rs) (b_ rs a.row+9+aS l+131) (tlF (b_ rs a.row+9+aS l+117)):=R.aL.part 131 3
theorem Yd (R:rO (bI t rs) t (b_ rs a.row) l):Seg (bI t rs) (b_ rs a.row+9+aS l+135) (hdF t 6 (b_ rs a.row+9+aS l+156) (b_ rs a.row+9+aS l+153)):=R.aL.part 135 10
theorem YU (R:rO (bI t rs) t (b_ rs a.row) l):Seg (bI t rs) (b_ rs a.row+9+aS l+153) (tlF (b_ rs a.row+9+aS l+135)):=R.aL.part 153 3
theorem Em (X:Ctx t lo hi rs) (hl:rs[a.row]? =some l) (F:wH t a 0 pv) (O:Ol t a pv) (hn:pv (t.base+7)=(needs a.log:Int)) (hs:s<=16):
  dX (bI t rs) lo hi (vU t rs (a.cu s)) 210 ⟨b_ rs a.row+9+aS l+19,r0,r1,r2,r3,r4,r5,(s:Int),0,pv⟩:=by
 have L:=X.lay;have R:=bK t rs hl;refine(wM (K:=4) L (Yc R) (YQ R) (by decide) (by decide) (Il a.log) hn hs (fun s' h1 h2 h3 h4=>?_) (fun h=>?_)).le (by omega)
 ·have e:a.cu s={a with pt:=.Eg,s:=s'}:=by
   unfold aO.cu;rw[zy h1 h2 h3 h4]
  rw[e];refine .step (R.aL 28 _ rfl) (.move (a:=5) (b:=6) (by decide) (by decide)) ?_;dsimp only[ay,az,ax,au,ak,aD,aG,aA,ah,ai,aB,aC,aF,aH,aj,LS.at,LS.aT];refine .step (R.aL 29 _ rfl) (.set (a:=4) (by decide)) ?_;dsimp only[ay,az,ax,au,ak,aD,aG,aA,ah,ai,aB,aC,aF,aH,aj,LS.at,LS.aT];refine .step (R.aL 30 _ rfl) (.nQ (a:=5) (b:=4) (by decide) (by decide) (dR (L.k5 h2))) ?_;dsimp only[ay,az,ax,au,ak,aD,aG,aA,ah,ai,aB,aC,aF,aH,aj,LS.at,LS.aT];exact .here (.inr (.inr ⟨l,hl,_,_,_,_,_,_,rfl,F,O,hn⟩))
 ·have e:a.cu s={a with pt:=.qG}:=by
   unfold aO.cu;rw[yV h]
  rw[e];refine .step (R.aL 55 _ rfl) (.set (a:=1) (by decide)) ?_;dsimp only[ay,az,ax,au,ak,aD,aG,aA,ah,ai,aB,aC,aF,aH,aj,LS.at,LS.aT];exact .here (.inr (.inr ⟨l,hl,_,_,_,_,_,_,_,rfl,F,O⟩))
theorem Js (X:Ctx t lo hi rs) (hl:rs[a.row]? =some l) (hrd:a.reads<65536) (F:wH t a 0 pv) (O:Ol t a pv) (hn:pv (t.base+7)=a.new) (hs:s<=16):
  dX (bI t rs) lo hi (vU t rs (a.cz s)) 210 ⟨b_ rs a.row+9+aS l+67,r0,r1,r2,r3,r4,r5,(s:Int),0,pv⟩:=by
 have L:=X.lay;have R:=bK t rs hl;obtain⟨H,F1,hH,hb⟩:=id F;refine(wM (K:=4) L (Yl R) (Yh R) (by decide) (by decide) hrd F1.reads hs (fun s' h1 h2 h3 h4=>?_) (fun h=>?_)).le (by omega)
 ·have e:a.cz s={a with pt:=.Bc,s:=s'}:=by
   unfold aO.cz;rw[zy h1 h2 h3 h4]
  rw[e];refine .step (R.aL 76 _ rfl) (.move (a:=5) (b:=6) (by decide) (by decide)) ?_;dsimp only[ay,az,ax,au,ak,aD,aG,aA,ah,ai,aB,aC,aF,aH,aj,LS.at,LS.aT];refine .step (R.aL 77 _ rfl) (.set (a:=4) (by decide)) ?_;dsimp only[ay,az,ax,au,ak,aD,aG,aA,ah,ai,aB,aC,aF,aH,aj,LS.at,LS.aT];refine .step (R.aL 78 _ rfl) (.nQ (a:=5) (b:=4) (by decide) (by decide) (dR (L.k5 h2))) ?_;dsimp only[ay,az,ax,au,ak,aD,aG,aA,ah,ai,aB,aC,aF,aH,aj,LS.at,LS.aT];exact .here (.inr (.inr ⟨l,hl,_,_,_,_,_,_,rfl,F,O,hn⟩))
 ·have e:a.cz s={a with pt:=.BM}:=by
   unfold aO.cz;rw[yV h]
  rw[e];refine .step (R.aL 101 _ rfl) (.load (a:=1) (b:=7) (by decide) (by decide) (L.b (by decide) (by decide)).1 (L.b (by decide) (by decide)).2.1 (L.b (by decide) (by decide)).2.2) ?_;dsimp only[ay,az,ax,au,ak,aD,aG,aA,ah,ai,aB,aC,aF,aH,aj,LS.at,LS.aT];rw[hn];refine .step (R.aL 102 _ rfl) (.set (a:=2) (by decide)) ?_;dsimp only[ay,az,ax,au,ak,aD,aG,aA,ah,ai,aB,aC,aF,aH,aj,LS.at,LS.aT];exact .here (.inr (.inr ⟨l,hl,_,_,_,_,_,_,rfl,F,hn⟩))
theorem Ez (X:Ctx t lo hi rs) (hl:rs[a.row]? =some l) (hp:pv (t.base+3)=0) (hs:pv t.sum=a.sum):
  dX (bI t rs) lo hi (vU t rs {a with pt:=.out}) 4 ⟨b_ rs a.row+9+aS l+159,r0,r1,r2,r3,r4,r5,r6,0,pv⟩:=by
 have L:=X.lay;have R:=bK t rs hl;refine .step (R.aL 159 _ rfl) (.set (a:=1) (by decide)) ?_;dsimp only[ay,az,ax,au,ak,aD,aG,aA,ah,ai,aB,aC,aF,aH,aj,LS.at,LS.aT];refine .step (R.aL 160 _ rfl) (.load (a:=2) (b:=7) (by decide) (by decide) (L.b (by decide) (by decide)).1 (L.b (by decide) (by decide)).2.1 (L.b (by decide) (by decide)).2.2) ?_;dsimp only[ay,az,ax,au,ak,aD,aG,aA,ah,ai,aB,aC,aF,aH,aj,LS.at,LS.aT];rw[hp];refine .step (R.aL 161 _ rfl) (.zero (a:=2) (by decide) (rfl)) ?_;dsimp only[ay,az,ax,au,ak,aD,aG,aA,ah,ai,aB,aC,aF,aH,aj,LS.at,LS.aT];rw[show b_ rs a.row+9+aS l+169=b_ rs a.row+178+aS l by omega];refine .step (R.tail 0 _ rfl) (.load (a:=1) (b:=7) (by decide) (by decide) (L.s).1 (L.s).2.1 (L.s).2.2) ?_;dsimp only[ay,az,ax,au,ak,aD,aG,aA,ah,ai,aB,aC,aF,aH,aj,LS.at,LS.aT];rw[hs,show b_ rs a.row+178+aS l+1=b_ rs a.row+9+aS l+170 by omega];exact .here (.inr (.inr ⟨l,hl,_,_,_,_,_,_,_,rfl⟩))
theorem JN (X:Ctx t lo hi rs) (hl:rs[a.row]? =some l) (F:wH t a s pv) (hs:s<=16):
  dX (bI t rs) lo hi (vU t rs (a.dV s)) 210 ⟨b_ rs a.row+9+aS l+118,r0,2*a.new,r2,r3,r4,r5,(s:Int),0,pv⟩:=by
 have L:=X.lay;have R:=bK t rs hl;obtain⟨H,F1,hH,hb⟩:=id F;refine(wM (K:=5) L (Y2 R) (XM R) (by decide) (by decide) hH F1.held hs (fun s' h1 h2 h3 h4=>?_) (fun h=>?_)).le (by omega)
 ·have e:a.dV s={a with pt:=.rel,s:=s'}:=by
   unfold aO.dV;rw[zy h1 h2 (by rw[<-hb s' h1 h2];exact h3) (fun k h5 h6=>by rw[<-hb k h5 (by omega)];exact h4 k h5 h6)]
  rw[e];refine .step (R.aL 127 _ rfl) (.move (a:=5) (b:=6) (by decide) (by decide)) ?_;dsimp only[ay,az,ax,au,ak,aD,aG,aA,ah,ai,aB,aC,aF,aH,aj,LS.at,LS.aT];refine .step (R.aL 128 _ rfl) (.set (a:=4) (by decide)) ?_;dsimp only[ay,az,ax,au,ak,aD,aG,aA,ah,ai,aB,aC,aF,aH,aj,LS.at,LS.aT];refine .step (R.aL 129 _ rfl) (.nQ (a:=5) (b:=4) (by decide) (by decide) (dR (L.k5 h2))) ?_;dsimp only[ay,az,ax,au,ak,aD,aG,aA,ah,ai,aB,aC,aF,aH,aj,LS.at,LS.aT];exact .here (.inr (.inr ⟨l,hl,_,_,_,_,_,rfl,H,F1,hH,fun k h5 h6=>hb k (Nat.le_trans h1 h5) h6⟩))
 ·have e:a.dV s={a with pt:=.out}:=by
   unfold aO.dV;rw[yV (fun k h5 h6=>by rw[<-hb k h5 h6];exact h k h5 h6)]
  rw[e];refine .step (R.aL 134 _ rfl) (.jump) ?_;dsimp only[ay,az,ax,au,ak,aD,aG,aA,ah,ai,aB,aC,aF,aH,aj,LS.at,LS.aT];exact Ez X hl F1.prints F1.sum
theorem Hw (X:Ctx t lo hi rs) (hl:rs[a.row]? =some l) (F:wH t a s pv) (O:Ol t a pv) (hs:s<=16):
  dX (bI t rs) lo hi (vU t rs (a.bJ s)) 210 ⟨b_ rs a.row+9+aS l+136,r0,r1,r2,r3,r4,r5,(s:Int),0,pv⟩:=by
 have L:=X.lay;have R:=bK t rs hl;obtain⟨H,F1,hH,hb⟩:=id F;refine(wM (K:=7) L (Yd R) (YU R) (by decide) (by decide) hH F1.held hs (fun s' h1 h2 h3 h4=>?_) (fun h=>?_)).le (by omega)
 ·have hh:a.held s'=true:=by rw[<-hb s' h1 h2];exact h3
  have e:a.bJ s={a with pt:=.DK,s:=s'}:=by
   unfold aO.bJ;rw[zy h1 h2 hh (fun k h5 h6=>by rw[<-hb k h5 (by omega)];exact h4 k h5 h6)]
  rw[e];refine .step (R.aL 145 _ rfl) (.move (a:=5) (b:=6) (by decide) (by decide)) ?_;dsimp only[ay,az,ax,au,ak,aD,aG,aA,ah,ai,aB,aC,aF,aH,aj,LS.at,LS.aT];refine .step (R.aL 146 _ rfl) (.set (a:=4) (by decide)) ?_;dsimp only[ay,az,ax,au,ak,aD,aG,aA,ah,ai,aB,aC,aF,aH,aj,LS.at,LS.aT];refine .step (R.aL 147 _ rfl) (.nQ (a:=5) (b:=4) (by decide) (by decide) (dR (L.o5 h2))) ?_;dsimp only[ay,az,ax,au,ak,aD,aG,aA,ah,ai,aB,aC,aF,aH,aj,LS.at,LS.aT];refine .step (R.aL 148 _ rfl) (.load (a:=2) (b:=5) (by decide) (by decide) (L.o h2).1 (L.o h2).2.1 (L.o h2).2.2) ?_;dsimp only[ay,az,ax,au,ak,aD,aG,aA,ah,ai,aB,aC,aF,aH,aj,LS.at,LS.aT];rw[O s' hh];refine .step (R.aL 149 _ rfl) (.move (a:=5) (b:=6) (by decide) (by decide)) ?_;dsimp only[ay,az,ax,au,ak,aD,aG,aA,ah,ai,aB,aC,aF,aH,aj,LS.at,LS.aT];refine .step (R.aL 150 _ rfl) (.set (a:=4) (by decide)) ?_;dsimp only[ay,az,ax,au,ak,aD,aG,aA,ah,ai,aB,aC,aF,aH,aj,LS.at,LS.aT];refine .step (R.aL 151 _ rfl) (.nQ (a:=5) (b:=4) (by decide) (by decide) (dR (L.k5 h2))) ?_;dsimp only[ay,az,ax,au,ak,aD,aG,aA,ah,ai,aB,aC,aF,aH,aj,LS.at,LS.aT];exact .here (.inr (.inr ⟨l,hl,_,_,_,_,_,rfl,⟨H,F1,hH,fun k h5 h6=>hb k (Nat.le_trans h1 h5) h6⟩,O⟩))
 ·have e:a.bJ s={a with pt:=.u6}:=by
   unfold aO.bJ;rw[yV (fun k h5 h6=>by rw[<-hb k h5 h6];exact h k h5 h6)]
  rw[e];refine .step (R.aL 156 _ rfl) (.jump) ?_;dsimp only[ay,az,ax,au,ak,aD,aG,aA,ah,ai,aB,aC,aF,aH,aj,LS.at,LS.aT];exact .here (.inr (.inr ⟨l,hl,_,_,_,_,_,_,_,_,rfl⟩))
theorem wG (X:Ctx t lo hi rs) (hl:rs[a.row]? =some l) (F:wH t a 0 pv) (O:Ol t a pv):
  dX (bI t rs) lo hi (vU t rs (a.bJ 0)) 211 ⟨b_ rs a.row+9+aS l+135,r0,r1,r2,r3,r4,r5,r6,0,pv⟩:=by
 have R:=bK t rs hl;refine .step (R.aL 135 _ rfl) (.set (a:=6) (by decide)) ?_;dsimp only[ay,az,ax,au,ak,aD,aG,aA,ah,ai,aB,aC,aF,aH,aj,LS.at,LS.aT];exact Hw (s:=0) X hl F O (by decide)
theorem MW {i:Nat} (X:Ctx t lo hi rs) (hl:rs[a.row]? =some l) (hlen:a.log.length<=64) (F:wH t a 0 pv) (hn:pv (t.base+7)=a.new) (hnew:0<=a.new/\a.new<=2305843009213693952) (hil:i<=a.log.length):
  dX (bI t rs) lo hi (vU t rs (a.iB i)) 214 ⟨b_ rs a.row+9+aS l+106,r0,r1,r2,r3,r4,t.log+2*(i:Int),((a.log.length - i:Nat):Int),0,pv⟩:=by
 have L:=X.lay;have R:=bK t rs hl;obtain⟨H,F1,hH,hb⟩:=id F;unfold aO.iB;by_cases h:i<a.log.length
 ·rw[if_pos h];have hc:=dZ h;generalize a.log[i]=e at hc;obtain⟨f1,f2⟩:=F1.log i e hc;refine .step (R.aL 106 _ rfl) (.more (a:=6) (by decide) ((show((a.log.length - i:Nat):Int)≠0 by omega))) ?_;dsimp only[ay,az,ax,au,ak,aD,aG,aA,ah,ai,aB,aC,aF,aH,aj,LS.at,LS.aT];refine .step (R.aL 107 _ rfl) (.load (a:=2) (b:=5) (by decide) (by decide) (L.e (i:=i) (by omega) (by decide) (by decide)).1 (L.e (i:=i) (by omega) (by decide) (by decide)).2.1 (L.e (i:=i) (by omega) (by decide) (by decide)).2.2) ?_;dsimp only[ay,az,ax,au,ak,aD,aG,aA,ah,ai,aB,aC,aF,aH,aj,LS.at,LS.aT];rw[Int.add_zero,f1];refine .step (R.aL 108 _ rfl) (.load (a:=3) (b:=5) (by decide) (by decide) (L.e (i:=i) (by omega) (by decide) (by decide)).1 (L.e (i:=i) (by omega) (by decide) (by decide)).2.1 (L.e (i:=i) (by omega) (by decide) (by decide)).2.2) ?_;dsimp only[ay,az,ax,au,ak,aD,aG,aA,ah,ai,aB,aC,aF,aH,aj,LS.at,LS.aT];rw[f2];exact .here (.inr (.inr ⟨l,hl,e,_,_,_,_,hc,rfl,F,hn⟩))
 ·rw[if_neg h];obtain rfl:i=a.log.length:=by omega
  rw[Nat.sub_self];refine .step (R.aL 106 _ rfl) (.zero (a:=6) (by decide) (rfl)) ?_;dsimp only[ay,az,ax,au,ak,aD,aG,aA,ah,ai,aB,aC,aF,aH,aj,LS.at,LS.aT];refine .step (R.aL 115 _ rfl) (.load (a:=1) (b:=7) (by decide) (by decide) (L.b (by decide) (by decide)).1 (L.b (by decide) (by decide)).2.1 (L.b (by decide) (by decide)).2.2) ?_;dsimp only[ay,az,ax,au,ak,aD,aG,aA,ah,ai,aB,aC,aF,aH,aj,LS.at,LS.aT];rw[hn];refine .step (R.aL 116 _ rfl) (.nQ (a:=1) (b:=1) (by decide) (by decide) (dR ((by rw[eT (by omega)];omega:fq (a.new+a.new)=2*a.new)))) ?_;dsimp only[ay,az,ax,au,ak,aD,aG,aA,ah,ai,aB,aC,aF,aH,aj,LS.at,LS.aT];refine .step (R.aL 117 _ rfl) (.set (a:=6) (by decide)) ?_;dsimp only[ay,az,ax,au,ak,aD,aG,aA,ah,ai,aB,aC,aF,aH,aj,LS.at,LS.aT];exact JN (s:=0) X hl F (by decide)
theorem JL (X:Ctx t lo hi rs) (hl:rs[a.row]? =some l):dX (bI t rs) lo hi (vU t rs {a with pt:=.look}) 6 ⟨b_ rs a.row,r0,r1,r2,r3,r4,r5,r6,0,pv⟩:=by
 have L:=X.lay;have R:=bK t rs hl;refine .step (R.begin 0 _ rfl) (.load (a:=1) (b:=7) (by decide) (by decide) (L.b (by decide) (by decide)).1 (L.b (by decide) (by decide)).2.1 (L.b (by decide) (by decide)).2.2) ?_;dsimp only[ay,az,ax,au,ak,aD,aG,aA,ah,ai,aB,aC,aF,aH,aj,LS.at,LS.aT];refine .step (R.begin 1 _ rfl) (.store (a:=7) (b:=1) (by decide) (by decide) (L.b (by decide) (by decide)).1 (L.b (by decide) (by decide)).2.1 (L.b (by decide) (by decide)).2.2) ?_;dsimp only[ay,az,ax,au,ak,aD,aG,aA,ah,ai,aB,aC,aF,aH,aj,LS.at,LS.aT];refine .step (R.begin 2 _ rfl) (.store (a:=7) (b:=7) (by decide) (by decide) (L.b (by decide) (by decide)).1 (L.b (by decide) (by decide)).2.1 (L.b (by decide) (by decide)).2.2) ?_;dsimp only[ay,az,ax,au,ak,aD,aG,aA,ah,ai,aB,aC,aF,aH,aj,LS.at,LS.aT];refine .step (R.begin 3 _ rfl) (.store (a:=7) (b:=7) (by decide) (by decide) (L.b (by decide) (by decide)).1 (L.b (by decide) (by decide)).2.1 (L.b (by decide) (by decide)).2.2) ?_;dsimp only[ay,az,ax,au,ak,aD,aG,aA,ah,ai,aB,aC,aF,aH,aj,LS.at,LS.aT];refine .step (R.begin 4 _ rfl) (.store (a:=7) (b:=7) (by decide) (by decide) (L.b (by decide) (by decide)).1 (L.b (by decide) (by decide)).2.1 (L.b (by decide) (by decide)).2.2) ?_;dsimp only[ay,az,ax,au,ak,aD,aG,aA,ah,ai,aB,aC,aF,aH,aj,LS.at,LS.aT];refine .step (R.begin 5 _ rfl) (.store (a:=7) (b:=7) (by decide) (by decide) (L.b (by decide) (by decide)).1 (L.b (by decide) (by decide)).2.1 (L.b (by decide) (by decide)).2.2) ?_;dsimp only[ay,az,ax,au,ak,aD,aG,aA,ah,ai,aB,aC,aF,aH,aj,LS.at,LS.aT];refine .here (.inr (.inr ⟨l,hl,_,_,_,_,_,_,_,_,rfl,?_,?_,?_,?_⟩))
 ·rw[aW _ (by omega),aW _ (by omega),aW _ (by omega),gu]
 ·rw[aW _ (by omega),aW _ (by omega),gu]
 ·rw[aW _ (by omega),gu]
 ·rw[gu]
theorem E8 (X:Ctx t lo hi rs) (hr:a.row<=rs.length):dX (bI t rs) lo hi (vU t rs (a.fu rs)) 6 ⟨b_ rs a.row,r0,r1,r2,r3,r4,r5,r6,0,pv⟩:=by
 unfold aO.fu;by_cases h:a.row<rs.length
 ·rw[if_pos h];exact JL X (dZ h)
 ·rw[if_neg h];have e:a.row=rs.length:=by omega
  rw[e];exact .here (.inl ⟨rfl,_,_,_,_,_,_,_,_,rfl⟩)
theorem MI (X:Ctx t lo hi rs):dX (bI t rs) lo hi (vU t rs (aO.begin rs)) 8 ⟨0,r0,r1,r2,r3,r4,r5,r6,0,pv⟩:=by
 have L:=X.lay;have S:=Kv t rs;refine .step (S 0 _ rfl) (.set (a:=0) (by decide)) ?_;dsimp only[ay];refine .step (S 1 _ rfl) (.store (a:=7) (b:=0) (by decide) (by decide) (L.b (by decide) (by decide)).1 (L.b (by decide) (by decide)).2.1 (L.b (by decide) (by decide)).2.2) ?_;dsimp only[aA,aj,LS.aT];exact E8 (a:=aO.none) X (Nat.zero_le _)
end
section
variable {t:dw} {lo hi words C:Int} {rs:List (List Tx)} {l:List Tx} {a:aO} {pv:Int->Int} {r0 r1 r2 r3 r4 r5 r6:Int} {s H:Nat} {o:Tx}
theorem Ay {l:List Tx} {k:Nat} (h:l[k]? =some o):aS (l.take (k+1))=aS (l.take k)+nR o:=by
 rw[List.take_add_one,h];unfold aS;simp
theorem aae {l:List Tx} {k:Nat} (h:l[k]? =some o) (hk:o.kind=2) (p:Nat):p+9+aS (l.take (k+1))=p+9+aS (l.take k)+48:=by
 rw[Ay h];unfold nR;rw[if_pos hk];omega
theorem aaG {l:List Tx} {k:Nat} (h:l[k]? =some o) (hk:o.kind≠2) (p:Nat):p+9+aS (l.take (k+1))=p+9+aS (l.take k)+33:=by
 rw[Ay h];unfold nR;rw[if_neg hk];omega
theorem Pp {α:Type} {l:List α} (h:l.Nodup) {i j:Nat} {a:α} (hi:l[i]? =some a) (hj:l[j]? =some a):i=j:=by
 have h1:=List.pairwise_iff_getElem.1 h;obtain⟨li,hi⟩:=bE.1 hi;obtain⟨lj,hj⟩:=bE.1 hj;rcases Nat.lt_trichotomy i j with e|e|e
 ·exact absurd (hi.trans hj.symm) (h1 i j li lj e)
 ·exact e
 ·exact absurd (hj.trans hi.symm) (h1 j i lj li e)
theorem NC {log:List (Int×Int)} (h:(log.map Prod.fst).Nodup) {i:Nat} {c:Int×Int} (hc:log[i]? =some c):place log c.1=i:=by
 obtain⟨d,hd,hdc⟩:=EM (bA hc);have h1:(log.map Prod.fst)[place log c.1]? =some c.1:=by rw[List.getElem?_map,hd];simp[hdc]
 have h2:(log.map Prod.fst)[i]? =some c.1:=by rw[List.getElem?_map,hc];rfl
 exact Pp h h1 h2
theorem MH (X:Ctx t lo hi rs) (hl:rs[a.row]? =some l) (B:tQ words C a) (hh:∀k,a.held k=false) (hne:a.log≠[]) (F:Fr t a.bX a.reads a.log a.sum 0 pv) (i:Nat) (hil:i<=a.log.length) (r3 r4:Int):
  dX (bI t rs) lo hi (vU t rs (a.cu 0)) (213+12*(a.log.length - i)) ⟨b_ rs a.row+9+aS l+5,r0,r1,(needs (a.log.take i):Int),r3,r4,t.log+2*(i:Int),((a.log.length - i:Nat):Int),0,pv⟩:=by
 have L:=X.lay;have R:=bK t rs hl;have hlen:=B.len;obtain⟨d,hd⟩:∃d,d=a.log.length - i:=⟨_,rfl⟩;rw[<-hd];induction d generalizing i r3 r4 with
 |zero=>
  obtain rfl:i=a.log.length:=by omega
  rw[Nat.mul_zero,Nat.add_zero,List.take_length];refine dX.le (k:=210+3) ?_ (by omega);refine .step (R.aL 5 _ rfl) (.zero (a:=6) (by decide) (rfl)) ?_;dsimp only[ay,az,ax,au,ak,aD,aG,aA,ah,ai,aB,aC,aF,aH,aj,LS.at,LS.aT];refine .step (R.aL 17 _ rfl) (.store (a:=7) (b:=2) (by decide) (by decide) (L.b (by decide) (by decide)).1 (L.b (by decide) (by decide)).2.1 (L.b (by decide) (by decide)).2.2) ?_;dsimp only[ay,az,ax,au,ak,aD,aG,aA,ah,ai,aB,aC,aF,aH,aj,LS.at,LS.aT];refine .step (R.aL 18 _ rfl) (.set (a:=6) (by decide)) ?_;dsimp only[ay,az,ax,au,ak,aD,aG,aA,ah,ai,aB,aC,aF,aH,aj,LS.at,LS.aT];refine Em (s:=0) X hl ⟨0,F.other L hlen (.inr (.inr ⟨by have:=L.base;omega,by have:=L.base;have:=L.log;omega⟩)),by decide,fun k _ _=>by rw[hh k];simp⟩ (fun k hk=>by rw[hh k] at hk;cases hk) (gu _ _ _) (by decide)
 |succ d ih=>
  have hlt:i<a.log.length:=by omega
  have hc:=dZ hlt;generalize a.log[i]=e at hc;obtain⟨f1,f2⟩:=F.log i e hc;have hs:=bO e.1;refine dX.le (k:=213+12*d+12) ?_ (by omega);refine .step (R.aL 5 _ rfl) (.more (a:=6) (by decide) ((show((d+1:Nat):Int)≠0 by omega))) ?_;dsimp only[ay,az,ax,au,ak,aD,aG,aA,ah,ai,aB,aC,aF,aH,aj,LS.at,LS.aT];refine .step (R.aL 6 _ rfl) (.load (a:=3) (b:=5) (by decide) (by decide) (L.e (i:=i) (by omega) (by decide) (by decide)).1 (L.e (i:=i) (by omega) (by decide) (by decide)).2.1 (L.e (i:=i) (by omega) (by decide) (by decide)).2.2) ?_;dsimp only[ay,az,ax,au,ak,aD,aG,aA,ah,ai,aB,aC,aF,aH,aj,LS.at,LS.aT];rw[Int.add_zero,f1];refine .step (R.aL 7 _ rfl) (.set (a:=4) (by decide)) ?_;dsimp only[ay,az,ax,au,ak,aD,aG,aA,ah,ai,aB,aC,aF,aH,aj,LS.at,LS.aT];refine .step (R.aL 8 _ rfl) (.nQ (a:=3) (b:=4) (by decide) (by decide) (Nv e.1)) ?_;dsimp only[ay,az,ax,au,ak,aD,aG,aA,ah,ai,aB,aC,aF,aH,aj,LS.at,LS.aT];refine .step (R.aL 9 _ rfl) (.set (a:=4) (by decide)) ?_;dsimp only[ay,az,ax,au,ak,aD,aG,aA,ah,ai,aB,aC,aF,aH,aj,LS.at,LS.aT];refine .step (R.aL 10 _ rfl) (.nQ (a:=4) (b:=3) (by decide) (by decide) (Dm hs)) ?_;dsimp only[ay,az,ax,au,ak,aD,aG,aA,ah,ai,aB,aC,aF,aH,aj,LS.at,LS.aT];refine .step (R.aL 11 _ rfl) (.nQ (a:=2) (b:=4) (by decide) (by decide) (Gz (Il (a.log.take i)) (sw hs))) ?_;dsimp only[ay,az,ax,au,ak,aD,aG,aA,ah,ai,aB,aC,aF,aH,aj,LS.at,LS.aT];rw[<-Mt hc];have hw:fq (t.log+2*(i:Int)+2)=t.log+2*((i+1:Nat):Int):=by
   obtain⟨l1,l2,l3,l4,l5,l6,l7,l8⟩:=L;rw[eT (by omega)];omega
  refine .step (R.aL 12 _ rfl) (.set (a:=4) (by decide)) ?_;dsimp only[ay,az,ax,au,ak,aD,aG,aA,ah,ai,aB,aC,aF,aH,aj,LS.at,LS.aT];refine .step (R.aL 13 _ rfl) (.nQ (a:=5) (b:=4) (by decide) (by decide) (dR (hw))) ?_;dsimp only[ay,az,ax,au,ak,aD,aG,aA,ah,ai,aB,aC,aF,aH,aj,LS.at,LS.aT];refine .step (R.aL 14 _ rfl) (.set (a:=4) (by decide)) ?_;dsimp only[ay,az,ax,au,ak,aD,aG,aA,ah,ai,aB,aC,aF,aH,aj,LS.at,LS.aT];refine .step (R.aL 15 _ rfl) (.nQ (a:=6) (b:=4) (by decide) (by decide) (qH (Jw (a:=d) (by omega)))) ?_;dsimp only[ay,az,ax,au,ak,aD,aG,aA,ah,ai,aB,aC,aF,aH,aj,LS.at,LS.aT];refine .step (R.aL 16 _ rfl) (.jump) ?_;dsimp only[ay,az,ax,au,ak,aD,aG,aA,ah,ai,aB,aC,aF,aH,aj,LS.at,LS.aT];exact ih (i+1) (by omega) _ _ (by omega)
theorem vI (X:Ctx t lo hi rs) (hl:rs[a.row]? =some l) (B:tQ t.words C a) (hh:∀k,a.held k=false) (hop:a.op<=l.length) (F:Fr t a.bX a.reads a.log a.sum 0 pv):
  dX (bI t rs) lo hi (vU t rs (a.bL l)) (250+23*a.log.length) ⟨b_ rs a.row+9+aS (l.take a.op),r0,r1,r2,r3,r4,r5,r6,0,pv⟩:=by
 have L:=X.lay;have R:=bK t rs hl;have hlen:=B.len;have hwd:=L.words;have FA:wH t a 0 pv:=⟨0,F,by decide,fun k _ _=>by rw[hh k];simp⟩;unfold aO.bL;cases ho:l[a.op]? with
 |none=>
  have:l.length<=a.op:=by
   rcases Nat.lt_or_ge a.op l.length with q|q
   ·rw[dZ q] at ho;cases ho
   ·exact q
  rw[List.take_of_length_le this];simp only;by_cases he:a.log=[]
  ·rw[if_pos he];refine dX.le (k:=0+3) ?_ (by omega);have hc0:pv (t.base+2)=0:=by rw[F.cnt,he];rfl
   refine .step (R.aL 0 _ rfl) (.load (a:=0) (b:=7) (by decide) (by decide) (L.b (by decide) (by decide)).1 (L.b (by decide) (by decide)).2.1 (L.b (by decide) (by decide)).2.2) ?_;dsimp only[ay,az,ax,au,ak,aD,aG,aA,ah,ai,aB,aC,aF,aH,aj,LS.at,LS.aT];rw[hc0];refine .step (R.aL 1 _ rfl) (.zero (a:=0) (by decide) (rfl)) ?_;dsimp only[ay,az,ax,au,ak,aD,aG,aA,ah,ai,aB,aC,aF,aH,aj,LS.at,LS.aT];refine .step (R.aL 157 _ rfl) (.load (a:=1) (b:=7) (by decide) (by decide) (L.b (by decide) (by decide)).1 (L.b (by decide) (by decide)).2.1 (L.b (by decide) (by decide)).2.2) ?_;dsimp only[ay,az,ax,au,ak,aD,aG,aA,ah,ai,aB,aC,aF,aH,aj,LS.at,LS.aT];rw[F.bX];exact .here (.inr (.inr ⟨l,hl,_,_,_,_,_,_,_,rfl,FA⟩))
  ·rw[if_neg he];have hpos:a.log.length≠0:=fun q=>he (List.length_eq_zero_iff.1 q)
   refine dX.le (k:=213+12*a.log.length+5) ?_ (by omega);refine .step (R.aL 0 _ rfl) (.load (a:=0) (b:=7) (by decide) (by decide) (L.b (by decide) (by decide)).1 (L.b (by decide) (by decide)).2.1 (L.b (by decide) (by decide)).2.2) ?_;dsimp only[ay,az,ax,au,ak,aD,aG,aA,ah,ai,aB,aC,aF,aH,aj,LS.at,LS.aT];rw[F.cnt];refine .step (R.aL 1 _ rfl) (.more (a:=0) (by decide) ((show(a.log.length:Int)≠0 by omega))) ?_;dsimp only[ay,az,ax,au,ak,aD,aG,aA,ah,ai,aB,aC,aF,aH,aj,LS.at,LS.aT];refine .step (R.aL 2 _ rfl) (.set (a:=2) (by decide)) ?_;dsimp only[ay,az,ax,au,ak,aD,aG,aA,ah,ai,aB,aC,aF,aH,aj,LS.at,LS.aT];refine .step (R.aL 3 _ rfl) (.load (a:=6) (b:=7) (by decide) (by decide) (L.b (by decide) (by decide)).1 (L.b (by decide) (by decide)).2.1 (L.b (by decide) (by decide)).2.2) ?_;dsimp only[ay,az,ax,au,ak,aD,aG,aA,ah,ai,aB,aC,aF,aH,aj,LS.at,LS.aT];rw[F.cnt];refine .step (R.aL 4 _ rfl) (.set (a:=5) (by decide)) ?_;dsimp only[ay,az,ax,au,ak,aD,aG,aA,ah,ai,aB,aC,aF,aH,aj,LS.at,LS.aT];have:=MH (r0:=(a.log.length:Int)) (r1:=r1) X hl B hh he F 0 (Nat.zero_le _) r3 r4;simpa [needs] using this
 |some o=>
  have hx:=X.wf l (bA hl) o (bA ho);have hkeys:∀c∈a.log,1<=c.1/\c.1<=262144:=fun c hc=>by have:=B.keys c hc;omega
  have R1:=R.ops a.op o ho;simp only;by_cases hk:o.kind=2
  ·rw[if_pos hk] at R1⊢;refine dX.le (k:=9+2+11*a.log.length+1) ?_ (by omega);refine .step (R1 0 _ rfl) (.set (a:=1) (by decide)) ?_;dsimp only[ay,az,ax,au,ak,aD,aG,aA,ah,ai,aB,aC,aF,aH,aj,LS.at,LS.aT];refine AP (f:=b_ rs a.row+9+aS (l.take a.op)+43) L (R1.part 1 12) F hlen (by omega) hkeys (fun i c r3 r4 hc hcx=>?_) (fun hm r4 r5 r6=>?_)
   ·have hp:a.log[place a.log o.at_]? =some c:=by rw[<-hcx,NC B.tJ hc];exact hc
    rw[hp];simp only;have hil:=(bE.1 hc).1;refine .step (R1 43 _ rfl) (.load (a:=2) (b:=5) (by decide) (by decide) (L.e (i:=i) (by omega) (by decide) (by decide)).1 (L.e (i:=i) (by omega) (by decide) (by decide)).2.1 (L.e (i:=i) (by omega) (by decide) (by decide)).2.2) ?_;dsimp only[ay,az,ax,au,ak,aD,aG,aA,ah,ai,aB,aC,aF,aH,aj,LS.at,LS.aT];rw[(F.log i c hc).2];exact .here (.inr (.inr ⟨l,hl,o,_,_,_,_,_,_,ho,hk,rfl,FA⟩))
   ·have hp:a.log[place a.log o.at_]? =none:=by
     cases hp:a.log[place a.log o.at_]? with
     |none=>rfl
     |some c=>exact absurd (ow hp).2 (hm c (ow hp).1)
    rw[hp];simp only;refine .step (R1 13 _ rfl) (.move (a:=5) (b:=1) (by decide) (by decide)) ?_;dsimp only[ay,az,ax,au,ak,aD,aG,aA,ah,ai,aB,aC,aF,aH,aj,LS.at,LS.aT];refine .step (R1 14 _ rfl) (.set (a:=4) (by decide)) ?_;dsimp only[ay,az,ax,au,ak,aD,aG,aA,ah,ai,aB,aC,aF,aH,aj,LS.at,LS.aT];refine .step (R1 15 _ rfl) (.nQ (a:=5) (b:=4) (by decide) (by decide) (Nv o.at_)) ?_;dsimp only[ay,az,ax,au,ak,aD,aG,aA,ah,ai,aB,aC,aF,aH,aj,LS.at,LS.aT];refine .step (R1 16 _ rfl) (.move (a:=0) (b:=5) (by decide) (by decide)) ?_;dsimp only[ay,az,ax,au,ak,aD,aG,aA,ah,ai,aB,aC,aF,aH,aj,LS.at,LS.aT];refine .step (R1 17 _ rfl) (.set (a:=4) (by decide)) ?_;dsimp only[ay,az,ax,au,ak,aD,aG,aA,ah,ai,aB,aC,aF,aH,aj,LS.at,LS.aT];refine .step (R1 18 _ rfl) (.nQ (a:=5) (b:=4) (by decide) (by decide) (dR (L.k5 (bO o.at_)))) ?_;dsimp only[ay,az,ax,au,ak,aD,aG,aA,ah,ai,aB,aC,aF,aH,aj,LS.at,LS.aT];exact .here (.inr (.inr ⟨l,hl,o,_,_,_,_,_,ho,hk,rfl,FA⟩))
  ·rw[if_neg hk] at R1⊢;obtain⟨v,hv⟩:∃v,v=fq (a.sum+o.v):=⟨_,rfl⟩;refine dX.le (k:=16+2+11*a.log.length+4) ?_ (by omega);refine .step (R1 0 _ rfl) (.set (a:=1) (by decide)) ?_;dsimp only[ay,az,ax,au,ak,aD,aG,aA,ah,ai,aB,aC,aF,aH,aj,LS.at,LS.aT];refine .step (R1 1 _ rfl) (.load (a:=2) (b:=7) (by decide) (by decide) (L.s).1 (L.s).2.1 (L.s).2.2) ?_;dsimp only[ay,az,ax,au,ak,aD,aG,aA,ah,ai,aB,aC,aF,aH,aj,LS.at,LS.aT];rw[F.sum];refine .step (R1 2 _ rfl) (.set (a:=3) (by decide)) ?_;dsimp only[ay,az,ax,au,ak,aD,aG,aA,ah,ai,aB,aC,aF,aH,aj,LS.at,LS.aT];refine .step (R1 3 _ rfl) (.nQ (a:=2) (b:=3) (by decide) (by decide) (dR (hv.symm))) ?_;dsimp only[ay,az,ax,au,ak,aD,aG,aA,ah,ai,aB,aC,aF,aH,aj,LS.at,LS.aT];rw[<-hv];refine AP (f:=b_ rs a.row+9+aS (l.take a.op)+31) L (R1.part 4 12) F hlen (by omega) hkeys (fun i c r3 r4 hc hcx=>?_) (fun hm r4 r5 r6=>?_)
   ·have hp:place a.log o.at_=i:=by rw[<-hcx,NC B.tJ hc]
    have hil:=(bE.1 hc).1;rw[if_pos (.inl (by rw[hp];exact hil))];refine .step (R1 31 _ rfl) (.store (a:=5) (b:=2) (by decide) (by decide) (L.e (i:=i) (by omega) (by decide) (by decide)).1 (L.e (i:=i) (by omega) (by decide) (by decide)).2.1 (L.e (i:=i) (by omega) (by decide) (by decide)).2.2) ?_;dsimp only[ay,az,ax,au,ak,aD,aG,aA,ah,ai,aB,aC,aF,aH,aj,LS.at,LS.aT];have F2:=F.Yj L hlen hc v;refine .here (.inr (.inr ⟨l,hl,o,_,_,_,_,_,_,ho,hk,rfl,0,?_,by decide,fun k _ _=>by rw[hh k];simp⟩));have e:kz a.log o.at_ v=a.log.set i (c.1,v):=by unfold kz;rw[hp,if_pos hil,hcx]
    rw[show({a with pt:=Pt.wr,x:=o.at_,v:=v}:aO).log=a.log from rfl];simp only;rw[e];exact F2
   ·have hp:¬place a.log o.at_<a.log.length:=fun q=>by
     obtain⟨c,hc,hcx⟩:=yO q;exact hm c (bA hc) hcx
    refine .step (R1 16 _ rfl) (.load (a:=3) (b:=7) (by decide) (by decide) (L.b (by decide) (by decide)).1 (L.b (by decide) (by decide)).2.1 (L.b (by decide) (by decide)).2.2) ?_;dsimp only[ay,az,ax,au,ak,aD,aG,aA,ah,ai,aB,aC,aF,aH,aj,LS.at,LS.aT];rw[F.cnt];refine .step (R1 17 _ rfl) (.move (a:=4) (b:=3) (by decide) (by decide)) ?_;dsimp only[ay,az,ax,au,ak,aD,aG,aA,ah,ai,aB,aC,aF,aH,aj,LS.at,LS.aT];refine .step (R1 18 _ rfl) (.set (a:=6) (by decide)) ?_;dsimp only[ay,az,ax,au,ak,aD,aG,aA,ah,ai,aB,aC,aF,aH,aj,LS.at,LS.aT];by_cases h64:a.log.length<64
    ·rw[if_pos (.inr h64)];refine .step (R1 19 _ rfl) (.nQ (a:=4) (b:=6) (by decide) (by decide) (vo ((by omega:(a.log.length:Int)<64)))) ?_;dsimp only[ay,az,ax,au,ak,aD,aG,aA,ah,ai,aB,aC,aF,aH,aj,LS.at,LS.aT];refine .step (R1 20 _ rfl) (.more (a:=4) (by decide) (Int.one_ne_zero)) ?_;dsimp only[ay,az,ax,au,ak,aD,aG,aA,ah,ai,aB,aC,aF,aH,aj,LS.at,LS.aT];refine .step (R1 21 _ rfl) (.jump) ?_;dsimp only[ay,az,ax,au,ak,aD,aG,aA,ah,ai,aB,aC,aF,aH,aj,LS.at,LS.aT];refine .step (R1 23 _ rfl) (.move (a:=5) (b:=3) (by decide) (by decide)) ?_;dsimp only[ay,az,ax,au,ak,aD,aG,aA,ah,ai,aB,aC,aF,aH,aj,LS.at,LS.aT];refine .step (R1 24 _ rfl) (.nQ (a:=5) (b:=5) (by decide) (by decide) (dR (L.jj (j:=a.log.length) h64))) ?_;dsimp only[ay,az,ax,au,ak,aD,aG,aA,ah,ai,aB,aC,aF,aH,aj,LS.at,LS.aT];refine .step (R1 25 _ rfl) (.set (a:=4) (by decide)) ?_;dsimp only[ay,az,ax,au,ak,aD,aG,aA,ah,ai,aB,aC,aF,aH,aj,LS.at,LS.aT];refine .step (R1 26 _ rfl) (.nQ (a:=5) (b:=4) (by decide) (by decide) (dR (L.a5 (j:=a.log.length) h64))) ?_;dsimp only[ay,az,ax,au,ak,aD,aG,aA,ah,ai,aB,aC,aF,aH,aj,LS.at,LS.aT];refine .step (R1 27 _ rfl) (.store (a:=5) (b:=1) (by decide) (by decide) ((by have:=L.e (i:=a.log.length) h64 (k:=0) (by decide) (by decide);rw[Int.add_zero] at this⊢;exact this:fq (t.log+2*(a.log.length:Int)+0)=t.log+2*(a.log.length:Int)/\lo<=t.log+2*(a.log.length:Int)/\t.log+2*(a.log.length:Int)<hi)).1 ((by have:=L.e (i:=a.log.length) h64 (k:=0) (by decide) (by decide);rw[Int.add_zero] at this⊢;exact this:fq (t.log+2*(a.log.length:Int)+0)=t.log+2*(a.log.length:Int)/\lo<=t.log+2*(a.log.length:Int)/\t.log+2*(a.log.length:Int)<hi)).2.1 ((by have:=L.e (i:=a.log.length) h64 (k:=0) (by decide) (by decide);rw[Int.add_zero] at this⊢;exact this:fq (t.log+2*(a.log.length:Int)+0)=t.log+2*(a.log.length:Int)/\lo<=t.log+2*(a.log.length:Int)/\t.log+2*(a.log.length:Int)<hi)).2.2) ?_;dsimp only[ay,az,ax,au,ak,aD,aG,aA,ah,ai,aB,aC,aF,aH,aj,LS.at,LS.aT];refine .step (R1 28 _ rfl) (.set (a:=4) (by decide)) ?_;dsimp only[ay,az,ax,au,ak,aD,aG,aA,ah,ai,aB,aC,aF,aH,aj,LS.at,LS.aT];refine .step (R1 29 _ rfl) (.nQ (a:=3) (b:=4) (by decide) (by decide) (dR (r9 (a:=a.log.length) (by omega)))) ?_;dsimp only[ay,az,ax,au,ak,aD,aG,aA,ah,ai,aB,aC,aF,aH,aj,LS.at,LS.aT];refine .step (R1 30 _ rfl) (.store (a:=7) (b:=3) (by decide) (by decide) (L.b (by decide) (by decide)).1 (L.b (by decide) (by decide)).2.1 (L.b (by decide) (by decide)).2.2) ?_;dsimp only[ay,az,ax,au,ak,aD,aG,aA,ah,ai,aB,aC,aF,aH,aj,LS.at,LS.aT];refine .step (R1 31 _ rfl) (.store (a:=5) (b:=2) (by decide) (by decide) (L.e (i:=a.log.length) h64 (by decide) (by decide)).1 (L.e (i:=a.log.length) h64 (by decide) (by decide)).2.1 (L.e (i:=a.log.length) h64 (by decide) (by decide)).2.2) ?_;dsimp only[ay,az,ax,au,ak,aD,aG,aA,ah,ai,aB,aC,aF,aH,aj,LS.at,LS.aT];have F2:=F.XX L h64 o.at_ v;refine .here (.inr (.inr ⟨l,hl,o,_,_,_,_,_,_,ho,hk,rfl,0,?_,by decide,fun k _ _=>by rw[hh k];simp⟩));have e:kz a.log o.at_ v=a.log++[(o.at_,v)]:=by unfold kz;rw[if_neg hp]
     simp only;rw[e];exact F2
    ·rw[if_neg (fun q=>q.elim hp h64)];refine .step (R1 19 _ rfl) (.nQ (a:=4) (b:=6) (by decide) (by decide) (BD ((by omega:¬(a.log.length:Int)<64)))) ?_;dsimp only[ay,az,ax,au,ak,aD,aG,aA,ah,ai,aB,aC,aF,aH,aj,LS.at,LS.aT];refine .step (R1 20 _ rfl) (.zero (a:=4) (by decide) (rfl)) ?_;dsimp only[ay,az,ax,au,ak,aD,aG,aA,ah,ai,aB,aC,aF,aH,aj,LS.at,LS.aT];exact .here (.inr (.inr ⟨l,hl,o,_,_,_,_,_,_,_,_,ho,hk,rfl⟩))
end
end Go.Proofs.YtopdcjimpdalpaaGreat

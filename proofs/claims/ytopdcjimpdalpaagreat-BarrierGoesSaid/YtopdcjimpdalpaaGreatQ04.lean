import Derived.Test.YtopdcjimpdalpaaGreatQ03
namespace Go.Proofs.YtopdcjimpdalpaaGreat
open Go.RowKit
set_option linter.all false
set_option maxHeartbeats 4000000
structure Fm where
 bn:Bool
 regs:Nat
 n:Bool
 least:Int
 most:Int
def fm (c:Bool) (r:Nat) (n:Bool):Fm:=⟨c,r,n, -9223372036854775808,9223372036854775807⟩
def eB (k:Int):Option Fm:=
 if k=1 then some (fm false 1 true) else if k=2 then some (fm false 2 false) else if k=3 then some (fm true 2 false)
 else if k=4\/k=5\/k=9\/k=15 then some (fm false 2 true) else if k=6 then some ⟨false,0,true,0,262144⟩ else if k=7 then some ⟨false,1,true,0,262144⟩
 else if k=8 then some (fm false 3 true) else if k=10\/k=14 then some (fm false 0 false) else if k=11 then some (fm false 1 false)
 else if k=12 then some ⟨false,2,true,1,8⟩ else if k=13 then some ⟨false,0,true,2,8⟩ else none
theorem kinds {k:Int} (h:eB k≠none):k=1\/k=2\/k=3\/k=4\/k=5\/k=6\/k=7\/k=8\/k=9\/k=10\/k=11\/k=12\/k=13\/k=14\/k=15:=by
 by_cases h':1<=k/\k<=15
 ·omega
 ·exfalso;apply h;unfold eB;repeat rw[if_neg (by omega)]
def uW (f:Fm):List Value:=[.bool f.bn,.int .i64 (f.regs:Int),.bool f.n,.int .i64 f.least,.int .i64 f.most]
def uQ (f:Fm):List Value:=[.bool f.bn,.int .i64 (f.regs:Int),.bool f.n]
def si:Option Fm->Value
 |some f=>.tuple #[.agg (uW f).toArray,.bool true]
 |none=>.tuple #[.agg #[.bool false,.int .i64 0,.bool false,.int .i64 0,.int .i64 0],.bool false]
def lX:Option Fm->Value
 |some f=>.tuple #[.agg (uQ f).toArray,.bool true]
 |none=>.tuple #[.agg #[.bool false,.int .i64 0,.bool false],.bool false]
def Dg (k n:Int):Bool:=
 if k=6\/k=7 then decide (0<=n/\n<=262144) else if k=12 then decide (1<=n/\n<=8) else if k=13 then decide (2<=n/\n<=8) else true
theorem OQ (w:World) (k:Int) (h:¬(1<=k/\k<=15)):Calls Tryz.prog 167 #[.int .u8 k] w fun e w'=>e= .returned (.tuple #[.agg #[.bool false,.int .i64 0,.bool false,.int .i64 0,.int .i64 0],.bool false])/\Below w.heap.size w w':=by
 have k1:(k==1)=false:=by simp;omega
 have k2:(k==2)=false:=by simp;omega
 have k3:(k==3)=false:=by simp;omega
 have k4:(k==4)=false:=by simp;omega
 have k5:(k==5)=false:=by simp;omega
 have k6:(k==6)=false:=by simp;omega
 have k7:(k==7)=false:=by simp;omega
 have k8:(k==8)=false:=by simp;omega
 have k9:(k==9)=false:=by simp;omega
 have k10:(k==10)=false:=by simp;omega
 have k11:(k==11)=false:=by simp;omega
 have k12:(k==12)=false:=by simp;omega
 have k13:(k==13)=false:=by simp;omega
 have k14:(k==14)=false:=by simp;omega
 have k15:(k==15)=false:=by simp;omega
 clear h;go_in;go_wp2_with fail;refine bodyPost_ret (v:=.tuple #[.agg #[.bool false,.int .i64 0,.bool false,.int .i64 0,.int .i64 0],.bool false]) (by simp[results,Tryz.results167,go_sem]) rfl ⟨rfl,?_⟩;first|exact aQ _ _|exact(aQ _ _).alloc (aR _) _|exact((aQ _ _).alloc (aR _) _).alloc (by simp) _
theorem NM (w:World) {k:Int} (h:k=1\/k=2\/k=3):Calls Tryz.prog 167 #[.int .u8 k] w fun e w'=>e= .returned (si (eB k))/\Below w.heap.size w w':=by
 rcases h with rfl|rfl|rfl<;>(
  go_in;go_wp2_with fail;refine bodyPost_ret (by simp[results,Tryz.results167,go_sem];rfl) rfl ⟨by simp[eB,fm,si,uW,uQ];done,?_⟩;first|exact aQ _ _|exact(aQ _ _).alloc (aR _) _|exact((aQ _ _).alloc (aR _) _).alloc (by simp) _)
theorem P6 (w:World) {k:Int} (h:k=4\/k=5\/k=6):Calls Tryz.prog 167 #[.int .u8 k] w fun e w'=>e= .returned (si (eB k))/\Below w.heap.size w w':=by
 rcases h with rfl|rfl|rfl<;>(
  go_in;go_wp2_with fail;refine bodyPost_ret (by simp[results,Tryz.results167,go_sem];rfl) rfl ⟨by simp[eB,fm,si,uW,uQ];done,?_⟩;first|exact aQ _ _|exact(aQ _ _).alloc (aR _) _|exact((aQ _ _).alloc (aR _) _).alloc (by simp) _)
theorem Pn (w:World) {k:Int} (h:k=7\/k=8\/k=9):Calls Tryz.prog 167 #[.int .u8 k] w fun e w'=>e= .returned (si (eB k))/\Below w.heap.size w w':=by
 rcases h with rfl|rfl|rfl<;>(
  go_in;go_wp2_with fail;refine bodyPost_ret (by simp[results,Tryz.results167,go_sem];rfl) rfl ⟨by simp[eB,fm,si,uW,uQ];done,?_⟩;first|exact aQ _ _|exact(aQ _ _).alloc (aR _) _|exact((aQ _ _).alloc (aR _) _).alloc (by simp) _)
theorem Qt (w:World) {k:Int} (h:k=10\/k=11\/k=12):Calls Tryz.prog 167 #[.int .u8 k] w fun e w'=>e= .returned (si (eB k))/\Below w.heap.size w w':=by
 rcases h with rfl|rfl|rfl<;>(
  go_in;go_wp2_with fail;refine bodyPost_ret (by simp[results,Tryz.results167,go_sem];rfl) rfl ⟨by simp[eB,fm,si,uW,uQ];done,?_⟩;first|exact aQ _ _|exact(aQ _ _).alloc (aR _) _|exact((aQ _ _).alloc (aR _) _).alloc (by simp) _)
theorem Ql (w:World) {k:Int} (h:k=13\/k=14\/k=15):Calls Tryz.prog 167 #[.int .u8 k] w fun e w'=>e= .returned (si (eB k))/\Below w.heap.size w w':=by
 rcases h with rfl|rfl|rfl<;>(
  go_in;go_wp2_with fail;refine bodyPost_ret (by simp[results,Tryz.results167,go_sem];rfl) rfl ⟨by simp[eB,fm,si,uW,uQ];done,?_⟩;first|exact aQ _ _|exact(aQ _ _).alloc (aR _) _|exact((aQ _ _).alloc (aR _) _).alloc (by simp) _)
theorem Lm (w:World) (k:Int):Calls Tryz.prog 167 #[.int .u8 k] w fun e w'=>e= .returned (si (eB k))/\Below w.heap.size w w':=by
 by_cases hk:1<=k/\k<=15
 ·rcases(by omega:k<=3\/4<=k/\k<=6\/7<=k/\k<=9\/10<=k/\k<=12\/13<=k) with h|h|h|h|h
  ·exact NM w (by omega)
  ·exact P6 w (by omega)
  ·exact Pn w (by omega)
  ·exact Qt w (by omega)
  ·exact Ql w (by omega)
 ·have hn:eB k=none:=by
   cases h:eB k with
   |none=>rfl
   |some f=>exact absurd (by have:=kinds (k:=k) (by rw[h];simp);omega) hk
  rw[hn];exact OQ w k hk
structure bM where
 kind:Int
 bn:Int
 a:Int
 b:Int
 c:Int
 n:Int
def bR (o:bM):List Value:=[.int .u8 o.kind,.int .u8 o.bn,.int .u8 o.a,.int .u8 o.b,.int .u8 o.c,.int .i64 o.n]
theorem dL:∀o,(bR o).length=6:=fun _=>rfl
def oV (regs i:Nat) (r:Int):Bool:=if i<regs then decide (r<8) else decide (r=0)
def oU (f:Fm) (n:Int):Bool:=if f.n=true then decide (f.least<=n) && decide (n<=f.most) else decide (n=0)
def dJ (o:bM):Bool:=match eB o.kind with
 |none=>false
 |some f=>(f.bn==decide (o.bn≠0)) && decide (o.bn<=14) && oV f.regs 0 o.a && oV f.regs 1 o.b && oV f.regs 2 o.c && oU f o.n
def rz (b:Bool):Value:=.int .i64 (if b=true then 0 else 1)
def DT (o:bM):Prop:=(0<=o.kind/\o.kind<256)/\(0<=o.bn/\o.bn<256)/\(0<=o.a/\o.a<256)/\(0<=o.b/\o.b<256)/\(0<=o.c/\o.c<256)/\(-9223372036854775808<=o.n/\o.n<=9223372036854775807)
theorem EH {k:Int} {f:Fm} (h:eB k=some f):f.regs<=3:=by
 have hk:=kinds (k:=k) (by rw[h];simp);rcases hk with rfl|rfl|rfl|rfl|rfl|rfl|rfl|rfl|rfl|rfl|rfl|rfl|rfl|rfl|rfl<;>simp[eB] at h<;>subst h<;>decide
theorem YD {k n:Int} {f:Fm} (h:eB k=some f) (hf:f.n=true) (h1: -9223372036854775808<=n) (h2:n<=9223372036854775807):Dg k n=oU f n:=by
 have hk:=kinds (k:=k) (by rw[h];simp);rcases hk with rfl|rfl|rfl|rfl|rfl|rfl|rfl|rfl|rfl|rfl|rfl|rfl|rfl|rfl|rfl<;>simp[eB] at h<;>subst h<;>simp[fm] at hf<;>simp[Dg,oU,fm,h1,h2]
def r3 (a b c:Int):Nat->Int
 |0=>a
 |1=>b
 |_=>c
theorem IZ {k bn a b c n:Int} {f:Fm} (h:eB k=some f) {j:Nat} (hj:j<3) (ho:oV f.regs j (r3 a b c j)=false):dJ ⟨k,bn,a,b,c,n⟩=false:=by
 rcases(by omega:j=0\/j=1\/j=2) with rfl|rfl|rfl<;>(simp only[r3] at ho;simp[dJ,h,ho])
theorem EB {k bn a b c n:Int} {f:Fm} (h:eB k=some f) (hc:(f.bn==decide (bn≠0))=true) (yh:bn<=14) (ho:∀t,t<3->oV f.regs t (r3 a b c t)=true):dJ ⟨k,bn,a,b,c,n⟩=oU f n:=by
 have h0:=ho 0 (by decide);have h1:=ho 1 (by decide);have h2:=ho 2 (by decide);simp only[r3] at h0 h1 h2;simp only[dJ,h,hc,yh,h0,h1,h2,decide_true,Bool.and_true,Bool.true_and]
theorem zZ {k bn a b c n:Int} {f:Fm} (h:eB k=some f) (hc:¬((f.bn==decide (bn≠0))=true/\bn<=14)):dJ ⟨k,bn,a,b,c,n⟩=false:=by
 by_cases h1:(f.bn==decide (bn≠0))=true
 ·have yh:¬bn<=14:=fun q=>hc ⟨h1,q⟩
  simp only[dJ,h,decide_eq_false yh,Bool.and_false,Bool.false_and]
 ·simp only[Bool.not_eq_true] at h1;simp only[dJ,h,h1,Bool.false_and]
theorem Au {r j:Nat} {v:Int}:(oV r j v=true/\(j<r/\v<8\/r<=j/\v=0))\/(oV r j v=false/\(j<r/\8<=v\/r<=j/\v≠0)):=by
 unfold oV;by_cases h:j<r<;>by_cases h8:v<8<;>by_cases h0:v=0<;>simp[h,h8,h0]<;>omega
theorem P7 (w:World) (o:bM) (hw:DT o):Calls Tryz.prog 140 #[.agg (bR o).toArray] w fun e w'=>e= .returned (rz (dJ o))/\Below w.heap.size w w':=by
 obtain⟨kind,bn,a,b,c,n⟩:=o;obtain⟨-,⟨hc0, -⟩,⟨ha0, -⟩,⟨hb0, -⟩,⟨YF, -⟩, -⟩:=hw;simp only at hc0 ha0 hb0 YF;unfold bR;go_in;go_wp2_with fail;refine(Lm _ _).mono ?_;rintro e w1 ⟨rfl,hb1⟩;have hblk:=blk hb1 (aX w _);have y (i:Nat) (u:Value) (h:(#[Value.int .u8 kind,.int .u8 bn,.int .u8 a,.int .u8 b,.int .u8 c,.int .i64 n])[i]? =some u):∀x,(w1.alloc x).cell? ⟨w.heap.size,i,none⟩=some u:=fun x=>af (bz hblk) h
 have y0:=y 0 _ rfl;have y1:=y 1 _ rfl;have y2:=y 2 _ rfl;have y3:=y 3 _ rfl;have y4:=y 4 _ rfl;have y5:=y 5 _ rfl;have HB1:=ag (MF (aQ _ _) hb1);have i0:∀w,(Instr.index 238 (.agg #[.int .u8 a,.int .u8 b,.int .u8 c]) (.int .i64 0)).run Tryz.prog w= .ok (.int .u8 a) w:=fun _=>by kernel_rfl
 have i1:∀w,(Instr.index 238 (.agg #[.int .u8 a,.int .u8 b,.int .u8 c]) (.int .i64 1)).run Tryz.prog w= .ok (.int .u8 b) w:=fun _=>by kernel_rfl
 have i2:∀w,(Instr.index 238 (.agg #[.int .u8 a,.int .u8 b,.int .u8 c]) (.int .i64 2)).run Tryz.prog w= .ok (.int .u8 c) w:=fun _=>by kernel_rfl
 clear hb1 hblk y;cases hf:eB kind with
 |none=>
  unfold si;have HF:=ag hf;clear hf;go_wp2_with fail;go_ret;exact⟨by simp[dJ,HF.out,rz],HB1.out.alloc HB1.out.size _⟩
 |some f=>
  have hfr:=EH hf;obtain⟨fc,fr,fn,fl,fM⟩:=f;have HF:=ag hf;clear hf;simp only at hfr;unfold si uW;by_cases hq:fc=(bn !=0)
  ·by_cases yh:bn<=14
   ·have q1:¬bn>14:=by omega
    have HC:=ag (show(fc==decide (bn≠0))=true by rw[hq];by_cases h:bn=0<;>simp[h]);have HL:=ag yh;have q2:(bn !=0)=fc:=hq.symm;clear hq yh;go_wp2_with fail;go_loopw [35] (fun i wr=>wr=w1.alloc (.cells #[.bool fc,.int .i64 fr,.bool fn,.int .i64 fl,.int .i64 fM] 235)/\∃j:Nat,j<=3/\i= .int .i64 (j:Int)/\Hid (∀t,t<j->oV fr t (r3 a b c t)=true)) (fun i _=>(3 - intOf i).toNat)
    case atStart=>exact⟨rfl,0,by omega,rfl,fun t ht=>absurd ht (Nat.not_lt_zero t)⟩
    case round=>
     obtain⟨rfl,j,hj,rfl,G⟩:=hrel;by_cases h3:j<3
     ·obtain⟨v,hv⟩:∃v,r3 a b c j=v:=⟨_,rfl⟩;have ix:∀w,(Instr.index 238 (.agg #[.int .u8 a,.int .u8 b,.int .u8 c]) (.int .i64 (j:Int))).run Tryz.prog w= .ok (.int .u8 v) w:=by
       rcases(by omega:j=0\/j=1\/j=2) with rfl|rfl|rfl<;>subst hv
       ·exact i0
       ·exact i1
       ·exact i2
      have hw:IntKind.i64.wrap ((j:Int)+1)=j+1:=IntWalk.i64_in _ (by omega);have h3':(j:Int)<3:=by omega
      have hv0:0<=v:=by rw[<-hv];rcases(by omega:j=0\/j=1\/j=2) with rfl|rfl|rfl<;>assumption
      rcases Au (r:=fr) (j:=j) (v:=v) with⟨ho,hq⟩|⟨ho,hq⟩
      ·have HO:=ag (show ∀t,t<j+1->oV fr t (r3 a b c t)=true from fun t ht=>by
        rcases Nat.lt_succ_iff_lt_or_eq.1 ht with h|rfl
        ·exact G.out t h
        ·rw[hv];exact ho)
       clear ho hv;rcases hq with⟨hl,h8⟩|⟨hl,h8⟩
       ·have e1:(j:Int)<fr:=by omega
        have e2:¬(j:Int)>=fr:=by omega
        have e3:¬v>=8:=by omega
        clear hl h8;go_wp2_with fail;exact⟨⟨trivial,j+1,by omega,by go_num,HO⟩,by simp[intOf];omega⟩
       ·have e1:¬(j:Int)<fr:=by omega
        have e2:(j:Int)>=fr:=by omega
        subst h8;clear hl;go_wp2_with fail;exact⟨⟨trivial,j+1,by omega,by go_num,HO⟩,by simp[intOf];omega⟩
      ·have HN:=ag (IZ (bn:=bn) (n:=n) HF.out h3 (by rw[hv];exact ho));clear ho hv;rcases hq with⟨hl,h8⟩|⟨hl,h8⟩
       ·have e1:(j:Int)<fr:=by omega
        have e3:v>=8:=by omega
        clear hl h8;go_wp2_with fail;go_ret;exact⟨by rw[HN.out];rfl,HB1.out.alloc HB1.out.size _⟩
       ·have e1:¬(j:Int)<fr:=by omega
        have e2:(j:Int)>=fr:=by omega
        have e3:(v !=0)=true:=by simp[h8]
        have e4:(v==0)=false:=by simp[h8]
        clear hl h8;go_wp2_with fail;go_ret;exact⟨by rw[HN.out];rfl,HB1.out.alloc HB1.out.size _⟩
     ·obtain rfl:j=3:=by omega
      have HY:=ag (EB (n:=n) HF.out HC.out HL.out G.out);clear hj h3;cases fn with
      |true=>
       by_cases h1:n<fl
       ·go_wp2_with fail;go_ret;exact⟨by rw[HY.out];simp[rz,oU,show ¬fl<=n by omega],HB1.out.alloc HB1.out.size _⟩
       ·by_cases h2:n>fM
        ·go_wp2_with fail;go_ret;exact⟨by rw[HY.out];simp[rz,oU,show ¬n<=fM by omega],HB1.out.alloc HB1.out.size _⟩
        ·go_wp2_with fail;go_ret;exact⟨by rw[HY.out];simp[rz,oU,show n<=fM by omega,show fl<=n by omega],HB1.out.alloc HB1.out.size _⟩
      |false=>
       by_cases h1:n=0
       ·subst h1;go_wp2_with fail;go_ret;exact⟨by rw[HY.out];simp[rz,oU],HB1.out.alloc HB1.out.size _⟩
       ·have h2:(n==0)=false:=by simp[h1]
        have h3:(n !=0)=true:=by simp[h1]
        go_wp2_with fail;go_ret;exact⟨by rw[HY.out];simp[rz,oU,h1],HB1.out.alloc HB1.out.size _⟩
   ·have q1:bn>14:=by omega
    have q2:(bn !=0)=fc:=hq.symm;have HN:=ag (zZ (a:=a) (b:=b) (c:=c) (n:=n) HF.out (fun q=>yh q.2));clear hq yh;go_wp2_with fail;go_ret;exact⟨by rw[HN.out];rfl,HB1.out.alloc HB1.out.size _⟩
  ·have q2:(bn !=0)= !fc:=by cases fc<;>cases h:(bn !=0)<;>simp_all
   have HN:=ag (zZ (a:=a) (b:=b) (c:=c) (n:=n) HF.out (fun q=>hq (by have q1:fc=decide (bn≠0):=eq_of_beq q.1;rw[q1];by_cases h:bn=0<;>simp[h])));clear hq;cases fc<;>(
    go_wp2_with fail;go_ret;exact⟨by rw[HN.out];rfl,HB1.out.alloc HB1.out.size _⟩)
end Go.Proofs.YtopdcjimpdalpaaGreat

import Derived.Test.YtopdcjimpdalpaaGreatR23
namespace Go.Proofs.YtopdcjimpdalpaaGreat
open Go.RowKit
set_option linter.all false
set_option maxHeartbeats 1000000
set_option maxRecDepth 10000
section
variable {V:Nat->Int} {c c0:Cd} {p q:Nat} {ls:List Int} {R:List bR} {t:dI}
def bV (V:Nat->Int) (q:Nat) (L:List Int):Prop:=∀(i:Nat) v,L[i]? =some v->V (q+i)=v
theorem bV.left {L1 L2:List Int} (h:bV V q (L1++L2)):bV V q L1:=fun i v hv=>h i v (by rw[List.getElem?_append_left (bu.1 hv).1];exact hv)
theorem bV.right {L1 L2:List Int} (h:bV V q (L1++L2)) {n:Nat} (hn:L1.length=n):bV V (q+n) L2:=fun i v hv=>by
 have:=h (n+i) v (by rw[List.getElem?_append_right (by omega),hn,Nat.add_sub_cancel_left];exact hv)
 rwa [<-Nat.add_assoc] at this
theorem bV.pJ {L:List Int} {v:Int} (h:bV V q (v::L)):V q=v:=h 0 v rfl
theorem bV.SF {L:List Int} {u v:Int} (h:bV V q (u::v::L)):V (q+1)=v:=h 1 v rfl
theorem bV.at2 {L:List Int} {u v x:Int} (h:bV V q (u::v::x::L)):V (q+2)=x:=h 2 x rfl
theorem bV.at3 {L:List Int} {u v x y:Int} (h:bV V q (u::v::x::y::L)):V (q+3)=y:=h 3 y rfl
def gK (t:dI) (p:Nat) (found:Int):List bR:=[⟨4,0,3,7,0,t.base+2⟩,⟨7,0,3,0,0,((p+12:Nat):Int)⟩,⟨1,0,4,0,0,1⟩,⟨3,2,3,4,0,0⟩,⟨2,0,5,3,0,0⟩,⟨3,1,5,5,0,0⟩,⟨1,0,4,0,0,t.log⟩,⟨3,1,5,4,0,0⟩,⟨4,0,6,5,0,0⟩,⟨3,2,6,1,0,0⟩,⟨7,0,6,0,0,found⟩,⟨6,0,0,0,0,((p+1:Nat):Int)⟩]
theorem tO (t:dI) (p:Nat) (found:Int):(gK t p found).length=12:=by simp[gK]
theorem KE (found:Nat) (h:bV V q (kG p)):nT t V q found=gK t p (V found):=by
 unfold kG at h;have e0:=h.pJ;have e1:=h.SF;unfold nT gK;simp only[Nat.add_zero,e0,e1]
def dz (t:dI) (p:Nat) (r:Int) (l:Int):List bR:=[⟨7,0,r,0,0,((p+2:Nat):Int)⟩,⟨6,0,0,0,0,l⟩]
theorem kz (t:dI) (p:Nat) (r:Int) (l:Int):(dz t p r l).length=2:=by simp[dz]
theorem oz (r:Int) (l:Nat) (h:bV V q (eP p)):gq t V q r l=dz t p r (V l):=by
 unfold eP at h;have e0:=h.pJ;unfold gq dz;simp only[Nat.add_zero,e0]
def jr (t:dI) (p:Nat):List bR:=[⟨2,0,5,6,0,0⟩,⟨1,0,4,0,0,(t.words+2)⟩,⟨3,1,5,4,0,0⟩]
theorem og (t:dI) (p:Nat):(jr t p).length=3:=by simp[jr]
theorem GZ (h:bV V q (mU p)):nR t V q=jr t p:=by
 unfold nR jr;rfl
def kW (t:dI) (p:Nat):List bR:=[⟨2,0,5,6,0,0⟩,⟨1,0,4,0,0,(t.base+8)⟩,⟨3,1,5,4,0,0⟩]
theorem sU (t:dI) (p:Nat):(kW t p).length=3:=by simp[kW]
theorem UN (h:bV V q (qj p)):rF t V q=kW t p:=by
 unfold rF kW;rfl
def lN (t:dI) (p:Nat):List bR:=[⟨1,0,0,0,0,t.arena⟩,⟨5,0,7,0,0,t.base+4⟩]
theorem qw (t:dI) (p:Nat):(lN t p).length=2:=by simp[lN]
theorem XO (h:bV V q (oW p)):qQ t V q=lN t p:=by
 unfold qQ lN;rfl
def lX (t:dI) (p:Nat):List bR:=[⟨12,0,7,7,0,8⟩,⟨4,0,1,7,0,t.base+5⟩,⟨5,0,7,1,0,t.base+4⟩]
theorem vL (t:dI) (p:Nat):(lX t p).length=3:=by simp[lX]
theorem Xk (h:bV V q (lD p)):qY t V q=lX t p:=by
 unfold qY lX;rfl
def lW (t:dI) (p:Nat):List bR:=[⟨1,0,1,0,0,t.prints⟩,⟨4,0,2,7,0,t.base+3⟩,⟨7,0,2,0,0,((p+10:Nat):Int)⟩,⟨4,0,3,1,0,0⟩,⟨11,0,3,0,0,0⟩,⟨1,0,4,0,0,1⟩,⟨3,1,1,4,0,0⟩,⟨1,0,4,0,0,1⟩,⟨3,2,2,4,0,0⟩,⟨6,0,0,0,0,((p+2:Nat):Int)⟩]
theorem Dv (t:dI) (p:Nat):(lW t p).length=10:=by simp[lW]
theorem abJ (h:bV V q (oV p)):uk t V q=lW t p:=by
 unfold oV at h;have e0:=h.pJ;have e1:=h.SF;unfold uk lW;simp only[Nat.add_zero,e0,e1]
def lH (t:dI) (p:Nat) (abort:Int):List bR:=gK t (p) ((p+42:Nat):Int)++[⟨2,0,5,1,0,0⟩,⟨1,0,4,0,0,15⟩,⟨3,6,5,4,0,0⟩,⟨2,0,0,5,0,0⟩,⟨1,0,4,0,0,(t.words+2)⟩,⟨3,1,5,4,0,0⟩,⟨4,0,3,5,0,0⟩,⟨2,0,6,3,0,0⟩,⟨1,0,4,0,0,1⟩,⟨3,6,6,4,0,0⟩]++dz t (p+22) 6 abort++[⟨2,0,6,3,0,0⟩,⟨1,0,4,0,0,1⟩,⟨3,10,6,4,0,0⟩,⟨4,0,4,7,0,t.base+0⟩,⟨3,13,4,6,0,0⟩]++dz t (p+29) 4 abort++[⟨4,0,2,1,0,0⟩,⟨4,0,4,5,0,0⟩,⟨3,2,4,3,0,0⟩]++dz t (p+34) 4 abort++[⟨1,0,4,0,0,1⟩,⟨3,9,4,0,0,0⟩,⟨4,0,6,7,0,t.base+1⟩,⟨3,7,6,4,0,0⟩,⟨5,0,7,6,0,t.base+1⟩,⟨6,0,0,0,0,((p+43:Nat):Int)⟩,⟨4,0,2,5,0,1⟩,⟨12,0,1,2,0,2⟩]
theorem EC (t:dI) (p:Nat) (abort:Int):(lH t p abort).length=44:=by simp[lH,tO,kz]
theorem abv (abort:Nat) (h:bV V q (oU p)):tN t V q abort=lH t p (V abort):=by
 unfold oU at h;have s3:=bV.right h (n:=6) (by simp[eX,bB,bB]);have g3:=bV.left h;have s2:=bV.right g3 (n:=5) (by simp[eX,bB]);have g2:=bV.left g3;have s1:=bV.right g2 (n:=4) (by simp[eX]);have g1:=bV.left g2;have s0:=bV.right g1 (n:=2) (by simp);have g0:=bV.left g1;have e0:=g0.pJ;have e1:=g0.SF;unfold tN lH;have f0:=KE (t:=t) q s0;have f1:=oz (t:=t) 6 abort s1;have f2:=oz (t:=t) 4 abort s2;have f3:=oz (t:=t) 4 abort s3;simp only[Nat.add_zero,f0,f1,f2,f3,e0,e1]
def kI (t:dI) (p:Nat):List bR:=gK t (p) ((p+27:Nat):Int)++[⟨4,0,3,7,0,t.base+2⟩,⟨2,0,4,3,0,0⟩,⟨1,0,6,0,0,64⟩,⟨3,13,4,6,0,0⟩]++dz t (p+16) 4 ((p+19:Nat):Int)++[⟨13,0,0,0,0,6⟩,⟨2,0,5,3,0,0⟩,⟨3,1,5,5,0,0⟩,⟨1,0,4,0,0,t.log⟩,⟨3,1,5,4,0,0⟩,⟨5,0,5,1,0,0⟩,⟨1,0,4,0,0,1⟩,⟨3,1,3,4,0,0⟩,⟨5,0,7,3,0,t.base+2⟩,⟨5,0,5,2,0,1⟩,⟨12,0,1,2,0,3⟩]
theorem Ce (t:dI) (p:Nat):(kI t p).length=29:=by simp[kI,tO,kz]
theorem Yw (h:bV V q (nK p)):rP t V q=kI t p:=by
 unfold nK at h;have s1:=bV.right h (n:=5) (by simp[eX]);have g1:=bV.left h;have s0:=bV.right g1 (n:=3) (by simp);have g0:=bV.left g1;have e0:=g0.pJ;have e1:=g0.SF;have e2:=g0.at2;unfold rP kI;have f0:=KE (t:=t) q s0;have f1:=oz (t:=t) 4 (q+2) s1;simp only[Nat.add_zero,f0,f1,e0,e1,e2]
def jS (t:dI) (p:Nat):List bR:=[⟨4,0,3,5,0,0⟩,⟨1,0,4,0,0,15⟩,⟨3,6,3,4,0,0⟩,⟨1,0,4,0,0,1⟩,⟨3,9,4,3,0,0⟩,⟨3,7,2,4,0,0⟩]
theorem Au (t:dI) (p:Nat):(jS t p).length=6:=by simp[jS]
theorem Uy (h:bV V q (nQ p)):pR t V q=jS t p:=by
 unfold pR jS;rfl
def je (t:dI) (p:Nat):List bR:=[⟨4,0,2,5,0,0⟩,⟨4,0,3,5,0,1⟩,⟨5,0,2,3,0,0⟩]
theorem zZ (t:dI) (p:Nat):(je t p).length=3:=by simp[je]
theorem QI (h:bV V q (mO p)):oH t V q=je t p:=by
 unfold oH je;rfl
def jg (t:dI) (p:Nat):List bR:=jr t (p)++[⟨5,0,5,1,0,0⟩]
theorem zY (t:dI) (p:Nat):(jg t p).length=4:=by simp[jg,og]
theorem PZ (h:bV V q (kS p)):oC t V q=jg t p:=by
 unfold kS at h;have s0:=bV.right h (n:=0) (by simp);rw[Nat.add_zero] at s0;have g0:=bV.left h;unfold oC jg;have f0:=GZ (t:=t) s0;simp only[Nat.add_zero,f0]
def jf (t:dI) (p:Nat):List bR:=kW t (p)++[⟨4,0,2,5,0,0⟩]++jr t (p+4)++[⟨5,0,5,2,0,0⟩]
theorem zQ (t:dI) (p:Nat):(jf t p).length=8:=by simp[jf,og,sU]
theorem Si (h:bV V q (kM p)):oG t V q=jf t p:=by
 unfold kM at h;have s1:=bV.right h (n:=0) (by simp[gH]);rw[Nat.add_zero] at s1;have g1:=bV.left h;have s0:=bV.right g1 (n:=0) (by simp);rw[Nat.add_zero] at s0;have g0:=bV.left g1;unfold oG jf;have f0:=UN (t:=t) s0;have f1:=GZ (t:=t) s1;simp only[Nat.add_zero,f0,f1]
def jU (t:dI) (p:Nat) (rel:Int):List bR:=jr t (p)++[⟨4,0,3,5,0,0⟩,⟨2,0,4,3,0,0⟩,⟨1,0,2,0,0,1⟩,⟨3,6,4,2,0,0⟩]++dz t (p+7) 4 rel++[⟨2,0,4,3,0,0⟩,⟨1,0,2,0,0,(2*t.th+1)⟩,⟨8,0,5,4,2,0⟩,⟨3,2,4,3,0,0⟩]++dz t (p+13) 4 rel++kW t (p+15)++[⟨5,0,5,3,0,0⟩,⟨1,0,4,0,0,1⟩,⟨3,9,4,6,0,0⟩,⟨4,0,3,7,0,t.base+6⟩,⟨3,7,3,4,0,0⟩,⟨5,0,7,3,0,t.base+6⟩]
theorem AY (t:dI) (p:Nat) (rel:Int):(jU t p rel).length=24:=by simp[jU,og,sU,kz]
theorem UA (rel:Nat) (h:bV V q (lM p)):qh t V q rel=jU t p (V rel):=by
 unfold lM at h;have s3:=bV.right h (n:=2) (by simp[dh,bB,bB]);have g3:=bV.left h;have s2:=bV.right g3 (n:=1) (by simp[dh,bB]);have g2:=bV.left g3;have s1:=bV.right g2 (n:=0) (by simp[dh]);rw[Nat.add_zero] at s1;have g1:=bV.left g2;have s0:=bV.right g1 (n:=0) (by simp);rw[Nat.add_zero] at s0;have g0:=bV.left g1;unfold qh jU;have f0:=GZ (t:=t) s0;have f1:=oz (t:=t) 4 rel s1;have f2:=oz (t:=t) 4 rel s2;have f3:=UN (t:=t) s3;simp only[Nat.add_zero,f0,f1,f2,f3]
def jW (t:dI) (p:Nat) (rel:Int):List bR:=jr t (p)++[⟨4,0,2,5,0,0⟩,⟨2,0,4,2,0,0⟩,⟨1,0,3,0,0,1⟩,⟨3,6,4,3,0,0⟩,⟨7,0,4,0,0,((p+16:Nat):Int)⟩,⟨1,0,3,0,0,(2*t.th+1)⟩,⟨3,2,2,3,0,0⟩]++dz t (p+10) 2 rel++kW t (p+12)++[⟨4,0,2,5,0,0⟩,⟨1,0,3,0,0,1⟩,⟨3,10,2,3,0,0⟩,⟨4,0,4,7,0,t.base+0⟩,⟨3,13,4,2,0,0⟩]++dz t (p+20) 4 rel
theorem AP (t:dI) (p:Nat) (rel:Int):(jW t p rel).length=22:=by simp[jW,og,sU,kz]
theorem U4 (rel:Nat) (h:bV V q (lU p)):pW t V q rel=jW t p (V rel):=by
 unfold lU at h;have s3:=bV.right h (n:=2) (by simp[dh,bB,gH]);have g3:=bV.left h;have s2:=bV.right g3 (n:=2) (by simp[dh,bB]);have g2:=bV.left g3;have s1:=bV.right g2 (n:=1) (by simp[dh]);have g1:=bV.left g2;have s0:=bV.right g1 (n:=1) (by simp);have g0:=bV.left g1;have e0:=g0.pJ;unfold pW jW;have f0:=GZ (t:=t) s0;have f1:=oz (t:=t) 2 rel s1;have f2:=UN (t:=t) s2;have f3:=oz (t:=t) 4 rel s3;simp only[Nat.add_zero,f0,f1,f2,f3,e0]
def gU (t:dI) (p:Nat):List bR:=[⟨4,0,6,7,0,t.base+2⟩,⟨1,0,5,0,0,t.log⟩,⟨7,0,6,0,0,((p+14:Nat):Int)⟩]++jS t (p+3)++[⟨1,0,4,0,0,2⟩,⟨3,1,5,4,0,0⟩,⟨1,0,4,0,0,1⟩,⟨3,2,6,4,0,0⟩,⟨6,0,0,0,0,((p+2:Nat):Int)⟩]
theorem xS (t:dI) (p:Nat):(gU t p).length=14:=by simp[gU,Au]
theorem J8 (h:bV V q (jE p)):mD t V q=gU t p:=by
 unfold jE at h;have s0:=bV.right h (n:=2) (by simp);have g0:=bV.left h;have e0:=g0.pJ;have e1:=g0.SF;unfold mD gU;have f0:=Uy (t:=t) s0;simp only[Nat.add_zero,f0,e0,e1]
def gZ (t:dI) (p:Nat):List bR:=[⟨4,0,6,7,0,t.base+2⟩,⟨1,0,5,0,0,t.log⟩,⟨7,0,6,0,0,((p+11:Nat):Int)⟩]++je t (p+3)++[⟨1,0,4,0,0,2⟩,⟨3,1,5,4,0,0⟩,⟨1,0,4,0,0,1⟩,⟨3,2,6,4,0,0⟩,⟨6,0,0,0,0,((p+2:Nat):Int)⟩]
theorem xQ (t:dI) (p:Nat):(gZ t p).length=11:=by simp[gZ,zZ]
theorem JI (h:bV V q (jv p)):lJ t V q=gZ t p:=by
 unfold jv at h;have s0:=bV.right h (n:=2) (by simp);have g0:=bV.left h;have e0:=g0.pJ;have e1:=g0.SF;unfold lJ gZ;have f0:=QI (t:=t) s0;simp only[Nat.add_zero,f0,e0,e1]
def gT (t:dI) (p:Nat) (rel:Int):List bR:=[⟨1,0,6,0,0,0⟩,⟨2,0,4,6,0,0⟩,⟨1,0,3,0,0,16⟩,⟨3,13,4,3,0,0⟩,⟨7,0,4,0,0,((p+37:Nat):Int)⟩,⟨4,0,4,7,0,t.base+7⟩,⟨3,10,4,6,0,0⟩,⟨1,0,3,0,0,1⟩,⟨3,6,4,3,0,0⟩,⟨7,0,4,0,0,((p+34:Nat):Int)⟩]++jU t (p+10) rel++[⟨1,0,3,0,0,1⟩,⟨3,1,6,3,0,0⟩,⟨6,0,0,0,0,((p+1:Nat):Int)⟩]
theorem xW (t:dI) (p:Nat) (rel:Int):(gT t p rel).length=37:=by simp[gT,AY]
theorem JJ (rel:Nat) (h:bV V q (jC p)):lI t V q rel=gT t p (V rel):=by
 unfold jC at h;have s0:=bV.right h (n:=3) (by simp);have g0:=bV.left h;have e0:=g0.pJ;have e1:=g0.SF;have e2:=g0.at2;unfold lI gT;have f0:=UA (t:=t) rel s0;simp only[Nat.add_zero,f0,e0,e1,e2]
def gY (t:dI) (p:Nat) (rel:Int):List bR:=[⟨1,0,6,0,0,0⟩,⟨2,0,4,6,0,0⟩,⟨1,0,3,0,0,16⟩,⟨3,13,4,3,0,0⟩,⟨7,0,4,0,0,((p+35:Nat):Int)⟩,⟨4,0,4,7,0,t.base+1⟩,⟨3,10,4,6,0,0⟩,⟨1,0,3,0,0,1⟩,⟨3,6,4,3,0,0⟩,⟨7,0,4,0,0,((p+32:Nat):Int)⟩]++jW t (p+10) rel++[⟨1,0,3,0,0,1⟩,⟨3,1,6,3,0,0⟩,⟨6,0,0,0,0,((p+1:Nat):Int)⟩]
theorem xN (t:dI) (p:Nat) (rel:Int):(gY t p rel).length=35:=by simp[gY,AP]
theorem Kt (rel:Nat) (h:bV V q (jq p)):lQ t V q rel=gY t p (V rel):=by
 unfold jq at h;have s0:=bV.right h (n:=3) (by simp);have g0:=bV.left h;have e0:=g0.pJ;have e1:=g0.SF;have e2:=g0.at2;unfold lQ gY;have f0:=U4 (t:=t) rel s0;simp only[Nat.add_zero,f0,e0,e1,e2]
def gV (t:dI) (p:Nat):List bR:=[⟨1,0,6,0,0,0⟩,⟨2,0,4,6,0,0⟩,⟨1,0,3,0,0,16⟩,⟨3,13,4,3,0,0⟩,⟨7,0,4,0,0,((p+17:Nat):Int)⟩,⟨4,0,4,7,0,t.base+6⟩,⟨3,10,4,6,0,0⟩,⟨1,0,3,0,0,1⟩,⟨3,6,4,3,0,0⟩,⟨7,0,4,0,0,((p+14:Nat):Int)⟩]++jg t (p+10)++[⟨1,0,3,0,0,1⟩,⟨3,1,6,3,0,0⟩,⟨6,0,0,0,0,((p+1:Nat):Int)⟩]
theorem xO (t:dI) (p:Nat):(gV t p).length=17:=by simp[gV,zY]
theorem Js (h:bV V q (jw p)):lF t V q=gV t p:=by
 unfold jw at h;have s0:=bV.right h (n:=3) (by simp);have g0:=bV.left h;have e0:=g0.pJ;have e1:=g0.SF;have e2:=g0.at2;unfold lF gV;have f0:=PZ (t:=t) s0;simp only[Nat.add_zero,f0,e0,e1,e2]
def gW (t:dI) (p:Nat):List bR:=[⟨1,0,6,0,0,0⟩,⟨2,0,4,6,0,0⟩,⟨1,0,3,0,0,16⟩,⟨3,13,4,3,0,0⟩,⟨7,0,4,0,0,((p+21:Nat):Int)⟩,⟨4,0,4,7,0,t.base+6⟩,⟨3,10,4,6,0,0⟩,⟨1,0,3,0,0,1⟩,⟨3,6,4,3,0,0⟩,⟨7,0,4,0,0,((p+18:Nat):Int)⟩]++jf t (p+10)++[⟨1,0,3,0,0,1⟩,⟨3,1,6,3,0,0⟩,⟨6,0,0,0,0,((p+1:Nat):Int)⟩]
theorem xZ (t:dI) (p:Nat):(gW t p).length=21:=by simp[gW,zQ]
theorem KT (h:bV V q (jo p)):lZ t V q=gW t p:=by
 unfold jo at h;have s0:=bV.right h (n:=3) (by simp);have g0:=bV.left h;have e0:=g0.pJ;have e1:=g0.SF;have e2:=g0.at2;unfold lZ gW;have f0:=Si (t:=t) s0;simp only[Nat.add_zero,f0,e0,e1,e2]
def kF (t:dI) (p:Nat) (rel:Int):List bR:=[⟨1,0,2,0,0,0⟩]++gU t (p+1)++[⟨5,0,7,2,0,t.base+7⟩]++gT t (p+16) rel
theorem BV (t:dI) (p:Nat) (rel:Int):(kF t p rel).length=53:=by simp[kF,xS,xW]
theorem Xi (rel:Nat) (h:bV V q (nN p)):rT t V q rel=kF t p (V rel):=by
 unfold nN at h;have s1:=bV.right h (n:=2) (by simp[kK]);have g1:=bV.left h;have s0:=bV.right g1 (n:=0) (by simp);rw[Nat.add_zero] at s0;have g0:=bV.left g1;unfold rT kF;have f0:=J8 (t:=t) s0;have f1:=JJ (t:=t) rel s1;simp only[Nat.add_zero,f0,f1]
def iK (t:dI) (p:Nat) (rel:Int):List bR:=gY t (p) rel
theorem yR (t:dI) (p:Nat) (rel:Int):(iK t p rel).length=35:=by simp[iK,xN]
theorem Mj (rel:Nat) (h:bV V q (j3 p)):ng t V q rel=iK t p (V rel):=by
 unfold j3 at h;have s0:=bV.right h (n:=0) (by simp);rw[Nat.add_zero] at s0;have g0:=bV.left h;unfold ng iK;have f0:=Kt (t:=t) rel s0;simp only[Nat.add_zero,f0]
def jc (t:dI) (p:Nat) (abort:Int):List bR:=[⟨4,0,0,7,0,t.base+2⟩,⟨7,0,0,0,0,((p+157:Nat):Int)⟩]++kF t (p+2) ((p+135:Nat):Int)++[⟨1,0,1,0,0,1⟩,⟨9,0,7,1,0,t.words+1⟩,⟨1,0,4,0,0,1⟩,⟨3,1,1,4,0,0⟩,⟨5,0,7,1,0,t.base+7⟩,⟨2,0,2,1,0,0⟩,⟨1,0,4,0,0,2305843009213693952⟩,⟨3,13,2,4,0,0⟩]++dz t (p+63) 2 ((p+66:Nat):Int)++[⟨13,0,0,0,0,7⟩]++iK t (p+66) ((p+135:Nat):Int)++[⟨4,0,1,7,0,t.base+7⟩,⟨1,0,2,0,0,1⟩,⟨12,0,1,2,0,7⟩]++gZ t (p+104)++[⟨4,0,1,7,0,t.base+7⟩,⟨3,1,1,1,0,0⟩]++gV t (p+117)++[⟨6,0,0,0,0,((p+159:Nat):Int)⟩]++gW t (p+135)++[⟨6,0,0,0,0,abort⟩,⟨4,0,1,7,0,t.base+0⟩,⟨12,0,1,7,0,7⟩]++lW t (p+159)
theorem mR (t:dI) (p:Nat) (abort:Int):(jc t p abort).length=169:=by simp[jc,xQ,BV,xZ,xO,Dv,kz,yR]
theorem VI (abort:Nat) (h:bV V q (lY p)):p9 t V q abort=jc t p (V abort):=by
 unfold lY at h;have s6:=bV.right h (n:=26) (by simp[gG,bB,gN,iA,jF,kP]);have g6:=bV.left h;have s5:=bV.right g6 (n:=23) (by simp[gG,bB,gN,iA,jF]);have g5:=bV.left g6;have s4:=bV.right g5 (n:=20) (by simp[gG,bB,gN,iA]);have g4:=bV.left g5;have s3:=bV.right g4 (n:=18) (by simp[gG,bB,gN]);have g3:=bV.left g4;have s2:=bV.right g3 (n:=12) (by simp[gG,bB]);have g2:=bV.left g3;have s1:=bV.right g2 (n:=11) (by simp[gG]);have g1:=bV.left g2;have s0:=bV.right g1 (n:=4) (by simp);have g0:=bV.left g1;have e0:=g0.pJ;have e1:=g0.SF;have e2:=g0.at2;have e3:=g0.at3;unfold p9 jc;have f0:=Xi (t:=t) q s0;have f1:=oz (t:=t) 2 (q+3) s1;have f2:=Mj (t:=t) q s2;have f3:=JI (t:=t) s3;have f4:=Js (t:=t) s4;have f5:=KT (t:=t) s5;have f6:=abJ (t:=t) s6;simp only[Nat.add_zero,f0,f1,f2,f3,f4,f5,f6,e0,e1,e2,e3]
def jQ (t:dI) (p:Nat):List bR:=[⟨4,0,1,7,0,t.base+4⟩,⟨5,0,7,1,0,t.base+5⟩,⟨5,0,7,7,0,t.base+1⟩,⟨5,0,7,7,0,t.base+2⟩,⟨5,0,7,7,0,t.base+3⟩,⟨5,0,7,7,0,t.base+6⟩,⟨15,0,0,7,0,t.words+1⟩,⟨5,0,7,0,0,t.base+0⟩]
theorem AL (t:dI) (p:Nat):(jQ t p).length=8:=by simp[jQ]
theorem U6 (h:bV V q (kJ p)):pM t V q=jQ t p:=by
 unfold pM jQ;rfl
def jV (t:dI) (p:Nat) (oJ:Int) (mY:Int) (ov:Int) (abort:Int):List bR:=[⟨1,0,1,0,0,mY⟩]++lH t (p+1) abort++[⟨4,0,1,7,0,t.sum⟩,⟨3,1,1,2,0,0⟩,⟨5,0,7,1,0,t.sum⟩]
theorem Ap (t:dI) (p:Nat) (oJ:Int) (mY:Int) (ov:Int) (abort:Int):(jV t p oJ mY ov abort).length=48:=by simp[jV,EC]
theorem U5 (oJ:Int) (mY:Int) (ov:Int) (abort:Nat) (h:bV V q (lV p)):qf t V q oJ mY ov abort=jV t p oJ mY ov (V abort):=by
 unfold lV at h;have s0:=bV.right h (n:=0) (by simp);rw[Nat.add_zero] at s0;have g0:=bV.left h;unfold qf jV;have f0:=abv (t:=t) abort s0;simp only[Nat.add_zero,f0]
def jY (t:dI) (p:Nat) (oJ:Int) (mY:Int) (ov:Int) (abort:Int):List bR:=[⟨1,0,1,0,0,mY⟩,⟨4,0,2,7,0,t.sum⟩,⟨1,0,3,0,0,ov⟩,⟨3,1,2,3,0,0⟩]++kI t (p+4)
theorem A_ (t:dI) (p:Nat) (oJ:Int) (mY:Int) (ov:Int) (abort:Int):(jY t p oJ mY ov abort).length=33:=by simp[jY,Ce]
theorem U2 (oJ:Int) (mY:Int) (ov:Int) (abort:Nat) (h:bV V q (lT p)):pY t V q oJ mY ov abort=jY t p oJ mY ov (V abort):=by
 unfold lT at h;have s0:=bV.right h (n:=0) (by simp);rw[Nat.add_zero] at s0;have g0:=bV.left h;unfold pY jY;have f0:=Yw (t:=t) s0;simp only[Nat.add_zero,f0]
end
section
variable {V:Nat->Int} {c c0 c1 c2:Cd} {p q n m:Nat} {ls:List Int} {R:List bR} {t:dI}
def bI (n:Nat) (c c':Cd):Prop:=c'.over=false->c.over=false/\c'.ops.length=c.ops.length+n/\(0<n->c.ops.length+n<=262144)
theorem bI.put (o:bR):bI 1 c (c.put o):=by
 intro h;unfold Cd.put at h⊢;split at h
 ·cases h
 ·rename_i hl;rw[if_neg hl];exact⟨h,by simp,fun _=>by omega⟩
theorem bI.Pp (h:c1.over=c.over) (hl:c1.ops=c.ops):bI 0 c c1:=fun ho=>⟨by rw[<-h];exact ho,by rw[hl];rfl,fun h=>by omega⟩
theorem bI.label:bI 0 c c.label:=.Pp rfl rfl
theorem bI.here (l:Nat):bI 0 c (c.here l):=.Pp rfl rfl
theorem bI.mark (l:Nat):bI 0 c (c.mark l):=.Pp rfl rfl
theorem bI.trans (h:bI n c c1) (g:bI m c1 c2):bI (n+m) c c2:=fun ho=>by
 obtain⟨g1,g2,g3⟩:=g ho;obtain⟨h1,h2,h3⟩:=h g1;refine⟨h1,by omega,fun hp=>?_⟩;rcases Nat.eq_zero_or_pos m with e|e
 ·have:=h3 (by omega);omega
 ·have:=g3 e;omega
theorem bI.jump (l:Nat):bI 1 c (c.jump l):=(bI.mark l).trans (bI.put _)
theorem bI.zero (r:Int) (l:Nat):bI 1 c (c.zero r l):=(bI.mark l).trans (bI.put _)
theorem bI.refl:bI 0 c c:=.Pp rfl rfl
theorem bI.pu {o:bR} (h:bI n c c1):bI (n+1) c (c1.put o):=h.trans (.put o)
theorem bI.set {r k:Int} (h:bI n c c1):bI (n+1) c (c1.set r k):=h.trans (.put _)
theorem bI.move {r k:Int} (h:bI n c c1):bI (n+1) c (c1.move r k):=h.trans (.put _)
theorem bI.calc {q r k:Int} (h:bI n c c1):bI (n+1) c (c1.calc q r k):=h.trans (.put _)
theorem bI.with_ {q r k x:Int} (h:bI n c c1):bI (n+2) c (c1.with_ q r k x):=h.trans ((bI.put _).trans (.put _))
theorem bI.load {x y z:Int} (h:bI n c c1):bI (n+1) c (c1.load x y z):=h.trans (.put _)
theorem bI.store {x y z:Int} (h:bI n c c1):bI (n+1) c (c1.store x y z):=h.trans (.put _)
theorem bI.note {x y z:Int} (h:bI n c c1):bI (n+1) c (c1.note x y z):=h.trans (.put _)
theorem bI.trap {x:Int} (h:bI n c c1):bI (n+1) c (c1.trap x):=h.trans (.put _)
theorem bI.out {x:Int} (h:bI n c c1):bI (n+1) c (c1.out x):=h.trans (.put _)
theorem bI.halt (h:bI n c c1):bI (n+1) c (c1.halt):=h.trans (.put _)
theorem bI.get {x y:Int} (h:bI n c c1):bI (n+1) c (c1.get t x y):=h.trans (.put _)
theorem bI.qC {x y:Int} (h:bI n c c1):bI (n+1) c (c1.qC t x y):=h.trans (.put _)
theorem bI.la (h:bI n c c1):bI n c c1.label:=h.trans .label
theorem bI.he {l:Nat} (h:bI n c c1):bI n c (c1.here l):=h.trans (.here l)
theorem bI.ju {l:Nat} (h:bI n c c1):bI (n+1) c (c1.jump l):=h.trans (.jump l)
theorem bI.ze {r:Int} {l:Nat} (h:bI n c c1):bI (n+1) c (c1.zero r l):=h.trans (.zero r l)
def Dj (o:bR):Prop:=dR o=true/\Fj o
def bF (l:List bR):Prop:=∀o∈l,Dj o
theorem bF.nil:bF []:=fun o h=>by cases h
theorem bF.cons {o:bR} {l:List bR} (h:Dj o) (g:bF l):bF (o::l):=fun x hx=>by
 rcases List.mem_cons.1 hx with rfl|hx
 ·exact h
 ·exact g x hx
theorem bF.app {l r:List bR} (h:bF l) (g:bF r):bF (l++r):=fun x hx=>by
 rcases List.mem_append.1 hx with hx|hx
 ·exact h x hx
 ·exact g x hx
def In64 (x:Int):Prop:= -9223372036854775808<=x/\x<=9223372036854775807
def fq (x:Int):Prop:=0<=x/\x<=262144
def Tc (r:Int):Prop:=0<=r/\r<8
theorem Pg {k bD a b c n:Int} (h:dR ⟨k,bD,a,b,c,n⟩=true) (hk:0<=k/\k<256/\0<=bD/\bD<256/\0<=a/\a<256/\0<=b/\b<256/\0<=c/\c<256/\In64 n):Dj ⟨k,bD,a,b,c,n⟩:=
 ⟨h,⟨hk.1,hk.2.1⟩,⟨hk.2.2.1,hk.2.2.2.1⟩,⟨hk.2.2.2.2.1,hk.2.2.2.2.2.1⟩,⟨hk.2.2.2.2.2.2.1,hk.2.2.2.2.2.2.2.1⟩,⟨hk.2.2.2.2.2.2.2.2.1,hk.2.2.2.2.2.2.2.2.2.1⟩,hk.2.2.2.2.2.2.2.2.2.2⟩
def s1 (k a b:Int):Bool:=decide (0<=a/\a<8/\0<=b/\b<8) && (k==1 && b==0||k==4||k==5||k==9||k==15)
theorem age {k a b n:Int} (hs:s1 k a b=true) (hn:In64 n):Dj ⟨k,0,a,b,0,n⟩:=by
 unfold s1 at hs;simp only[Bool.and_eq_true,Bool.or_eq_true,decide_eq_true_eq,beq_iff_eq] at hs;obtain⟨⟨h1,h2,h3,h4⟩,h5⟩:=hs;unfold In64 at hn;refine Pg ?_ ?_
 ·rcases h5 with(((⟨rfl,rfl⟩|rfl)|rfl)|rfl)|rfl<;>simp[dR,eZ,fm,pV,p_]<;>omega
 ·unfold In64;rcases h5 with(((⟨rfl,rfl⟩|rfl)|rfl)|rfl)|rfl<;>omega
def s2 (k a:Int):Bool:=decide (0<=a/\a<8) && (k==6 && a==0||k==7)
theorem afg {k a n:Int} (hs:s2 k a=true) (hn:fq n):Dj ⟨k,0,a,0,0,n⟩:=by
 unfold s2 at hs;simp only[Bool.and_eq_true,Bool.or_eq_true,decide_eq_true_eq,beq_iff_eq] at hs;obtain⟨⟨h1,h2⟩,h5⟩:=hs;unfold fq at hn;refine Pg ?_ ?_
 ·rcases h5 with⟨rfl,rfl⟩|rfl<;>simp[dR,eZ,fm,pV,p_]<;>omega
 ·unfold In64;rcases h5 with⟨rfl,rfl⟩|rfl<;>omega
theorem bF.nu {k a b n:Int} {l:List bR} (h:bF l) (hs:s1 k a b=true:=by decide) (hn:In64 n:=by unfold In64;omega):bF (⟨k,0,a,b,0,n⟩::l):=.cons (age hs hn) h
theorem bF.ju {k a n:Int} {l:List bR} (h:bF l) (hs:s2 k a=true:=by decide) (hn:fq n:=by unfold fq;omega):bF (⟨k,0,a,0,0,n⟩::l):=.cons (afg hs hn) h
theorem bF.st {k bD a b c n:Int} {l:List bR} (h:bF l) (hs:(dR ⟨k,bD,a,b,c,n⟩ && decide (0<=k/\k<256/\0<=bD/\bD<256/\0<=a/\a<256/\0<=b/\b<256/\0<=c/\c<256/\ -9223372036854775808<=n/\n<=9223372036854775807))=true:=by decide):bF (⟨k,bD,a,b,c,n⟩::l):=by
 simp only[Bool.and_eq_true,decide_eq_true_eq] at hs;exact .cons (Pg hs.1 hs.2) h
theorem fD.u (h:fD t):(0<=t.words/\t.words<=262144)/\(0<=t.log/\t.log<=262144)/\(0<=t.prints/\t.prints<=262144)/\(0<=t.arena/\t.arena<=262144)/\(0<=t.base/\t.base<=262144)/\(0<=t.th/\t.th<=4)/\(0<=t.sum/\t.sum<=262144):=⟨h.words,h.log,h.prints,h.arena,h.base,h.th,h.sum⟩
theorem Bd (found:Nat):bI 12 c0 (c0.search t found):=by
 unfold Cd.search;dsimp only
 with_reducible exact bI.refl.la.la.get.he.ze.with_.move.calc.with_.load.calc.ze.ju.he
theorem F5 {found:Int} (ok:fD t) (hp:p+12<=262144) (Z4:fq found):bF (gK t p found):=by
 have q:=ok.u;have aa3:=Z4;unfold fq at aa3;unfold gK;exact(.nu (.ju (.nu (.st (.st (.st (.nu (.st (.nu (.st (.ju (.ju .nil))))))))))))
theorem jR (r:Int) (l:Nat):bI 2 c0 (c0.unless t r l):=by
 unfold Cd.unless;dsimp only
 with_reducible exact bI.refl.la.ze.ju.he
theorem mF {r:Int} {l:Int} (ok:fD t) (hp:p+2<=262144) (hr:Tc r) (hl:fq l):bF (dz t p r l):=by
 have q:=ok.u;have gl:=hl;unfold fq at gl;unfold dz;exact(.cons (Pg (by unfold Tc at hr;simp[dR,eZ,fm,pV,p_];omega) (by unfold Tc at hr;unfold In64;omega)) (.ju .nil))
theorem wT:bI 3 c0 (c0.lock t):=by
 unfold Cd.lock;dsimp only
 with_reducible exact bI.refl.move.with_
theorem Co (ok:fD t) (hp:p+3<=262144):bF (jr t p):=by
 have q:=ok.u;unfold jr;exact(.st (.nu (.st .nil)))
theorem DL:bI 3 c0 (c0.old t):=by
 unfold Cd.old;dsimp only
 with_reducible exact bI.refl.move.with_
theorem MJ (ok:fD t) (hp:p+3<=262144):bF (kW t p):=by
 have q:=ok.u;unfold kW;exact(.st (.nu (.st .nil)))
theorem NQ:bI 2 c0 (c0.start t):=by
 unfold Cd.start;dsimp only
 with_reducible exact bI.refl.set.qC
theorem VU (ok:fD t) (hp:p+2<=262144):bF (lN t p):=by
 have q:=ok.u;unfold lN;exact(.nu (.nu .nil))
theorem Om:bI 3 c0 (c0.abort t):=by
 unfold Cd.abort;dsimp only
 with_reducible exact bI.refl.note.get.qC
theorem VP (ok:fD t) (hp:p+3<=262144):bF (lX t p):=by
 have q:=ok.u;unfold lX;exact(.st (.nu (.nu .nil)))
theorem Sc:bI 10 c0 (c0.tell t):=by
 unfold Cd.tell;dsimp only
 with_reducible exact bI.refl.la.la.set.get.he.ze.load.out.with_.with_.ju.he
theorem Yf (ok:fD t) (hp:p+10<=262144):bF (lW t p):=by
 have q:=ok.u;unfold lW;exact(.nu (.nu (.ju (.nu (.st (.nu (.st (.nu (.st (.ju .nil))))))))))
theorem Qe (abort:Nat):bI 44 c0 (c0.read t abort):=by
 unfold Cd.read;dsimp only
 with_reducible exact((((bI.refl.la.la.trans (Bd _)).move.with_.move.with_.load.move.with_.trans (jR _ _)).move.with_.get.calc.trans (jR _ _)).load.load.calc.trans (jR _ _)).set.calc.get.calc.qC.ju.he.load.he.note
theorem Xp {abort:Int} (ok:fD t) (hp:p+44<=262144) (A8:fq abort):bF (lH t p abort):=by
 have q:=ok.u;have Nq:=A8;unfold fq at Nq;unfold lH;exact(bF.app (bF.app (bF.app (bF.app (bF.app (bF.app (bF.app (F5 ok (by omega) (by unfold fq;omega)) (.st (.nu (.st (.st (.nu (.st (.nu (.st (.nu (.st .nil))))))))))) (mF ok (by omega) ⟨by decide,by decide⟩ A8)) (.st (.nu (.st (.nu (.st .nil)))))) (mF ok (by omega) ⟨by decide,by decide⟩ A8)) (.nu (.nu (.st .nil)))) (mF ok (by omega) ⟨by decide,by decide⟩ A8)) (.nu (.st (.nu (.st (.nu (.ju (.nu (.st .nil)))))))))
theorem Ob:bI 29 c0 (c0.write t):=by
 unfold Cd.write;dsimp only
 with_reducible exact((bI.refl.la.la.la.trans (Bd _)).get.move.with_.trans (jR _ _)).trap.he.move.calc.with_.store.with_.qC.he.store.he.note
theorem Vv (ok:fD t) (hp:p+29<=262144):bF (kI t p):=by
 have q:=ok.u;unfold kI;exact(bF.app (bF.app (bF.app (F5 ok (by omega) (by unfold fq;omega)) (.nu (.st (.nu (.st .nil))))) (mF ok (by omega) ⟨by decide,by decide⟩ (by unfold fq;omega))) (.st (.st (.st (.nu (.st (.nu (.nu (.st (.nu (.nu (.st .nil))))))))))))
theorem K5:bI 6 c0 (c0.En t):=by
 unfold Cd.En;dsimp only
 with_reducible exact bI.refl.load.with_.set.calc.calc
theorem Qi (ok:fD t) (hp:p+6<=262144):bF (jS t p):=by
 have q:=ok.u;unfold jS;exact(.nu (.nu (.st (.nu (.st (.st .nil))))))
theorem IK:bI 3 c0 (c0.Ac t):=by
 unfold Cd.Ac;dsimp only
 with_reducible exact bI.refl.load.load.store
theorem NS (ok:fD t) (hp:p+3<=262144):bF (je t p):=by
 have q:=ok.u;unfold je;exact(.nu (.nu (.nu .nil)))
theorem GI:bI 4 c0 (c0.y_ t):=by
 unfold Cd.y_;dsimp only
 with_reducible exact(bI.refl.trans wT).store
theorem MH (ok:fD t) (hp:p+4<=262144):bF (jg t p):=by
 have q:=ok.u;unfold jg;exact(bF.app (Co ok (by omega)) (.nu .nil))
theorem G5:bI 8 c0 (c0.za t):=by
 unfold Cd.za;dsimp only
 with_reducible exact((bI.refl.trans DL).load.trans wT).store
theorem Oa (ok:fD t) (hp:p+8<=262144):bF (jf t p):=by
 have q:=ok.u;unfold jf;exact(bF.app (bF.app (bF.app (MJ ok (by omega)) (.nu .nil)) (Co ok (by omega))) (.nu .nil))
theorem JX (rel:Nat):bI 24 c0 (c0.Dt t rel):=by
 unfold Cd.Dt;dsimp only
 with_reducible exact((((bI.refl.trans wT).load.move.set.calc.trans (jR _ _)).move.set.pu.calc.trans (jR _ _)).trans DL).store.set.calc.get.calc.qC
theorem Ql {rel:Int} (ok:fD t) (hp:p+24<=262144) (hrel:fq rel):bF (jU t p rel):=by
 have q:=ok.u;have Dr:=hrel;unfold fq at Dr;unfold jU;exact(bF.app (bF.app (bF.app (bF.app (bF.app (bF.app (Co ok (by omega)) (.nu (.st (.nu (.st .nil))))) (mF ok (by omega) ⟨by decide,by decide⟩ hrel)) (.st (.nu (.st (.st .nil))))) (mF ok (by omega) ⟨by decide,by decide⟩ hrel)) (MJ ok (by omega))) (.nu (.nu (.st (.nu (.st (.nu .nil)))))))
theorem Jk (rel:Nat):bI 22 c0 (c0.Du t rel):=by
 unfold Cd.Du;dsimp only
 with_reducible exact((((bI.refl.la.trans wT).load.move.with_.ze.with_.trans (jR _ _)).trans DL).load.he.with_.get.calc.trans (jR _ _))
theorem P7 {rel:Int} (ok:fD t) (hp:p+22<=262144) (hrel:fq rel):bF (jW t p rel):=by
 have q:=ok.u;have Dr:=hrel;unfold fq at Dr;unfold jW;exact(bF.app (bF.app (bF.app (bF.app (bF.app (Co ok (by omega)) (.nu (.st (.nu (.st (.ju (.nu (.st .nil)))))))) (mF ok (by omega) ⟨by decide,by decide⟩ hrel)) (MJ ok (by omega))) (.nu (.nu (.st (.nu (.st .nil)))))) (mF ok (by omega) ⟨by decide,by decide⟩ hrel))
theorem D_:bI 14 c0 (c0.uI t):=by
 unfold Cd.uI;dsimp only
 with_reducible exact(bI.refl.la.la.get.set.he.ze.trans K5).with_.with_.ju.he
theorem IJ (ok:fD t) (hp:p+14<=262144):bF (gU t p):=by
 have q:=ok.u;unfold gU;exact(bF.app (bF.app (.nu (.nu (.ju .nil))) (Qi ok (by omega))) (.nu (.st (.nu (.st (.ju .nil))))))
theorem Dn:bI 11 c0 (c0.uo t):=by
 unfold Cd.uo;dsimp only
 with_reducible exact(bI.refl.la.la.get.set.he.ze.trans IK).with_.with_.ju.he
theorem IW (ok:fD t) (hp:p+11<=262144):bF (gZ t p):=by
 have q:=ok.u;unfold gZ;exact(bF.app (bF.app (.nu (.nu (.ju .nil))) (NS ok (by omega))) (.nu (.st (.nu (.st (.ju .nil))))))
theorem Dk (rel:Nat):bI 37 c0 (c0.ug t rel):=by
 unfold Cd.ug;dsimp only
 with_reducible exact(bI.refl.la.la.la.set.he.move.with_.ze.get.calc.with_.ze.trans (JX _)).he.with_.ju.he
theorem IE {rel:Int} (ok:fD t) (hp:p+37<=262144) (hrel:fq rel):bF (gT t p rel):=by
 have q:=ok.u;have Dr:=hrel;unfold fq at Dr;unfold gT;exact(bF.app (bF.app (.nu (.st (.nu (.st (.ju (.nu (.st (.nu (.st (.ju .nil)))))))))) (Ql ok (by omega) hrel)) (.nu (.st (.ju .nil))))
theorem Ee (rel:Nat):bI 35 c0 (c0.uu t rel):=by
 unfold Cd.uu;dsimp only
 with_reducible exact(bI.refl.la.la.la.set.he.move.with_.ze.get.calc.with_.ze.trans (Jk _)).he.with_.ju.he
theorem G9 {rel:Int} (ok:fD t) (hp:p+35<=262144) (hrel:fq rel):bF (gY t p rel):=by
 have q:=ok.u;have Dr:=hrel;unfold fq at Dr;unfold gY;exact(bF.app (bF.app (.nu (.st (.nu (.st (.ju (.nu (.st (.nu (.st (.ju .nil)))))))))) (P7 ok (by omega) hrel)) (.nu (.st (.ju .nil))))
theorem Eb:bI 17 c0 (c0.uH t):=by
 unfold Cd.uH;dsimp only
 with_reducible exact(bI.refl.la.la.la.set.he.move.with_.ze.get.calc.with_.ze.trans GI).he.with_.ju.he
theorem Ib (ok:fD t) (hp:p+17<=262144):bF (gV t p):=by
 have q:=ok.u;unfold gV;exact(bF.app (bF.app (.nu (.st (.nu (.st (.ju (.nu (.st (.nu (.st (.ju .nil)))))))))) (MH ok (by omega))) (.nu (.st (.ju .nil))))
theorem Ep:bI 21 c0 (c0.tV t):=by
 unfold Cd.tV;dsimp only
 with_reducible exact(bI.refl.la.la.la.set.he.move.with_.ze.get.calc.with_.ze.trans G5).he.with_.ju.he
theorem I4 (ok:fD t) (hp:p+21<=262144):bF (gW t p):=by
 have q:=ok.u;unfold gW;exact(bF.app (bF.app (.nu (.st (.nu (.st (.ju (.nu (.st (.nu (.st (.ju .nil)))))))))) (Oa ok (by omega))) (.nu (.st (.ju .nil))))
theorem Nl (rel:Nat):bI 53 c0 (c0.aR t rel):=by
 unfold Cd.aR;dsimp only
 with_reducible exact((bI.refl.set.trans D_).qC.trans (Dk _))
theorem Tt {rel:Int} (ok:fD t) (hp:p+53<=262144) (hrel:fq rel):bF (kF t p rel):=by
 have q:=ok.u;have Dr:=hrel;unfold fq at Dr;unfold kF;exact(bF.app (bF.app (bF.app (.nu .nil) (IJ ok (by omega))) (.nu .nil)) (IE ok (by omega) hrel))
theorem Fw (rel:Nat):bI 35 c0 (c0.validate t rel):=by
 unfold Cd.validate;dsimp only
 with_reducible exact(bI.refl.trans (Ee _))
theorem Jq {rel:Int} (ok:fD t) (hp:p+35<=262144) (hrel:fq rel):bF (iK t p rel):=by
 have q:=ok.u;have Dr:=hrel;unfold fq at Dr;unfold iK;exact(G9 ok (by omega) hrel)
theorem KN (abort:Nat):bI 169 c0 (c0.aQ t abort):=by
 unfold Cd.aQ;dsimp only
 with_reducible exact(((((((bI.refl.la.la.la.la.get.ze.trans (Nl _)).set.pu.with_.qC.move.with_.trans (jR _ _)).trap.he.trans (Fw _)).get.set.note.trans Dn).get.calc.trans Eb).ju.he.trans Ep).ju.he.get.note.he.trans Sc)
theorem RH {abort:Int} (ok:fD t) (hp:p+169<=262144) (A8:fq abort):bF (jc t p abort):=by
 have q:=ok.u;have Nq:=A8;unfold fq at Nq;unfold jc;exact(bF.app (bF.app (bF.app (bF.app (bF.app (bF.app (bF.app (bF.app (bF.app (bF.app (bF.app (bF.app (bF.app (.nu (.ju .nil)) (Tt ok (by omega) (by unfold fq;omega))) (.nu (.nu (.nu (.st (.nu (.st (.nu (.st .nil))))))))) (mF ok (by omega) ⟨by decide,by decide⟩ (by unfold fq;omega))) (.st .nil)) (Jq ok (by omega) (by unfold fq;omega))) (.nu (.nu (.st .nil)))) (IW ok (by omega))) (.nu (.st .nil))) (Ib ok (by omega))) (.ju .nil)) (I4 ok (by omega))) (.ju (.nu (.st .nil)))) (Yf ok (by omega)))
theorem J5:bI 8 c0 (c0.Al t):=by
 unfold Cd.Al;dsimp only
 with_reducible exact bI.refl.get.qC.qC.qC.qC.qC.pu.qC
theorem P_ (ok:fD t) (hp:p+8<=262144):bF (jQ t p):=by
 have q:=ok.u;unfold jQ;exact(.nu (.nu (.nu (.nu (.nu (.nu (.nu (.nu .nil))))))))
theorem JE (oJ:Int) (mY:Int) (ov:Int) (abort:Nat):bI 48 c0 (c0.AR t oJ mY ov abort):=by
 unfold Cd.AR;dsimp only
 with_reducible exact(bI.refl.set.trans (Qe _)).load.calc.store
theorem K4 (oJ:Int) (mY:Int) (ov:Int) (abort:Nat):bI 33 c0 (c0.AA t oJ mY ov abort):=by
 unfold Cd.AA;dsimp only
 with_reducible exact(bI.refl.set.load.with_.trans Ob)
end
section
variable {V:Nat->Int} {c c0 c1 c2:Cd} {p q n m:Nat} {ls:List Int} {R:List bR} {t:dI}
def oQ (o:Tx):Nat:=if o.kind=2 then 48 else 33
def K_ (o:Tx):Nat:=if o.kind=2 then 7 else 6
def uf (t:dI) (V:Nat->Int) (q:Nat) (o:Tx) (abort:Nat):List bR:=if o.kind=2 then qf t V q o.th o.at_ o.v abort else pY t V q o.th o.at_ o.v abort
def o7 (p:Nat) (o:Tx):List Int:=if o.kind=2 then lV p else lT p
def lK (t:dI) (p:Nat) (o:Tx) (A:Int):List bR:=if o.kind=2 then jV t p o.th o.at_ o.v A else jY t p o.th o.at_ o.v A
theorem sZ (p:Nat) (o:Tx):(o7 p o).length=K_ o:=by unfold o7 K_;split;exact BZ p;exact Ch p
theorem wK (t:dI) (p:Nat) (o:Tx) (A:Int):(lK t p o A).length=oQ o:=by unfold lK oQ;split;exact Ap _ _ _ _ _ _;exact A_ _ _ _ _ _ _
theorem Xj (h:At V c0 p ls R) (o:Tx) (abort:Nat) (hp:p+oQ o<=262144):At V (c0.once t o abort) (p+oQ o) (ls++o7 p o) (R++uf t V ls.length o abort):=by
 unfold Cd.once oQ o7 uf at*;split
 ·rename_i hk;rw[if_pos hk] at hp;exact Q3 h o.th o.at_ o.v abort hp
 ·rename_i hk;rw[if_neg hk] at hp;exact Rb h o.th o.at_ o.v abort hp
theorem aah (o:Tx) (abort:Nat) (h:bV V q (o7 p o)):uf t V q o abort=lK t p o (V abort):=by
 unfold uf lK o7 at*;split
 ·rename_i hk;rw[if_pos hk] at h;exact U5 _ _ _ _ h
 ·rename_i hk;rw[if_neg hk] at h;exact U2 _ _ _ _ h
theorem Qd (o:Tx) (abort:Nat):bI (oQ o) c0 (c0.once t o abort):=by
 unfold Cd.once oQ;split
 ·exact JE _ _ _ _
 ·exact K4 _ _ _ _
def Ab (o:Tx):Prop:=In64 o.at_/\In64 o.v
theorem X0 {o:Tx} {A:Int} (ok:fD t) (hp:p+oQ o<=262144) (hw:Ab o) (hA:fq A):bF (lK t p o A):=by
 unfold lK oQ at*;split
 ·rename_i hk;rw[if_pos hk] at hp;unfold jV;obtain⟨⟨w1,w2⟩,⟨l1,l2⟩,⟨r1,r2⟩,⟨a1,a2⟩,⟨b1,b2⟩,⟨t1,t2⟩,⟨s1,s2⟩⟩:=id ok;exact bF.app (bF.app (.nu .nil (hn:=hw.1)) (Xp ok (by omega) hA)) (.nu (.st (.nu .nil)))
 ·rename_i hk;rw[if_neg hk] at hp;unfold jY;obtain⟨⟨w1,w2⟩,⟨l1,l2⟩,⟨r1,r2⟩,⟨a1,a2⟩,⟨b1,b2⟩,⟨t1,t2⟩,⟨s1,s2⟩⟩:=id ok;exact bF.app (.nu (.nu (.nu (.st .nil) (hn:=hw.2))) (hn:=hw.1)) (Vv ok (by omega))
def aV (l:List Tx):Nat:=(l.map oQ).sum
def rU (l:List Tx):Nat:=(l.map K_).sum
theorem l_ (o:Tx) (l:List Tx):aV (o::l)=oQ o+aV l:=by simp[aV]
theorem JH (o:Tx) (l:List Tx):rU (o::l)=K_ o+rU l:=by simp[rU]
def rQ (t:dI) (V:Nat->Int):Nat->List Tx->Nat->List bR
 |_,[],_=>[]
 |q,o::l,A=>uf t V q o A++rQ t V (q+K_ o) l A
def ou:Nat->List Tx->List Int
 |_,[]=>[]
 |p,o::l=>o7 p o++ou (p+oQ o) l
def mQ (t:dI):Nat->List Tx->Int->List bR
 |_,[],_=>[]
 |p,o::l,A=>lK t p o A++mQ t (p+oQ o) l A
theorem uS (l:List Tx):∀p,(ou p l).length=rU l:=by
 induction l with
 |nil=>intro p;rfl
 |cons o l ih=>intro p;rw[ou,List.length_append,sZ,ih,JH]
theorem nD (t:dI) (A:Int) (l:List Tx):∀p,(mQ t p l A).length=aV l:=by
 induction l with
 |nil=>intro p;rfl
 |cons o l ih=>intro p;rw[mQ,List.length_append,wK,ih,l_]
theorem abD (abort:Nat) (l:List Tx):∀{c0:Cd} {p:Nat} {ls:List Int} {R:List bR},At V c0 p ls R->p+aV l<=262144->At V (l.foldl (fun c o=>c.once t o abort) c0) (p+aV l) (ls++ou p l) (R++rQ t V ls.length l abort):=by
 induction l with
 |nil=>intro c0 p ls R h _;simpa [aV,ou,rQ] using h
 |cons o l ih=>
  intro c0 p ls R h hp;rw[l_] at hp;have h1:=Xj (t:=t) h o abort (by omega);have h2:=ih h1 (by omega);rw[List.foldl_cons];refine h2.cast (by rw[l_];omega) (by rw[ou,List.append_assoc]) ?_;rw[rQ,List.append_assoc,List.length_append,sZ]
theorem adJ (abort:Nat) (l:List Tx):∀{p q:Nat},bV V q (ou p l)->rQ t V q l abort=mQ t p l (V abort):=by
 induction l with
 |nil=>intro p q _;rfl
 |cons o l ih=>
  intro p q h;rw[ou] at h;rw[rQ,mQ,aah o abort h.left,ih (h.right (sZ p o))]
theorem SN (abort:Nat) (l:List Tx):∀{c0:Cd},bI (aV l) c0 (l.foldl (fun c o=>c.once t o abort) c0):=by
 induction l with
 |nil=>intro c0;exact bI.refl
 |cons o l ih=>intro c0;rw[l_,List.foldl_cons];exact(Qd o abort).trans ih
theorem abB {A:Int} (ok:fD t) (hA:fq A) (l:List Tx):∀{p:Nat},p+aV l<=262144->(∀o∈l,Ab o)->bF (mQ t p l A):=by
 induction l with
 |nil=>intro p _ _;exact bF.nil
 |cons o l ih=>
  intro p hp hw;rw[l_] at hp;exact(X0 ok (by omega) (hw o List.mem_cons_self) hA).app (ih (by omega) (fun x hx=>hw x (List.mem_cons_of_mem _ hx)))
def qB (l:List Tx):Nat:=185+aV l
def Ug (l:List Tx):Nat:=31+rU l
def wG (t:dI) (V:Nat->Int) (q:Nat) (l:List Tx):List bR:=
 pM t V (q+3)++[⟨5,0,7,7,0,t.sum⟩]++rQ t V (q+3) l (q+1)++p9 t V (q+3+rU l) (q+1)++[⟨4,0,1,7,0,t.sum⟩,⟨11,0,1,0,0,0⟩,⟨6,0,0,0,0,V (q+2)⟩]++qY t V (q+31+rU l)++[⟨6,0,0,0,0,V q⟩]
def qU (p:Nat) (l:List Tx):List Int:=[(p:Int),((p+181+aV l:Nat):Int),((p+185+aV l:Nat):Int)]++(ou (p+9) l++lY (p+9+aV l))
def kX (t:dI) (p:Nat) (l:List Tx):List bR:=
 jQ t p++[⟨5,0,7,7,0,t.sum⟩]++mQ t (p+9) l ((p+181+aV l:Nat):Int)++jc t (p+9+aV l) ((p+181+aV l:Nat):Int)++[⟨4,0,1,7,0,t.sum⟩,⟨11,0,1,0,0,0⟩,⟨6,0,0,0,0,((p+185+aV l:Nat):Int)⟩]++lX t (p+181+aV l)++[⟨6,0,0,0,0,(p:Int)⟩]
theorem zJ (p:Nat) (l:List Tx):(qU p l).length=Ug l:=by simp[qU,uS,vJ,Ug];omega
theorem yl (t:dI) (p:Nat) (l:List Tx):(kX t p l).length=qB l:=by simp[kX,AL,nD,mR,vL,qB];omega
theorem abg (h:At V c0 p ls R) (l:List Tx) (hp:p+qB l<=262144):At V (c0.Zl t l) (p+qB l) (ls++qU p l) (R++wG t V ls.length l):=by
 obtain rfl:=h.aO;unfold qB at*;have h1:=h.label;have h2:=h1.label;have h3:=h2.label;have h4:=h3.here (c0).aO.length;have h5:=PD (t:=t) h4 (by omega);have h6:=h5.put ⟨5,0,7,7,0,t.sum⟩ (by omega);have h7:=abD (t:=t) (c0.label).aO.length l h6 (by omega);have h8:=Rs (t:=t) h7 (c0.label).aO.length (by omega);have h9:=h8.put ⟨4,0,1,7,0,t.sum⟩ (by omega);have h10:=h9.put ⟨11,0,1,0,0,0⟩ (by omega);have h11:=h10.jump (c0.label.label).aO.length (by omega);have h12:=h11.here (c0.label).aO.length;have CK:=Uw (t:=t) h12 (by omega);have xY:=CK.jump (c0).aO.length (by omega);have ES:=xY.here (c0.label.label).aO.length;refine ES.cast (by omega) ?_ ?_
 ·simp only[qU,Cd.label,fE,eD,List.length_append,List.length_cons,List.length_nil,List.append_assoc,List.cons_append,List.nil_append,List.set_cons_zero,List.set_cons_succ,Cm,DV,Nat.zero_add];have e1:kJ p=[]:=rfl;have e2:∀p,lD p=[]:=fun _=>rfl
  simp only[e1,e2,List.append_nil,List.nil_append];simp;omega
 ·have e1:kJ p=[]:=rfl;have e2:∀p,lD p=[]:=fun _=>rfl
  simp[wG,Cd.label,e1,e2,uS,vJ];simp[Nat.add_assoc];rw[show rU l+3=3+rU l from by omega,show rU l+31=31+rU l from by omega]
theorem TH (l:List Tx):bI (qB l) c0 (c0.Zl t l):=by
 have a1:=bI.label (c:=c0);have a2:=bI.trans a1 bI.label;have a3:=bI.trans a2 bI.label;have a4:=bI.trans a3 (bI.here (c0).aO.length);have a5:=bI.trans a4 (J5 (t:=t));have a6:=bI.trans a5 (bI.put ⟨5,0,7,7,0,t.sum⟩);have a7:=bI.trans a6 (SN (t:=t) (c0.label).aO.length l);have a8:=bI.trans a7 (KN (t:=t) (c0.label).aO.length);have a9:=bI.trans a8 (bI.put ⟨4,0,1,7,0,t.sum⟩);have a10:=bI.trans a9 (bI.put ⟨11,0,1,0,0,0⟩);have a11:=bI.trans a10 (bI.jump (c0.label.label).aO.length);have a12:=bI.trans a11 (bI.here (c0.label).aO.length);have a13:=bI.trans a12 (Om (t:=t));have a14:=bI.trans a13 (bI.jump (c0).aO.length);have a15:=bI.trans a14 (bI.here (c0.label.label).aO.length);have e:0+0+0+0+8+1+aV l+169+1+1+1+0+3+1+0=qB l:=by unfold qB;omega
 rw[<-e];exact a15
theorem aep (l:List Tx) (h:bV V q (qU p l)):wG t V q l=kX t p l:=by
 unfold qU at h;have e0:=h.left.pJ;have e1:=h.left.SF;have e2:=h.left.at2;have s:=h.right (n:=3) (by simp);have s1:=s.left;have s2:=s.right (uS l (p+9));unfold wG kX;rw[adJ (q+1) l s1,VI (q+1) s2,e0,e1,e2,U6 (p:=p) (fun i v hv=>by simp[kJ] at hv),Xk (p:=p+181+aV l) (fun i v hv=>by simp[lD] at hv)]
theorem abK (ok:fD t) (l:List Tx) (hp:p+qB l<=262144) (hw:∀o∈l,Ab o):bF (kX t p l):=by
 unfold qB at hp;have hA:fq ((p+181+aV l:Nat):Int):=by unfold fq;omega
 obtain⟨⟨w1,w2⟩,⟨l1,l2⟩,⟨r1,r2⟩,⟨a1,a2⟩,⟨b1,b2⟩,⟨t1,t2⟩,⟨s1,s2⟩⟩:=id ok;unfold kX;refine((((((P_ ok (by omega)).app (.nu .nil)).app (abB ok hA l (by omega) hw)).app (RH ok (by omega) hA)).app (.nu (.st (.ju .nil)))).app (VP ok (by omega))).app (.ju .nil)
def iH (rs:List (List Tx)):Nat:=(rs.map qB).sum
theorem jb (l:List Tx) (rs:List (List Tx)):iH (l::rs)=qB l+iH rs:=by simp[iH]
def oZ (t:dI) (V:Nat->Int):Nat->List (List Tx)->List bR
 |_,[]=>[]
 |q,l::rs=>wG t V q l++oZ t V (q+Ug l) rs
def mI:Nat->List (List Tx)->List Int
 |_,[]=>[]
 |p,l::rs=>qU p l++mI (p+qB l) rs
def jm (t:dI):Nat->List (List Tx)->List bR
 |_,[]=>[]
 |p,l::rs=>kX t p l++jm t (p+qB l) rs
theorem wD (t:dI) (rs:List (List Tx)):∀p,(jm t p rs).length=iH rs:=by
 induction rs with
 |nil=>intro p;rfl
 |cons l rs ih=>intro p;rw[jm,List.length_append,yl,ih,jb]
theorem Yk (rs:List (List Tx)):∀{c0:Cd} {p:Nat} {ls:List Int} {R:List bR},At V c0 p ls R->p+iH rs<=262144->At V (rs.foldl (fun c l=>c.Zl t l) c0) (p+iH rs) (ls++mI p rs) (R++oZ t V ls.length rs):=by
 induction rs with
 |nil=>intro c0 p ls R h _;simpa [iH,mI,oZ] using h
 |cons l rs ih=>
  intro c0 p ls R h hp;rw[jb] at hp;have h1:=abg (t:=t) h l (by omega);have h2:=ih h1 (by omega);rw[List.foldl_cons];refine h2.cast (by rw[jb];omega) (by rw[mI,List.append_assoc]) ?_;rw[oZ,List.append_assoc,List.length_append,zJ]
theorem aa4 (rs:List (List Tx)):∀{p q:Nat},bV V q (mI p rs)->oZ t V q rs=jm t p rs:=by
 induction rs with
 |nil=>intro p q _;rfl
 |cons l rs ih=>
  intro p q h;rw[mI] at h;rw[oZ,jm,aep l h.left,ih (h.right (zJ p l))]
theorem QF (rs:List (List Tx)):∀{c0:Cd},bI (iH rs) c0 (rs.foldl (fun c l=>c.Zl t l) c0):=by
 induction rs with
 |nil=>intro c0;exact bI.refl
 |cons l rs ih=>intro c0;rw[jb,List.foldl_cons];exact(TH l).trans ih
theorem Yl (ok:fD t) (rs:List (List Tx)):∀{p:Nat},p+iH rs<=262144->(∀l∈rs,∀o∈l,Ab o)->bF (jm t p rs):=by
 induction rs with
 |nil=>intro p _ _;exact bF.nil
 |cons l rs ih=>
  intro p hp hw;rw[jb] at hp;exact(abK ok l (by omega) (hw l List.mem_cons_self)).app (ih (by omega) (fun x hx=>hw x (List.mem_cons_of_mem _ hx)))
def iO (rs:List (List Tx)):Nat:=3+iH rs
def bM (t:dI) (rs:List (List Tx)):List bR:=lN t 0++jm t 2 rs++[⟨14,0,0,0,0,0⟩]
theorem Gt (t:dI) (rs:List (List Tx)):(bM t rs).length=iO rs:=by simp[bM,qw,wD,iO];omega
theorem abW:At V Cd.new 0 [] []:=⟨rfl,rfl,rfl,fun x hx=>(by cases hx),rfl⟩
theorem Aw {rs:List (List Tx)} (h:iO rs<=262144):(iy t rs).halt.over=false/\(iy t rs).halt.done=bM t rs/\(iy t rs).halt.ops.length=iO rs:=by
 unfold iO at h⊢;have key:∀V,At V (iy t rs).halt (2+iH rs+1) ([]++oW 0++mI 2 rs) ([]++qQ t V 0++oZ t V 0 rs++[⟨14,0,0,0,0,0⟩]):=fun V=>by
  have h1:=Vs (t:=t) (abW (V:=V)) (by omega);have h2:=Yk (t:=t) rs h1 (by omega);exact(h2.put ⟨14,0,0,0,0,0⟩ (by omega)).cast (by omega) (by rw[Nat.zero_add]) rfl
 have h0:=key (fun q=>(iy t rs).halt.aO.getD q 0);refine⟨h0.over,?_,by rw[h0.len];omega⟩;have hd:(iy t rs).halt.done=Yg (fun q=>(iy t rs).halt.aO.getD q 0) (iy t rs).halt:=rfl;rw[hd,h0.res,h0.aO];have hs:oW 0=[]:=rfl;have hv:bV (fun q=>(mI 2 rs).getD q 0) 0 (mI 2 rs):=fun i v hv=>by
  rw[Nat.zero_add];simp[List.getD_eq_getElem?_getD,hv]
 rw[hs,List.nil_append,List.nil_append,List.nil_append,aa4 rs hv,XO (p:=0) (fun i v hv=>by simp[oW] at hv)];rfl
theorem FK {rs:List (List Tx)} (h:(iy t rs).halt.over=false):iO rs<=262144:=by
 have a:=((NQ (t:=t) (c0:=Cd.new)).trans (QF (t:=t) rs)).trans (bI.put ⟨14,0,0,0,0,0⟩);have:=(a h).2.2 (by omega);unfold iO;simp[Cd.new] at this;omega
theorem IX {rs:List (List Tx)} (ok:fD t) (h:iO rs<=262144) (hw:∀l∈rs,∀o∈l,Ab o):bF (bM t rs):=by
 unfold iO at h;exact((VU ok (by omega)).app (Yl ok rs (by omega) hw)).app (.st .nil)
theorem Tj (o:Tx):oQ o<=48:=by unfold oQ;split<;>omega
theorem QG (l:List Tx):aV l<=48*l.length:=by
 induction l with
 |nil=>simp[aV]
 |cons o l ih=>rw[l_,List.length_cons];have:=Tj o;omega
theorem Jn {rs:List (List Tx)} (h:∀l∈rs,l.length<=8):iH rs<=569*rs.length:=by
 induction rs with
 |nil=>simp[iH]
 |cons l rs ih=>
  rw[jb,List.length_cons];have h1:=QG l;have h2:=h l List.mem_cons_self;have h3:=ih (fun x hx=>h x (List.mem_cons_of_mem _ hx));unfold qB;omega
end
theorem eH {a b v:Int} (h:fV (a+b)=v):gX 1 a b=some v:=congrArg some h
theorem rJ {a b v:Int} (h:fV (a - b)=v):gX 2 a b=some v:=congrArg some h
theorem wh {a b:Int} (h:a<b):gX 13 a b=some 1:=by show some (wQ (decide (a<b)))=_;rw[decide_eq_true h];rfl
theorem CL {a b:Int} (h:¬a<b):gX 13 a b=some 0:=by show some (wQ (decide (a<b)))=_;rw[decide_eq_false h];rfl
theorem xG (a:Int):gX 6 a 1=some (a%2):=by show some (bits BinOp.and IntKind.i64 a 1)=_;rw[aey]
theorem Ov (a:Int):gX 6 a 15=some (a%16):=by show some (bits BinOp.and IntKind.i64 a 15)=_;rw[abj]
theorem aaj (x:Int):bits BinOp.and IntKind.i64 x 63=x%64:=C9 x 6 (by decide)
theorem FU {x:Int} (h:0<=x/\x<18446744073709551616):IntKind.u64.wrap x=x:=by rw[IntKind.wrap_u64];omega
theorem BF {s:Nat} (hs:s<16):min (IntKind.u64.wrap (bits BinOp.and IntKind.i64 (s:Int) 63)).toNat 64=s:=by
 rw[aaj,FU (by omega)];omega
theorem Ka {a:Int} {s:Nat} (ha:0<=a/\a<9223372036854775808) (hs:s<16):gX 10 a (s:Int)=some (a/2 ^ s):=by
 show some (fV (IntKind.u64.wrap a/2 ^ min (IntKind.u64.wrap (bits BinOp.and IntKind.i64 (s:Int) 63)).toNat 64))=_;rw[BF hs,FU (by omega),fH];have h1:0<=a/2 ^ s:=Int.ediv_nonneg ha.1 (Int.le_of_lt (Int.pow_pos (by decide)));have h2:a/2 ^ s<=a:=Int.ediv_le_self _ ha.1;omega
theorem Fz {a:Int} (ha:0<=a/\a<9223372036854775808):gX 10 a 1=some (a/2):=by
 have:=Ka (s:=1) ha (by decide);simpa using this
theorem uh {s:Nat} (hs:s<16):(2:Nat) ^ s<65536:=Nat.pow_lt_pow_right (n:=16) (by decide) hs
theorem Ej {s:Nat} (hs:s<16):gX 9 1 (s:Int)=some ((2 ^ s:Nat):Int):=by
 show some (fV (1*2 ^ min (IntKind.u64.wrap (bits BinOp.and IntKind.i64 (s:Int) 63)).toNat 64))=_;have e1:((2:Int) ^ s)=((2 ^ s:Nat):Int):=(Int.natCast_pow 2 s).symm;have h:=uh hs;rw[BF hs,Int.one_mul,e1];generalize 2 ^ s=z at h;rw[fH (by omega)]
theorem Hf {m k:Nat} (hm:m<65536) (hk:k<65536):gX 7 (m:Int) (k:Int)=some ((m|||k:Nat):Int):=by
 show some (bits BinOp.or IntKind.i64 (m:Int) (k:Int))=_;unfold bits;show some (IntKind.i64.wrap ((BitVec.ofInt 64 (m:Int)|||BitVec.ofInt 64 (k:Int)).toNat:Int))=_;have h:m|||k<65536:=Nat.or_lt_two_pow (n:=16) hm hk;rw[BitVec.ofInt_natCast,BitVec.ofInt_natCast,BitVec.toNat_or,BitVec.toNat_ofNat,BitVec.toNat_ofNat,Nat.mod_eq_of_lt (Nat.lt_of_lt_of_le hm (by decide)),Nat.mod_eq_of_lt (Nat.lt_of_lt_of_le hk (by decide)),IntKind.wrap_i64];generalize m|||k=z at h
 have e:((z:Int)+9223372036854775808)%18446744073709551616 - 9223372036854775808=z:=by omega
 rw[e]
theorem Vg {H:Nat} (s:Nat):((H:Int)/2 ^ s)%2=if H.testBit s=true then 1 else 0:=by
 have e1:((H:Int)/2 ^ s)%2=((H/2 ^ s%2:Nat):Int):=by rw[Int.natCast_emod,Int.natCast_ediv,Int.natCast_pow];rfl
 rw[e1];have e2:H.testBit s=decide (H/2 ^ s%2=1):=Nat.testBit_eq_decide_div_mod_eq;rw[e2];by_cases h:H/2 ^ s%2=1
 ·rw[h];simp
 ·have:H/2 ^ s%2=0:=by omega
  rw[this];simp
def aaM (t:dI):List bR:=[⟨4,0,1,7,0,t.base+4⟩,⟨5,0,7,1,0,t.base+5⟩,⟨5,0,7,7,0,t.base+1⟩,⟨5,0,7,7,0,t.base+2⟩,⟨5,0,7,7,0,t.base+3⟩,⟨5,0,7,7,0,t.base+6⟩,⟨15,0,0,7,0,t.words+1⟩,⟨5,0,7,0,0,t.base+0⟩,⟨5,0,7,7,0,t.sum⟩]
def OW (t:dI) (p:Nat) (A mY:Int):List bR:=[⟨1,0,1,0,0,mY⟩,⟨4,0,3,7,0,t.base+2⟩,⟨7,0,3,0,0,((p+13:Nat):Int)⟩,⟨1,0,4,0,0,1⟩,⟨3,2,3,4,0,0⟩,⟨2,0,5,3,0,0⟩,⟨3,1,5,5,0,0⟩,⟨1,0,4,0,0,t.log⟩,⟨3,1,5,4,0,0⟩,⟨4,0,6,5,0,0⟩,⟨3,2,6,1,0,0⟩,⟨7,0,6,0,0,((p+43:Nat):Int)⟩,⟨6,0,0,0,0,((p+2:Nat):Int)⟩,⟨2,0,5,1,0,0⟩,⟨1,0,4,0,0,15⟩,⟨3,6,5,4,0,0⟩,⟨2,0,0,5,0,0⟩,⟨1,0,4,0,0,(t.words+2)⟩,⟨3,1,5,4,0,0⟩,⟨4,0,3,5,0,0⟩,⟨2,0,6,3,0,0⟩,⟨1,0,4,0,0,1⟩,⟨3,6,6,4,0,0⟩,⟨7,0,6,0,0,((p+25:Nat):Int)⟩,⟨6,0,0,0,0,A⟩,⟨2,0,6,3,0,0⟩,⟨1,0,4,0,0,1⟩,⟨3,10,6,4,0,0⟩,⟨4,0,4,7,0,t.base+0⟩,⟨3,13,4,6,0,0⟩,⟨7,0,4,0,0,((p+32:Nat):Int)⟩,⟨6,0,0,0,0,A⟩,⟨4,0,2,1,0,0⟩,⟨4,0,4,5,0,0⟩,⟨3,2,4,3,0,0⟩,⟨7,0,4,0,0,((p+37:Nat):Int)⟩,⟨6,0,0,0,0,A⟩,⟨1,0,4,0,0,1⟩,⟨3,9,4,0,0,0⟩,⟨4,0,6,7,0,t.base+1⟩,⟨3,7,6,4,0,0⟩,⟨5,0,7,6,0,t.base+1⟩,⟨6,0,0,0,0,((p+44:Nat):Int)⟩,⟨4,0,2,5,0,1⟩,⟨12,0,1,2,0,2⟩,⟨4,0,1,7,0,t.sum⟩,⟨3,1,1,2,0,0⟩,⟨5,0,7,1,0,t.sum⟩]
def IA (t:dI) (p:Nat) (mY ov:Int):List bR:=[⟨1,0,1,0,0,mY⟩,⟨4,0,2,7,0,t.sum⟩,⟨1,0,3,0,0,ov⟩,⟨3,1,2,3,0,0⟩,⟨4,0,3,7,0,t.base+2⟩,⟨7,0,3,0,0,((p+16:Nat):Int)⟩,⟨1,0,4,0,0,1⟩,⟨3,2,3,4,0,0⟩,⟨2,0,5,3,0,0⟩,⟨3,1,5,5,0,0⟩,⟨1,0,4,0,0,t.log⟩,⟨3,1,5,4,0,0⟩,⟨4,0,6,5,0,0⟩,⟨3,2,6,1,0,0⟩,⟨7,0,6,0,0,((p+31:Nat):Int)⟩,⟨6,0,0,0,0,((p+5:Nat):Int)⟩,⟨4,0,3,7,0,t.base+2⟩,⟨2,0,4,3,0,0⟩,⟨1,0,6,0,0,64⟩,⟨3,13,4,6,0,0⟩,⟨7,0,4,0,0,((p+22:Nat):Int)⟩,⟨6,0,0,0,0,((p+23:Nat):Int)⟩,⟨13,0,0,0,0,6⟩,⟨2,0,5,3,0,0⟩,⟨3,1,5,5,0,0⟩,⟨1,0,4,0,0,t.log⟩,⟨3,1,5,4,0,0⟩,⟨5,0,5,1,0,0⟩,⟨1,0,4,0,0,1⟩,⟨3,1,3,4,0,0⟩,⟨5,0,7,3,0,t.base+2⟩,⟨5,0,5,2,0,1⟩,⟨12,0,1,2,0,3⟩]
def Im (t:dI) (p:Nat) (A:Int):List bR:=[⟨4,0,0,7,0,t.base+2⟩,⟨7,0,0,0,0,((p+157:Nat):Int)⟩,⟨1,0,2,0,0,0⟩,⟨4,0,6,7,0,t.base+2⟩,⟨1,0,5,0,0,t.log⟩,⟨7,0,6,0,0,((p+17:Nat):Int)⟩,⟨4,0,3,5,0,0⟩,⟨1,0,4,0,0,15⟩,⟨3,6,3,4,0,0⟩,⟨1,0,4,0,0,1⟩,⟨3,9,4,3,0,0⟩,⟨3,7,2,4,0,0⟩,⟨1,0,4,0,0,2⟩,⟨3,1,5,4,0,0⟩,⟨1,0,4,0,0,1⟩,⟨3,2,6,4,0,0⟩,⟨6,0,0,0,0,((p+5:Nat):Int)⟩,⟨5,0,7,2,0,t.base+7⟩,⟨1,0,6,0,0,0⟩,⟨2,0,4,6,0,0⟩,⟨1,0,3,0,0,16⟩,⟨3,13,4,3,0,0⟩,⟨7,0,4,0,0,((p+55:Nat):Int)⟩,⟨4,0,4,7,0,t.base+7⟩,⟨3,10,4,6,0,0⟩,⟨1,0,3,0,0,1⟩,⟨3,6,4,3,0,0⟩,⟨7,0,4,0,0,((p+52:Nat):Int)⟩,⟨2,0,5,6,0,0⟩,⟨1,0,4,0,0,(t.words+2)⟩,⟨3,1,5,4,0,0⟩,⟨4,0,3,5,0,0⟩,⟨2,0,4,3,0,0⟩,⟨1,0,2,0,0,1⟩,⟨3,6,4,2,0,0⟩,⟨7,0,4,0,0,((p+37:Nat):Int)⟩,⟨6,0,0,0,0,((p+135:Nat):Int)⟩,⟨2,0,4,3,0,0⟩,⟨1,0,2,0,0,(2*t.th+1)⟩,⟨8,0,5,4,2,0⟩,⟨3,2,4,3,0,0⟩,⟨7,0,4,0,0,((p+43:Nat):Int)⟩,⟨6,0,0,0,0,((p+135:Nat):Int)⟩,⟨2,0,5,6,0,0⟩,⟨1,0,4,0,0,(t.base+8)⟩,⟨3,1,5,4,0,0⟩,⟨5,0,5,3,0,0⟩,⟨1,0,4,0,0,1⟩,⟨3,9,4,6,0,0⟩,⟨4,0,3,7,0,t.base+6⟩,⟨3,7,3,4,0,0⟩,⟨5,0,7,3,0,t.base+6⟩,⟨1,0,3,0,0,1⟩,⟨3,1,6,3,0,0⟩,⟨6,0,0,0,0,((p+19:Nat):Int)⟩,⟨1,0,1,0,0,1⟩,⟨9,0,7,1,0,t.words+1⟩,⟨1,0,4,0,0,1⟩,⟨3,1,1,4,0,0⟩,⟨5,0,7,1,0,t.base+7⟩,⟨2,0,2,1,0,0⟩,⟨1,0,4,0,0,2305843009213693952⟩,⟨3,13,2,4,0,0⟩,⟨7,0,2,0,0,((p+65:Nat):Int)⟩,⟨6,0,0,0,0,((p+66:Nat):Int)⟩,⟨13,0,0,0,0,7⟩,⟨1,0,6,0,0,0⟩,⟨2,0,4,6,0,0⟩,⟨1,0,3,0,0,16⟩,⟨3,13,4,3,0,0⟩,⟨7,0,4,0,0,((p+101:Nat):Int)⟩,⟨4,0,4,7,0,t.base+1⟩,⟨3,10,4,6,0,0⟩,⟨1,0,3,0,0,1⟩,⟨3,6,4,3,0,0⟩,⟨7,0,4,0,0,((p+98:Nat):Int)⟩,⟨2,0,5,6,0,0⟩,⟨1,0,4,0,0,(t.words+2)⟩,⟨3,1,5,4,0,0⟩,⟨4,0,2,5,0,0⟩,⟨2,0,4,2,0,0⟩,⟨1,0,3,0,0,1⟩,⟨3,6,4,3,0,0⟩,⟨7,0,4,0,0,((p+92:Nat):Int)⟩,⟨1,0,3,0,0,(2*t.th+1)⟩,⟨3,2,2,3,0,0⟩,⟨7,0,2,0,0,((p+88:Nat):Int)⟩,⟨6,0,0,0,0,((p+135:Nat):Int)⟩,⟨2,0,5,6,0,0⟩,⟨1,0,4,0,0,(t.base+8)⟩,⟨3,1,5,4,0,0⟩,⟨4,0,2,5,0,0⟩,⟨1,0,3,0,0,1⟩,⟨3,10,2,3,0,0⟩,⟨4,0,4,7,0,t.base+0⟩,⟨3,13,4,2,0,0⟩,⟨7,0,4,0,0,((p+98:Nat):Int)⟩,⟨6,0,0,0,0,((p+135:Nat):Int)⟩,⟨1,0,3,0,0,1⟩,⟨3,1,6,3,0,0⟩,⟨6,0,0,0,0,((p+67:Nat):Int)⟩,⟨4,0,1,7,0,t.base+7⟩,⟨1,0,2,0,0,1⟩,⟨12,0,1,2,0,7⟩,⟨4,0,6,7,0,t.base+2⟩,⟨1,0,5,0,0,t.log⟩,⟨7,0,6,0,0,((p+115:Nat):Int)⟩,⟨4,0,2,5,0,0⟩,⟨4,0,3,5,0,1⟩,⟨5,0,2,3,0,0⟩,⟨1,0,4,0,0,2⟩,⟨3,1,5,4,0,0⟩,⟨1,0,4,0,0,1⟩,⟨3,2,6,4,0,0⟩,⟨6,0,0,0,0,((p+106:Nat):Int)⟩,⟨4,0,1,7,0,t.base+7⟩,⟨3,1,1,1,0,0⟩,⟨1,0,6,0,0,0⟩,⟨2,0,4,6,0,0⟩,⟨1,0,3,0,0,16⟩,⟨3,13,4,3,0,0⟩,⟨7,0,4,0,0,((p+134:Nat):Int)⟩,⟨4,0,4,7,0,t.base+6⟩,⟨3,10,4,6,0,0⟩,⟨1,0,3,0,0,1⟩,⟨3,6,4,3,0,0⟩,⟨7,0,4,0,0,((p+131:Nat):Int)⟩,⟨2,0,5,6,0,0⟩,⟨1,0,4,0,0,(t.words+2)⟩,⟨3,1,5,4,0,0⟩,⟨5,0,5,1,0,0⟩,⟨1,0,3,0,0,1⟩,⟨3,1,6,3,0,0⟩,⟨6,0,0,0,0,((p+118:Nat):Int)⟩,⟨6,0,0,0,0,((p+159:Nat):Int)⟩,⟨1,0,6,0,0,0⟩,⟨2,0,4,6,0,0⟩,⟨1,0,3,0,0,16⟩,⟨3,13,4,3,0,0⟩,⟨7,0,4,0,0,((p+156:Nat):Int)⟩,⟨4,0,4,7,0,t.base+6⟩,⟨3,10,4,6,0,0⟩,⟨1,0,3,0,0,1⟩,⟨3,6,4,3,0,0⟩,⟨7,0,4,0,0,((p+153:Nat):Int)⟩,⟨2,0,5,6,0,0⟩,⟨1,0,4,0,0,(t.base+8)⟩,⟨3,1,5,4,0,0⟩,⟨4,0,2,5,0,0⟩,⟨2,0,5,6,0,0⟩,⟨1,0,4,0,0,(t.words+2)⟩,⟨3,1,5,4,0,0⟩,⟨5,0,5,2,0,0⟩,⟨1,0,3,0,0,1⟩,⟨3,1,6,3,0,0⟩,⟨6,0,0,0,0,((p+136:Nat):Int)⟩,⟨6,0,0,0,0,A⟩,⟨4,0,1,7,0,t.base+0⟩,⟨12,0,1,7,0,7⟩,⟨1,0,1,0,0,t.prints⟩,⟨4,0,2,7,0,t.base+3⟩,⟨7,0,2,0,0,((p+169:Nat):Int)⟩,⟨4,0,3,1,0,0⟩,⟨11,0,3,0,0,0⟩,⟨1,0,4,0,0,1⟩,⟨3,1,1,4,0,0⟩,⟨1,0,4,0,0,1⟩,⟨3,2,2,4,0,0⟩,⟨6,0,0,0,0,((p+161:Nat):Int)⟩]
theorem PK (t:dI) (p:Nat) (oJ mY ov A:Int):jV t p oJ mY ov A=OW t p A mY:=by
 simp only[jV,lH,gK,dz,OW,List.cons_append,List.nil_append,List.append_assoc,Nat.add_assoc,Nat.reduceAdd]
theorem LG (t:dI) (p:Nat) (oJ mY ov A:Int):jY t p oJ mY ov A=IA t p mY ov:=by
 simp only[jY,kI,gK,dz,IA,List.cons_append,List.nil_append,List.append_assoc,Nat.add_assoc,Nat.reduceAdd]
theorem Kk (t:dI) (p:Nat) (A:Int):jc t p A=Im t p A:=by
 simp only[jc,kF,iK,gU,gZ,jS,je,gT,gY,gV,gW,jU,jW,jg,jf,jr,kW,dz,lW,Im,List.cons_append,List.nil_append,List.append_assoc,Nat.add_assoc,Nat.reduceAdd]
structure sO (code:List bR) (t:dI) (p:Nat) (l:List Tx):Prop where
 begin:Seg code p (aaM t)
 ops:∀(k:Nat) o,l[k]? =some o->Seg code (p+9+aV (l.take k)) (if o.kind=2 then OW t (p+9+aV (l.take k)) ((p+181+aV l:Nat):Int) o.at_ else IA t (p+9+aV (l.take k)) o.at_ o.v)
 aQ:Seg code (p+9+aV l) (Im t (p+9+aV l) ((p+181+aV l:Nat):Int))
 tail:Seg code (p+178+aV l) [⟨4,0,1,7,0,t.sum⟩,⟨11,0,1,0,0,0⟩,⟨6,0,0,0,0,((p+185+aV l:Nat):Int)⟩,⟨12,0,7,7,0,8⟩,⟨4,0,1,7,0,t.base+5⟩,⟨5,0,7,1,0,t.base+4⟩,⟨6,0,0,0,0,(p:Int)⟩]
theorem Xc {code:List bR} {t:dI} {A:Int} (l:List Tx):∀{p:Nat},Seg code p (mQ t p l A)->∀(k:Nat) o,l[k]? =some o->Seg code (p+aV (l.take k)) (if o.kind=2 then OW t (p+aV (l.take k)) A o.at_ else IA t (p+aV (l.take k)) o.at_ o.v):=by
 induction l with
 |nil=>intro p _ k o h;simp at h
 |cons a l ih=>
  intro p h k o ho;rw[mQ] at h;cases k with
  |zero=>
   simp only[List.getElem?_cons_zero,bH] at ho;subst ho;have h1:=h.left;have e0:p+aV (List.take 0 (a::l))=p:=by simp[aV]
   rw[e0];unfold lK at h1;by_cases hk:a.kind=2
   ·rw[if_pos hk] at h1⊢;rw[<-PK t p a.th a.at_ a.v];exact h1
   ·rw[if_neg hk] at h1⊢;rw[<-LG t p a.th a.at_ a.v A];exact h1
  |succ k=>
   simp only[List.getElem?_cons_succ] at ho;have h1:=ih (h.right (wK t p a A)) k o ho;rw[List.take_succ_cons,l_,<-Nat.add_assoc];exact h1
theorem XB {code:List bR} {t:dI} {p:Nat} {l:List Tx} (h:Seg code p (kX t p l)):sO code t p l:=by
 unfold kX at h;have e9:(jQ t p++[(⟨5,0,7,7,0,t.sum⟩:bR)]).length=9:=rfl;have hA:=h.left;have hB:=hA.left;have hC:=hB.left;have hD:=hC.left;refine⟨hD.left,fun k o ho=>Xc l (hD.right e9) k o ho,?_,?_⟩
 ·have:=hC.right (n:=9+aV l) (by rw[List.length_append,e9,nD]);rw[<-Kk,Nat.add_assoc];rw[Nat.add_assoc] at this;exact this
 ·have h1:=hB.right (n:=178+aV l) (by rw[List.length_append,List.length_append,e9,nD,mR];omega);have h2:=hA.right (n:=181+aV l) (by simp only[List.length_append,e9,nD,mR,List.length_cons,List.length_nil];omega);have h3:=h.right (n:=184+aV l) (by simp only[List.length_append,e9,nD,mR,vL,List.length_cons,List.length_nil];omega);intro i o ho;have hi:=(bu.1 ho).1;simp only[List.length_cons,List.length_nil] at hi;have e:∀a b:Nat,p+a+aV l+b=p+(a+aV l)+b:=fun a b=>by omega
  rw[e];rcases Nat.lt_or_ge i 3 with h4|h4
  ·refine h1 i o ?_;rw[<-ho];rcases i with _|_|_|i<;>first|rfl|omega
  ·rcases Nat.lt_or_ge i 6 with h5|h5
   ·obtain⟨j,rfl⟩:∃j,i=j+3:=⟨i - 3,by omega⟩;rw[show p+(178+aV l)+(j+3)=p+(181+aV l)+j from by omega];refine h2 j o ?_;rw[<-ho];rcases j with _|_|_|j<;>first|rfl|omega
   ·obtain rfl:i=6:=by omega
    rw[show p+(178+aV l)+6=p+(184+aV l)+0 from by omega];exact h3 0 o ho
def dw (rs:List (List Tx)) (r:Nat):Nat:=2+iH (rs.take r)
theorem UG {code:List bR} {t:dI} (rs:List (List Tx)):∀{p:Nat},Seg code p (jm t p rs)->∀(r:Nat) l,rs[r]? =some l->Seg code (p+iH (rs.take r)) (kX t (p+iH (rs.take r)) l):=by
 induction rs with
 |nil=>intro p _ k o h;simp at h
 |cons a l ih=>
  intro p h k o ho;rw[jm] at h;cases k with
  |zero=>
   simp only[List.getElem?_cons_zero,bH] at ho;subst ho;exact h.left
  |succ k=>
   simp only[List.getElem?_cons_succ] at ho;have h1:=ih (h.right (yl t p a)) k o ho;rw[List.take_succ_cons,jb,<-Nat.add_assoc];exact h1
theorem bQ (t:dI) (rs:List (List Tx)) {r:Nat} {l:List Tx} (h:rs[r]? =some l):sO (bM t rs) t (dw rs r) l:=by
 have h1:Seg (bM t rs) 0 (bM t rs):=Seg.self _;have h2:Seg (bM t rs) (0+2) (jm t 2 rs):=by
  conv=>arg 3;rw[<-List.append_nil (jm t 2 rs)]
  have:=(Seg.self (bM t rs));unfold bM at this⊢;exact(this.left.right (n:=2) (qw t 0))|>fun q=>by rw[List.append_nil];exact q
 exact XB (UG rs h2 r l h)
theorem L_ (t:dI) (rs:List (List Tx)):Seg (bM t rs) 0 [⟨1,0,0,0,0,t.arena⟩,⟨5,0,7,0,0,t.base+4⟩]:=by
 have:=(Seg.self (bM t rs));unfold bM at this⊢;exact this.left.left
theorem Qm (t:dI) (rs:List (List Tx)):(bM t rs)[dw rs rs.length]? =some ⟨14,0,0,0,0,0⟩:=by
 have:=(Seg.self (bM t rs));unfold bM at this⊢;have h1:=this.right (n:=2+iH rs) (by rw[List.length_append,qw,wD]);have h2:=h1 0 _ rfl;rw[Nat.zero_add,Nat.add_zero] at h2;unfold dw;rw[List.take_length];exact h2
theorem Sr {rs:List (List Tx)} {r:Nat} {l:List Tx} (h:rs[r]? =some l):dw rs (r+1)=dw rs r+185+aV l:=by
 unfold dw iH;rw[List.take_add_one,h];simp[qB];omega
end Go.Proofs.YtopdcjimpdalpaaGreat

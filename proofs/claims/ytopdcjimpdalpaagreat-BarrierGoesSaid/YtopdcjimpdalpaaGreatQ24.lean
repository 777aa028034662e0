import Derived.Test.YtopdcjimpdalpaaGreatQ23
namespace Go.Proofs.YtopdcjimpdalpaaGreat
open Go.RowKit
set_option linter.all false
set_option maxHeartbeats 1000000
set_option maxRecDepth 10000
section
variable {V:Nat->Int} {c c0:Cd} {p q:Nat} {ls:List Int} {R:List bM} {t:dw}
def bP (V:Nat->Int) (q:Nat) (L:List Int):Prop:=∀(i:Nat) v,L[i]? =some v->V (q+i)=v
theorem bP.left {L1 L2:List Int} (h:bP V q (L1++L2)):bP V q L1:=fun i v hv=>h i v (by rw[List.getElem?_append_left (bE.1 hv).1];exact hv)
theorem bP.right {L1 L2:List Int} (h:bP V q (L1++L2)) {n:Nat} (hn:L1.length=n):bP V (q+n) L2:=fun i v hv=>by
 have:=h (n+i) v (by rw[List.getElem?_append_right (by omega),hn,Nat.add_sub_cancel_left];exact hv)
 rwa [<-Nat.add_assoc] at this
theorem bP.oC {L:List Int} {v:Int} (h:bP V q (v::L)):V q=v:=h 0 v rfl
theorem bP.QD {L:List Int} {u v:Int} (h:bP V q (u::v::L)):V (q+1)=v:=h 1 v rfl
theorem bP.at2 {L:List Int} {u v x:Int} (h:bP V q (u::v::x::L)):V (q+2)=x:=h 2 x rfl
theorem bP.at3 {L:List Int} {u v x y:Int} (h:bP V q (u::v::x::y::L)):V (q+3)=y:=h 3 y rfl
def fZ (t:dw) (p:Nat) (found:Int):List bM:=[⟨4,0,3,7,0,t.base+2⟩,⟨7,0,3,0,0,((p+12:Nat):Int)⟩,⟨1,0,4,0,0,1⟩,⟨3,2,3,4,0,0⟩,⟨2,0,5,3,0,0⟩,⟨3,1,5,5,0,0⟩,⟨1,0,4,0,0,t.log⟩,⟨3,1,5,4,0,0⟩,⟨4,0,6,5,0,0⟩,⟨3,2,6,1,0,0⟩,⟨7,0,6,0,0,found⟩,⟨6,0,0,0,0,((p+1:Nat):Int)⟩]
theorem tH (t:dw) (p:Nat) (found:Int):(fZ t p found).length=12:=by simp[fZ]
theorem IX (found:Nat) (h:bP V q (jW p)):ni t V q found=fZ t p (V found):=by
 unfold jW at h;have e0:=h.oC;have e1:=h.QD;unfold ni fZ;simp only[Nat.add_zero,e0,e1]
def cZ (t:dw) (p:Nat) (r:Int) (l:Int):List bM:=[⟨7,0,r,0,0,((p+2:Nat):Int)⟩,⟨6,0,0,0,0,l⟩]
theorem jR (t:dw) (p:Nat) (r:Int) (l:Int):(cZ t p r l).length=2:=by simp[cZ]
theorem nG (r:Int) (l:Nat) (h:bP V q (dY p)):fD t V q r l=cZ t p r (V l):=by
 unfold dY at h;have e0:=h.oC;unfold fD cZ;simp only[Nat.add_zero,e0]
def jk (t:dw) (p:Nat):List bM:=[⟨2,0,5,6,0,0⟩,⟨1,0,4,0,0,(t.words+2)⟩,⟨3,1,5,4,0,0⟩]
theorem nE (t:dw) (p:Nat):(jk t p).length=3:=by simp[jk]
theorem FR (h:bP V q (lV p)):mY t V q=jk t p:=by
 unfold mY jk;rfl
def kG (t:dw) (p:Nat):List bM:=[⟨2,0,5,6,0,0⟩,⟨1,0,4,0,0,(t.base+8)⟩,⟨3,1,5,4,0,0⟩]
theorem rW (t:dw) (p:Nat):(kG t p).length=3:=by simp[kG]
theorem Rh (h:bP V q (oN p)):qp t V q=kG t p:=by
 unfold qp kG;rfl
def lF (t:dw) (p:Nat):List bM:=[⟨1,0,0,0,0,t.arena⟩,⟨5,0,7,0,0,t.base+4⟩]
theorem pJ (t:dw) (p:Nat):(lF t p).length=2:=by simp[lF]
theorem VG (h:bP V q (oz p)):qL t V q=lF t p:=by
 unfold qL lF;rfl
def lJ (t:dw) (p:Nat):List bM:=[⟨12,0,7,7,0,8⟩,⟨4,0,1,7,0,t.base+5⟩,⟨5,0,7,1,0,t.base+4⟩]
theorem uV (t:dw) (p:Nat):(lJ t p).length=3:=by simp[lJ]
theorem Wy (h:bP V q (lH p)):qD t V q=lJ t p:=by
 unfold qD lJ;rfl
def kV (t:dw) (p:Nat):List bM:=[⟨1,0,1,0,0,t.prints⟩,⟨4,0,2,7,0,t.base+3⟩,⟨7,0,2,0,0,((p+10:Nat):Int)⟩,⟨4,0,3,1,0,0⟩,⟨11,0,3,0,0,0⟩,⟨1,0,4,0,0,1⟩,⟨3,1,1,4,0,0⟩,⟨1,0,4,0,0,1⟩,⟨3,2,2,4,0,0⟩,⟨6,0,0,0,0,((p+2:Nat):Int)⟩]
theorem Dt (t:dw) (p:Nat):(kV t p).length=10:=by simp[kV]
theorem Y6 (h:bP V q (nW p)):sZ t V q=kV t p:=by
 unfold nW at h;have e0:=h.oC;have e1:=h.QD;unfold sZ kV;simp only[Nat.add_zero,e0,e1]
def kN (t:dw) (p:Nat) (abort:Int):List bM:=fZ t (p) ((p+42:Nat):Int)++[⟨2,0,5,1,0,0⟩,⟨1,0,4,0,0,15⟩,⟨3,6,5,4,0,0⟩,⟨2,0,0,5,0,0⟩,⟨1,0,4,0,0,(t.words+2)⟩,⟨3,1,5,4,0,0⟩,⟨4,0,3,5,0,0⟩,⟨2,0,6,3,0,0⟩,⟨1,0,4,0,0,1⟩,⟨3,6,6,4,0,0⟩]++cZ t (p+22) 6 abort++[⟨2,0,6,3,0,0⟩,⟨1,0,4,0,0,1⟩,⟨3,10,6,4,0,0⟩,⟨4,0,4,7,0,t.base+0⟩,⟨3,13,4,6,0,0⟩]++cZ t (p+29) 4 abort++[⟨4,0,2,1,0,0⟩,⟨4,0,4,5,0,0⟩,⟨3,2,4,3,0,0⟩]++cZ t (p+34) 4 abort++[⟨1,0,4,0,0,1⟩,⟨3,9,4,0,0,0⟩,⟨4,0,6,7,0,t.base+1⟩,⟨3,7,6,4,0,0⟩,⟨5,0,7,6,0,t.base+1⟩,⟨6,0,0,0,0,((p+43:Nat):Int)⟩,⟨4,0,2,5,0,1⟩,⟨12,0,1,2,0,2⟩]
theorem Cw (t:dw) (p:Nat) (abort:Int):(kN t p abort).length=44:=by simp[kN,tH,jR]
theorem YG (abort:Nat) (h:bP V q (nX p)):sP t V q abort=kN t p (V abort):=by
 unfold nX at h;have s3:=bP.right h (n:=6) (by simp[d_,a_,a_]);have g3:=bP.left h;have s2:=bP.right g3 (n:=5) (by simp[d_,a_]);have g2:=bP.left g3;have s1:=bP.right g2 (n:=4) (by simp[d_]);have g1:=bP.left g2;have s0:=bP.right g1 (n:=2) (by simp);have g0:=bP.left g1;have e0:=g0.oC;have e1:=g0.QD;unfold sP kN;have f0:=IX (t:=t) q s0;have f1:=nG (t:=t) 6 abort s1;have f2:=nG (t:=t) 4 abort s2;have f3:=nG (t:=t) 4 abort s3;simp only[Nat.add_zero,f0,f1,f2,f3,e0,e1]
def jX (t:dw) (p:Nat):List bM:=fZ t (p) ((p+27:Nat):Int)++[⟨4,0,3,7,0,t.base+2⟩,⟨2,0,4,3,0,0⟩,⟨1,0,6,0,0,64⟩,⟨3,13,4,6,0,0⟩]++cZ t (p+16) 4 ((p+19:Nat):Int)++[⟨13,0,0,0,0,6⟩,⟨2,0,5,3,0,0⟩,⟨3,1,5,5,0,0⟩,⟨1,0,4,0,0,t.log⟩,⟨3,1,5,4,0,0⟩,⟨5,0,5,1,0,0⟩,⟨1,0,4,0,0,1⟩,⟨3,1,3,4,0,0⟩,⟨5,0,7,3,0,t.base+2⟩,⟨5,0,5,2,0,1⟩,⟨12,0,1,2,0,3⟩]
theorem Bg (t:dw) (p:Nat):(jX t p).length=29:=by simp[jX,tH,jR]
theorem WA (h:bP V q (mM p)):qz t V q=jX t p:=by
 unfold mM at h;have s1:=bP.right h (n:=5) (by simp[d_]);have g1:=bP.left h;have s0:=bP.right g1 (n:=3) (by simp);have g0:=bP.left g1;have e0:=g0.oC;have e1:=g0.QD;have e2:=g0.at2;unfold qz jX;have f0:=IX (t:=t) q s0;have f1:=nG (t:=t) 4 (q+2) s1;simp only[Nat.add_zero,f0,f1,e0,e1,e2]
def jr (t:dw) (p:Nat):List bM:=[⟨4,0,3,5,0,0⟩,⟨1,0,4,0,0,15⟩,⟨3,6,3,4,0,0⟩,⟨1,0,4,0,0,1⟩,⟨3,9,4,3,0,0⟩,⟨3,7,2,4,0,0⟩]
theorem Ae (t:dw) (p:Nat):(jr t p).length=6:=by simp[jr]
theorem RA (h:bP V q (mX p)):oZ t V q=jr t p:=by
 unfold oZ jr;rfl
def iQ (t:dw) (p:Nat):List bM:=[⟨4,0,2,5,0,0⟩,⟨4,0,3,5,0,1⟩,⟨5,0,2,3,0,0⟩]
theorem zu (t:dw) (p:Nat):(iQ t p).length=3:=by simp[iQ]
theorem Pb (h:bP V q (lN p)):ny t V q=iQ t p:=by
 unfold ny iQ;rfl
def iP (t:dw) (p:Nat):List bM:=jk t (p)++[⟨5,0,5,1,0,0⟩]
theorem y_ (t:dw) (p:Nat):(iP t p).length=4:=by simp[iP,nE]
theorem Ob (h:bP V q (j5 p)):nI t V q=iP t p:=by
 unfold j5 at h;have s0:=bP.right h (n:=0) (by simp);rw[Nat.add_zero] at s0;have g0:=bP.left h;unfold nI iP;have f0:=FR (t:=t) s0;simp only[Nat.add_zero,f0]
def iR (t:dw) (p:Nat):List bM:=kG t (p)++[⟨4,0,2,5,0,0⟩]++jk t (p+4)++[⟨5,0,5,2,0,0⟩]
theorem yH (t:dw) (p:Nat):(iR t p).length=8:=by simp[iR,nE,rW]
theorem OA (h:bP V q (j6 p)):nJ t V q=iR t p:=by
 unfold j6 at h;have s1:=bP.right h (n:=0) (by simp[fQ]);rw[Nat.add_zero] at s1;have g1:=bP.left h;have s0:=bP.right g1 (n:=0) (by simp);rw[Nat.add_zero] at s0;have g0:=bP.left g1;unfold nJ iR;have f0:=Rh (t:=t) s0;have f1:=FR (t:=t) s1;simp only[Nat.add_zero,f0,f1]
def jD (t:dw) (p:Nat) (rel:Int):List bM:=jk t (p)++[⟨4,0,3,5,0,0⟩,⟨2,0,4,3,0,0⟩,⟨1,0,2,0,0,1⟩,⟨3,6,4,2,0,0⟩]++cZ t (p+7) 4 rel++[⟨2,0,4,3,0,0⟩,⟨1,0,2,0,0,(2*t.th+1)⟩,⟨8,0,5,4,2,0⟩,⟨3,2,4,3,0,0⟩]++cZ t (p+13) 4 rel++kG t (p+15)++[⟨5,0,5,3,0,0⟩,⟨1,0,4,0,0,1⟩,⟨3,9,4,6,0,0⟩,⟨4,0,3,7,0,t.base+6⟩,⟨3,7,3,4,0,0⟩,⟨5,0,7,3,0,t.base+6⟩]
theorem zY (t:dw) (p:Nat) (rel:Int):(jD t p rel).length=24:=by simp[jD,nE,rW,jR]
theorem QZ (rel:Nat) (h:bP V q (kT p)):oO t V q rel=jD t p (V rel):=by
 unfold kT at h;have s3:=bP.right h (n:=2) (by simp[bZ,a_,a_]);have g3:=bP.left h;have s2:=bP.right g3 (n:=1) (by simp[bZ,a_]);have g2:=bP.left g3;have s1:=bP.right g2 (n:=0) (by simp[bZ]);rw[Nat.add_zero] at s1;have g1:=bP.left g2;have s0:=bP.right g1 (n:=0) (by simp);rw[Nat.add_zero] at s0;have g0:=bP.left g1;unfold oO jD;have f0:=FR (t:=t) s0;have f1:=nG (t:=t) 4 rel s1;have f2:=nG (t:=t) 4 rel s2;have f3:=Rh (t:=t) s3;simp only[Nat.add_zero,f0,f1,f2,f3]
def jy (t:dw) (p:Nat) (rel:Int):List bM:=jk t (p)++[⟨4,0,2,5,0,0⟩,⟨2,0,4,2,0,0⟩,⟨1,0,3,0,0,1⟩,⟨3,6,4,3,0,0⟩,⟨7,0,4,0,0,((p+16:Nat):Int)⟩,⟨1,0,3,0,0,(2*t.th+1)⟩,⟨3,2,2,3,0,0⟩]++cZ t (p+10) 2 rel++kG t (p+12)++[⟨4,0,2,5,0,0⟩,⟨1,0,3,0,0,1⟩,⟨3,10,2,3,0,0⟩,⟨4,0,4,7,0,t.base+0⟩,⟨3,13,4,2,0,0⟩]++cZ t (p+20) 4 rel
theorem zD (t:dw) (p:Nat) (rel:Int):(jy t p rel).length=22:=by simp[jy,nE,rW,jR]
theorem Sj (rel:Nat) (h:bP V q (lq p)):o9 t V q rel=jy t p (V rel):=by
 unfold lq at h;have s3:=bP.right h (n:=2) (by simp[bZ,a_,fQ]);have g3:=bP.left h;have s2:=bP.right g3 (n:=2) (by simp[bZ,a_]);have g2:=bP.left g3;have s1:=bP.right g2 (n:=1) (by simp[bZ]);have g1:=bP.left g2;have s0:=bP.right g1 (n:=1) (by simp);have g0:=bP.left g1;have e0:=g0.oC;unfold o9 jy;have f0:=FR (t:=t) s0;have f1:=nG (t:=t) 2 rel s1;have f2:=Rh (t:=t) s2;have f3:=nG (t:=t) 4 rel s3;simp only[Nat.add_zero,f0,f1,f2,f3,e0]
def gJ (t:dw) (p:Nat):List bM:=[⟨4,0,6,7,0,t.base+2⟩,⟨1,0,5,0,0,t.log⟩,⟨7,0,6,0,0,((p+14:Nat):Int)⟩]++jr t (p+3)++[⟨1,0,4,0,0,2⟩,⟨3,1,5,4,0,0⟩,⟨1,0,4,0,0,1⟩,⟨3,2,6,4,0,0⟩,⟨6,0,0,0,0,((p+2:Nat):Int)⟩]
theorem xh (t:dw) (p:Nat):(gJ t p).length=14:=by simp[gJ,Ae]
theorem H_ (h:bP V q (jf p)):lI t V q=gJ t p:=by
 unfold jf at h;have s0:=bP.right h (n:=2) (by simp);have g0:=bP.left h;have e0:=g0.oC;have e1:=g0.QD;unfold lI gJ;have f0:=RA (t:=t) s0;simp only[Nat.add_zero,f0,e0,e1]
def gG (t:dw) (p:Nat):List bM:=[⟨4,0,6,7,0,t.base+2⟩,⟨1,0,5,0,0,t.log⟩,⟨7,0,6,0,0,((p+11:Nat):Int)⟩]++iQ t (p+3)++[⟨1,0,4,0,0,2⟩,⟨3,1,5,4,0,0⟩,⟨1,0,4,0,0,1⟩,⟨3,2,6,4,0,0⟩,⟨6,0,0,0,0,((p+2:Nat):Int)⟩]
theorem xg (t:dw) (p:Nat):(gG t p).length=11:=by simp[gG,zu]
theorem Jh (h:bP V q (jg p)):lu t V q=gG t p:=by
 unfold jg at h;have s0:=bP.right h (n:=2) (by simp);have g0:=bP.left h;have e0:=g0.oC;have e1:=g0.QD;unfold lu gG;have f0:=Pb (t:=t) s0;simp only[Nat.add_zero,f0,e0,e1]
def gF (t:dw) (p:Nat) (rel:Int):List bM:=[⟨1,0,6,0,0,0⟩,⟨2,0,4,6,0,0⟩,⟨1,0,3,0,0,16⟩,⟨3,13,4,3,0,0⟩,⟨7,0,4,0,0,((p+37:Nat):Int)⟩,⟨4,0,4,7,0,t.base+7⟩,⟨3,10,4,6,0,0⟩,⟨1,0,3,0,0,1⟩,⟨3,6,4,3,0,0⟩,⟨7,0,4,0,0,((p+34:Nat):Int)⟩]++jD t (p+10) rel++[⟨1,0,3,0,0,1⟩,⟨3,1,6,3,0,0⟩,⟨6,0,0,0,0,((p+1:Nat):Int)⟩]
theorem wV (t:dw) (p:Nat) (rel:Int):(gF t p rel).length=37:=by simp[gF,zY]
theorem JC (rel:Nat) (h:bP V q (ja p)):lC t V q rel=gF t p (V rel):=by
 unfold ja at h;have s0:=bP.right h (n:=3) (by simp);have g0:=bP.left h;have e0:=g0.oC;have e1:=g0.QD;have e2:=g0.at2;unfold lC gF;have f0:=QZ (t:=t) rel s0;simp only[Nat.add_zero,f0,e0,e1,e2]
def gK (t:dw) (p:Nat) (rel:Int):List bM:=[⟨1,0,6,0,0,0⟩,⟨2,0,4,6,0,0⟩,⟨1,0,3,0,0,16⟩,⟨3,13,4,3,0,0⟩,⟨7,0,4,0,0,((p+35:Nat):Int)⟩,⟨4,0,4,7,0,t.base+1⟩,⟨3,10,4,6,0,0⟩,⟨1,0,3,0,0,1⟩,⟨3,6,4,3,0,0⟩,⟨7,0,4,0,0,((p+32:Nat):Int)⟩]++jy t (p+10) rel++[⟨1,0,3,0,0,1⟩,⟨3,1,6,3,0,0⟩,⟨6,0,0,0,0,((p+1:Nat):Int)⟩]
theorem wW (t:dw) (p:Nat) (rel:Int):(gK t p rel).length=35:=by simp[gK,zD]
theorem Ig (rel:Nat) (h:bP V q (iX p)):lD t V q rel=gK t p (V rel):=by
 unfold iX at h;have s0:=bP.right h (n:=3) (by simp);have g0:=bP.left h;have e0:=g0.oC;have e1:=g0.QD;have e2:=g0.at2;unfold lD gK;have f0:=Sj (t:=t) rel s0;simp only[Nat.add_zero,f0,e0,e1,e2]
def gI (t:dw) (p:Nat):List bM:=[⟨1,0,6,0,0,0⟩,⟨2,0,4,6,0,0⟩,⟨1,0,3,0,0,16⟩,⟨3,13,4,3,0,0⟩,⟨7,0,4,0,0,((p+17:Nat):Int)⟩,⟨4,0,4,7,0,t.base+6⟩,⟨3,10,4,6,0,0⟩,⟨1,0,3,0,0,1⟩,⟨3,6,4,3,0,0⟩,⟨7,0,4,0,0,((p+14:Nat):Int)⟩]++iP t (p+10)++[⟨1,0,3,0,0,1⟩,⟨3,1,6,3,0,0⟩,⟨6,0,0,0,0,((p+1:Nat):Int)⟩]
theorem xk (t:dw) (p:Nat):(gI t p).length=17:=by simp[gI,y_]
theorem JK (h:bP V q (iY p)):kM t V q=gI t p:=by
 unfold iY at h;have s0:=bP.right h (n:=3) (by simp);have g0:=bP.left h;have e0:=g0.oC;have e1:=g0.QD;have e2:=g0.at2;unfold kM gI;have f0:=Ob (t:=t) s0;simp only[Nat.add_zero,f0,e0,e1,e2]
def gD (t:dw) (p:Nat):List bM:=[⟨1,0,6,0,0,0⟩,⟨2,0,4,6,0,0⟩,⟨1,0,3,0,0,16⟩,⟨3,13,4,3,0,0⟩,⟨7,0,4,0,0,((p+21:Nat):Int)⟩,⟨4,0,4,7,0,t.base+6⟩,⟨3,10,4,6,0,0⟩,⟨1,0,3,0,0,1⟩,⟨3,6,4,3,0,0⟩,⟨7,0,4,0,0,((p+18:Nat):Int)⟩]++iR t (p+10)++[⟨1,0,3,0,0,1⟩,⟨3,1,6,3,0,0⟩,⟨6,0,0,0,0,((p+1:Nat):Int)⟩]
theorem wX (t:dw) (p:Nat):(gD t p).length=21:=by simp[gD,yH]
theorem Ik (h:bP V q (jh p)):kU t V q=gD t p:=by
 unfold jh at h;have s0:=bP.right h (n:=3) (by simp);have g0:=bP.left h;have e0:=g0.oC;have e1:=g0.QD;have e2:=g0.at2;unfold kU gD;have f0:=OA (t:=t) s0;simp only[Nat.add_zero,f0,e0,e1,e2]
def jU (t:dw) (p:Nat) (rel:Int):List bM:=[⟨1,0,2,0,0,0⟩]++gJ t (p+1)++[⟨5,0,7,2,0,t.base+7⟩]++gF t (p+16) rel
theorem Bd (t:dw) (p:Nat) (rel:Int):(jU t p rel).length=53:=by simp[jU,xh,wV]
theorem VO (rel:Nat) (h:bP V q (mR p)):qN t V q rel=jU t p (V rel):=by
 unfold mR at h;have s1:=bP.right h (n:=2) (by simp[ku]);have g1:=bP.left h;have s0:=bP.right g1 (n:=0) (by simp);rw[Nat.add_zero] at s0;have g0:=bP.left g1;unfold qN jU;have f0:=H_ (t:=t) s0;have f1:=JC (t:=t) rel s1;simp only[Nat.add_zero,f0,f1]
def iw (t:dw) (p:Nat) (rel:Int):List bM:=gK t (p) rel
theorem x_ (t:dw) (p:Nat) (rel:Int):(iw t p rel).length=35:=by simp[iw,wW]
theorem LK (rel:Nat) (h:bP V q (jF p)):mH t V q rel=iw t p (V rel):=by
 unfold jF at h;have s0:=bP.right h (n:=0) (by simp);rw[Nat.add_zero] at s0;have g0:=bP.left h;unfold mH iw;have f0:=Ig (t:=t) rel s0;simp only[Nat.add_zero,f0]
def iJ (t:dw) (p:Nat) (abort:Int):List bM:=[⟨4,0,0,7,0,t.base+2⟩,⟨7,0,0,0,0,((p+157:Nat):Int)⟩]++jU t (p+2) ((p+135:Nat):Int)++[⟨1,0,1,0,0,1⟩,⟨9,0,7,1,0,t.words+1⟩,⟨1,0,4,0,0,1⟩,⟨3,1,1,4,0,0⟩,⟨5,0,7,1,0,t.base+7⟩,⟨2,0,2,1,0,0⟩,⟨1,0,4,0,0,2305843009213693952⟩,⟨3,13,2,4,0,0⟩]++cZ t (p+63) 2 ((p+66:Nat):Int)++[⟨13,0,0,0,0,7⟩]++iw t (p+66) ((p+135:Nat):Int)++[⟨4,0,1,7,0,t.base+7⟩,⟨1,0,2,0,0,1⟩,⟨12,0,1,2,0,7⟩]++gG t (p+104)++[⟨4,0,1,7,0,t.base+7⟩,⟨3,1,1,1,0,0⟩]++gI t (p+117)++[⟨6,0,0,0,0,((p+159:Nat):Int)⟩]++gD t (p+135)++[⟨6,0,0,0,0,abort⟩,⟨4,0,1,7,0,t.base+0⟩,⟨12,0,1,7,0,7⟩]++kV t (p+159)
theorem lU (t:dw) (p:Nat) (abort:Int):(iJ t p abort).length=169:=by simp[iJ,xg,Bd,wX,xk,Dt,jR,x_]
theorem Sm (abort:Nat) (h:bP V q (kW p)):oL t V q abort=iJ t p (V abort):=by
 unfold kW at h;have s6:=bP.right h (n:=26) (by simp[f_,a_,fV,gX,jd,kr]);have g6:=bP.left h;have s5:=bP.right g6 (n:=23) (by simp[f_,a_,fV,gX,jd]);have g5:=bP.left g6;have s4:=bP.right g5 (n:=20) (by simp[f_,a_,fV,gX]);have g4:=bP.left g5;have s3:=bP.right g4 (n:=18) (by simp[f_,a_,fV]);have g3:=bP.left g4;have s2:=bP.right g3 (n:=12) (by simp[f_,a_]);have g2:=bP.left g3;have s1:=bP.right g2 (n:=11) (by simp[f_]);have g1:=bP.left g2;have s0:=bP.right g1 (n:=4) (by simp);have g0:=bP.left g1;have e0:=g0.oC;have e1:=g0.QD;have e2:=g0.at2;have e3:=g0.at3;unfold oL iJ;have f0:=VO (t:=t) q s0;have f1:=nG (t:=t) 2 (q+3) s1;have f2:=LK (t:=t) q s2;have f3:=Jh (t:=t) s3;have f4:=JK (t:=t) s4;have f5:=Ik (t:=t) s5;have f6:=Y6 (t:=t) s6;simp only[Nat.add_zero,f0,f1,f2,f3,f4,f5,f6,e0,e1,e2,e3]
def jw (t:dw) (p:Nat):List bM:=[⟨4,0,1,7,0,t.base+4⟩,⟨5,0,7,1,0,t.base+5⟩,⟨5,0,7,7,0,t.base+1⟩,⟨5,0,7,7,0,t.base+2⟩,⟨5,0,7,7,0,t.base+3⟩,⟨5,0,7,7,0,t.base+6⟩,⟨15,0,0,7,0,t.words+1⟩,⟨5,0,7,0,0,t.base+0⟩]
theorem zX (t:dw) (p:Nat):(jw t p).length=8:=by simp[jw]
theorem SF (h:bP V q (jY p)):oP t V q=jw t p:=by
 unfold oP jw;rfl
def jv (t:dw) (p:Nat) (mZ:Int) (l9:Int) (ov:Int) (abort:Int):List bM:=[⟨1,0,1,0,0,l9⟩]++kN t (p+1) abort++[⟨4,0,1,7,0,t.sum⟩,⟨3,1,1,2,0,0⟩,⟨5,0,7,1,0,t.sum⟩]
theorem Ad (t:dw) (p:Nat) (mZ:Int) (l9:Int) (ov:Int) (abort:Int):(jv t p mZ l9 ov abort).length=48:=by simp[jv,Cw]
theorem R5 (mZ:Int) (l9:Int) (ov:Int) (abort:Nat) (h:bP V q (kR p)):oF t V q mZ l9 ov abort=jv t p mZ l9 ov (V abort):=by
 unfold kR at h;have s0:=bP.right h (n:=0) (by simp);rw[Nat.add_zero] at s0;have g0:=bP.left h;unfold oF jv;have f0:=YG (t:=t) abort s0;simp only[Nat.add_zero,f0]
def jB (t:dw) (p:Nat) (mZ:Int) (l9:Int) (ov:Int) (abort:Int):List bM:=[⟨1,0,1,0,0,l9⟩,⟨4,0,2,7,0,t.sum⟩,⟨1,0,3,0,0,ov⟩,⟨3,1,2,3,0,0⟩]++jX t (p+4)
theorem zV (t:dw) (p:Nat) (mZ:Int) (l9:Int) (ov:Int) (abort:Int):(jB t p mZ l9 ov abort).length=33:=by simp[jB,Bg]
theorem Rf (mZ:Int) (l9:Int) (ov:Int) (abort:Nat) (h:bP V q (kZ p)):oK t V q mZ l9 ov abort=jB t p mZ l9 ov (V abort):=by
 unfold kZ at h;have s0:=bP.right h (n:=0) (by simp);rw[Nat.add_zero] at s0;have g0:=bP.left h;unfold oK jB;have f0:=WA (t:=t) s0;simp only[Nat.add_zero,f0]
end
section
variable {V:Nat->Int} {c c0 c1 c2:Cd} {p q n m:Nat} {ls:List Int} {R:List bM} {t:dw}
def bC (n:Nat) (c c':Cd):Prop:=c'.over=false->c.over=false/\c'.ops.length=c.ops.length+n/\(0<n->c.ops.length+n<=262144)
theorem bC.put (o:bM):bC 1 c (c.put o):=by
 intro h;unfold Cd.put at h⊢;split at h
 ·cases h
 ·rename_i hl;rw[if_neg hl];exact⟨h,by simp,fun _=>by omega⟩
theorem bC.Nl (h:c1.over=c.over) (hl:c1.ops=c.ops):bC 0 c c1:=fun ho=>⟨by rw[<-h];exact ho,by rw[hl];rfl,fun h=>by omega⟩
theorem bC.label:bC 0 c c.label:=.Nl rfl rfl
theorem bC.here (l:Nat):bC 0 c (c.here l):=.Nl rfl rfl
theorem bC.mark (l:Nat):bC 0 c (c.mark l):=.Nl rfl rfl
theorem bC.trans (h:bC n c c1) (g:bC m c1 c2):bC (n+m) c c2:=fun ho=>by
 obtain⟨g1,g2,g3⟩:=g ho;obtain⟨h1,h2,h3⟩:=h g1;refine⟨h1,by omega,fun hp=>?_⟩;rcases Nat.eq_zero_or_pos m with e|e
 ·have:=h3 (by omega);omega
 ·have:=g3 e;omega
theorem bC.jump (l:Nat):bC 1 c (c.jump l):=(bC.mark l).trans (bC.put _)
theorem bC.zero (r:Int) (l:Nat):bC 1 c (c.zero r l):=(bC.mark l).trans (bC.put _)
theorem bC.refl:bC 0 c c:=.Nl rfl rfl
theorem bC.pu {o:bM} (h:bC n c c1):bC (n+1) c (c1.put o):=h.trans (.put o)
theorem bC.set {r k:Int} (h:bC n c c1):bC (n+1) c (c1.set r k):=h.trans (.put _)
theorem bC.move {r k:Int} (h:bC n c c1):bC (n+1) c (c1.move r k):=h.trans (.put _)
theorem bC.calc {q r k:Int} (h:bC n c c1):bC (n+1) c (c1.calc q r k):=h.trans (.put _)
theorem bC.with_ {q r k x:Int} (h:bC n c c1):bC (n+2) c (c1.with_ q r k x):=h.trans ((bC.put _).trans (.put _))
theorem bC.load {x y z:Int} (h:bC n c c1):bC (n+1) c (c1.load x y z):=h.trans (.put _)
theorem bC.store {x y z:Int} (h:bC n c c1):bC (n+1) c (c1.store x y z):=h.trans (.put _)
theorem bC.note {x y z:Int} (h:bC n c c1):bC (n+1) c (c1.note x y z):=h.trans (.put _)
theorem bC.trap {x:Int} (h:bC n c c1):bC (n+1) c (c1.trap x):=h.trans (.put _)
theorem bC.out {x:Int} (h:bC n c c1):bC (n+1) c (c1.out x):=h.trans (.put _)
theorem bC.halt (h:bC n c c1):bC (n+1) c (c1.halt):=h.trans (.put _)
theorem bC.get {x y:Int} (h:bC n c c1):bC (n+1) c (c1.get t x y):=h.trans (.put _)
theorem bC.pO {x y:Int} (h:bC n c c1):bC (n+1) c (c1.pO t x y):=h.trans (.put _)
theorem bC.la (h:bC n c c1):bC n c c1.label:=h.trans .label
theorem bC.he {l:Nat} (h:bC n c c1):bC n c (c1.here l):=h.trans (.here l)
theorem bC.ju {l:Nat} (h:bC n c c1):bC (n+1) c (c1.jump l):=h.trans (.jump l)
theorem bC.ze {r:Int} {l:Nat} (h:bC n c c1):bC (n+1) c (c1.zero r l):=h.trans (.zero r l)
def Cs (o:bM):Prop:=dJ o=true/\DT o
def bB (l:List bM):Prop:=∀o∈l,Cs o
theorem bB.nil:bB []:=fun o h=>by cases h
theorem bB.cons {o:bM} {l:List bM} (h:Cs o) (g:bB l):bB (o::l):=fun x hx=>by
 rcases List.mem_cons.1 hx with rfl|hx
 ·exact h
 ·exact g x hx
theorem bB.app {l r:List bM} (h:bB l) (g:bB r):bB (l++r):=fun x hx=>by
 rcases List.mem_append.1 hx with hx|hx
 ·exact h x hx
 ·exact g x hx
def In64 (x:Int):Prop:= -9223372036854775808<=x/\x<=9223372036854775807
def eD (x:Int):Prop:=0<=x/\x<=262144
def RY (r:Int):Prop:=0<=r/\r<8
theorem M_ {k bn a b c n:Int} (h:dJ ⟨k,bn,a,b,c,n⟩=true) (hk:0<=k/\k<256/\0<=bn/\bn<256/\0<=a/\a<256/\0<=b/\b<256/\0<=c/\c<256/\In64 n):Cs ⟨k,bn,a,b,c,n⟩:=
 ⟨h,⟨hk.1,hk.2.1⟩,⟨hk.2.2.1,hk.2.2.2.1⟩,⟨hk.2.2.2.2.1,hk.2.2.2.2.2.1⟩,⟨hk.2.2.2.2.2.2.1,hk.2.2.2.2.2.2.2.1⟩,⟨hk.2.2.2.2.2.2.2.2.1,hk.2.2.2.2.2.2.2.2.2.1⟩,hk.2.2.2.2.2.2.2.2.2.2⟩
def s1 (k a b:Int):Bool:=decide (0<=a/\a<8/\0<=b/\b<8) && (k==1 && b==0||k==4||k==5||k==9||k==15)
theorem adC {k a b n:Int} (hs:s1 k a b=true) (hn:In64 n):Cs ⟨k,0,a,b,0,n⟩:=by
 unfold s1 at hs;simp only[Bool.and_eq_true,Bool.or_eq_true,decide_eq_true_eq,beq_iff_eq] at hs;obtain⟨⟨h1,h2,h3,h4⟩,h5⟩:=hs;unfold In64 at hn;refine M_ ?_ ?_
 ·rcases h5 with(((⟨rfl,rfl⟩|rfl)|rfl)|rfl)|rfl<;>simp[dJ,eB,fm,oV,oU]<;>omega
 ·unfold In64;rcases h5 with(((⟨rfl,rfl⟩|rfl)|rfl)|rfl)|rfl<;>omega
def s2 (k a:Int):Bool:=decide (0<=a/\a<8) && (k==6 && a==0||k==7)
theorem acE {k a n:Int} (hs:s2 k a=true) (hn:eD n):Cs ⟨k,0,a,0,0,n⟩:=by
 unfold s2 at hs;simp only[Bool.and_eq_true,Bool.or_eq_true,decide_eq_true_eq,beq_iff_eq] at hs;obtain⟨⟨h1,h2⟩,h5⟩:=hs;unfold eD at hn;refine M_ ?_ ?_
 ·rcases h5 with⟨rfl,rfl⟩|rfl<;>simp[dJ,eB,fm,oV,oU]<;>omega
 ·unfold In64;rcases h5 with⟨rfl,rfl⟩|rfl<;>omega
theorem bB.nu {k a b n:Int} {l:List bM} (h:bB l) (hs:s1 k a b=true:=by decide) (hn:In64 n:=by unfold In64;omega):bB (⟨k,0,a,b,0,n⟩::l):=.cons (adC hs hn) h
theorem bB.ju {k a n:Int} {l:List bM} (h:bB l) (hs:s2 k a=true:=by decide) (hn:eD n:=by unfold eD;omega):bB (⟨k,0,a,0,0,n⟩::l):=.cons (acE hs hn) h
theorem bB.st {k bn a b c n:Int} {l:List bM} (h:bB l) (hs:(dJ ⟨k,bn,a,b,c,n⟩ && decide (0<=k/\k<256/\0<=bn/\bn<256/\0<=a/\a<256/\0<=b/\b<256/\0<=c/\c<256/\ -9223372036854775808<=n/\n<=9223372036854775807))=true:=by decide):bB (⟨k,bn,a,b,c,n⟩::l):=by
 simp only[Bool.and_eq_true,decide_eq_true_eq] at hs;exact .cons (M_ hs.1 hs.2) h
theorem eO.u (h:eO t):(0<=t.words/\t.words<=262144)/\(0<=t.log/\t.log<=262144)/\(0<=t.prints/\t.prints<=262144)/\(0<=t.arena/\t.arena<=262144)/\(0<=t.base/\t.base<=262144)/\(0<=t.th/\t.th<=4)/\(0<=t.sum/\t.sum<=262144):=⟨h.words,h.log,h.prints,h.arena,h.base,h.th,h.sum⟩
theorem Ai (found:Nat):bC 12 c0 (c0.search t found):=by
 unfold Cd.search;dsimp only
 with_reducible exact bC.refl.la.la.get.he.ze.with_.move.calc.with_.load.calc.ze.ju.he
theorem EP {found:Int} (ok:eO t) (hp:p+12<=262144) (X9:eD found):bB (fZ t p found):=by
 have q:=ok.u;have YM:=X9;unfold eD at YM;unfold fZ;exact(.nu (.ju (.nu (.st (.st (.st (.nu (.st (.nu (.st (.ju (.ju .nil))))))))))))
theorem jC (r:Int) (l:Nat):bC 2 c0 (c0.unless t r l):=by
 unfold Cd.unless;dsimp only
 with_reducible exact bC.refl.la.ze.ju.he
theorem lT {r:Int} {l:Int} (ok:eO t) (hp:p+2<=262144) (hr:RY r) (hl:eD l):bB (cZ t p r l):=by
 have q:=ok.u;have gl:=hl;unfold eD at gl;unfold cZ;exact(.cons (M_ (by unfold RY at hr;simp[dJ,eB,fm,oV,oU];omega) (by unfold RY at hr;unfold In64;omega)) (.ju .nil))
theorem wm:bC 3 c0 (c0.lock t):=by
 unfold Cd.lock;dsimp only
 with_reducible exact bC.refl.move.with_
theorem BI (ok:eO t) (hp:p+3<=262144):bB (jk t p):=by
 have q:=ok.u;unfold jk;exact(.st (.nu (.st .nil)))
theorem CE:bC 3 c0 (c0.old t):=by
 unfold Cd.old;dsimp only
 with_reducible exact bC.refl.move.with_
theorem K8 (ok:eO t) (hp:p+3<=262144):bB (kG t p):=by
 have q:=ok.u;unfold kG;exact(.st (.nu (.st .nil)))
theorem LA:bC 2 c0 (c0.start t):=by
 unfold Cd.start;dsimp only
 with_reducible exact bC.refl.set.pO
theorem Rq (ok:eO t) (hp:p+2<=262144):bB (lF t p):=by
 have q:=ok.u;unfold lF;exact(.nu (.nu .nil))
theorem Mq:bC 3 c0 (c0.abort t):=by
 unfold Cd.abort;dsimp only
 with_reducible exact bC.refl.note.get.pO
theorem TA (ok:eO t) (hp:p+3<=262144):bB (lJ t p):=by
 have q:=ok.u;unfold lJ;exact(.st (.nu (.nu .nil)))
theorem P_:bC 10 c0 (c0.tell t):=by
 unfold Cd.tell;dsimp only
 with_reducible exact bC.refl.la.la.set.get.he.ze.load.out.with_.with_.ju.he
theorem Wl (ok:eO t) (hp:p+10<=262144):bB (kV t p):=by
 have q:=ok.u;unfold kV;exact(.nu (.nu (.ju (.nu (.st (.nu (.st (.nu (.st (.ju .nil))))))))))
theorem Qg (abort:Nat):bC 44 c0 (c0.read t abort):=by
 unfold Cd.read;dsimp only
 with_reducible exact((((bC.refl.la.la.trans (Ai _)).move.with_.move.with_.load.move.with_.trans (jC _ _)).move.with_.get.calc.trans (jC _ _)).load.load.calc.trans (jC _ _)).set.calc.get.calc.pO.ju.he.load.he.note
theorem We {abort:Int} (ok:eO t) (hp:p+44<=262144) (zG:eD abort):bB (kN t p abort):=by
 have q:=ok.u;have Mr:=zG;unfold eD at Mr;unfold kN;exact(bB.app (bB.app (bB.app (bB.app (bB.app (bB.app (bB.app (EP ok (by omega) (by unfold eD;omega)) (.st (.nu (.st (.st (.nu (.st (.nu (.st (.nu (.st .nil))))))))))) (lT ok (by omega) ⟨by decide,by decide⟩ zG)) (.st (.nu (.st (.nu (.st .nil)))))) (lT ok (by omega) ⟨by decide,by decide⟩ zG)) (.nu (.nu (.st .nil)))) (lT ok (by omega) ⟨by decide,by decide⟩ zG)) (.nu (.st (.nu (.st (.nu (.ju (.nu (.st .nil)))))))))
theorem Lr:bC 29 c0 (c0.write t):=by
 unfold Cd.write;dsimp only
 with_reducible exact((bC.refl.la.la.la.trans (Ai _)).get.move.with_.trans (jC _ _)).trap.he.move.calc.with_.store.with_.pO.he.store.he.note
theorem RH (ok:eO t) (hp:p+29<=262144):bB (jX t p):=by
 have q:=ok.u;unfold jX;exact(bB.app (bB.app (bB.app (EP ok (by omega) (by unfold eD;omega)) (.nu (.st (.nu (.st .nil))))) (lT ok (by omega) ⟨by decide,by decide⟩ (by unfold eD;omega))) (.st (.st (.st (.nu (.st (.nu (.nu (.st (.nu (.nu (.st .nil))))))))))))
theorem JE:bC 6 c0 (c0.Cq t):=by
 unfold Cd.Cq;dsimp only
 with_reducible exact bC.refl.load.with_.set.calc.calc
theorem Oa (ok:eO t) (hp:p+6<=262144):bB (jr t p):=by
 have q:=ok.u;unfold jr;exact(.nu (.nu (.st (.nu (.st (.st .nil))))))
theorem FJ:bC 3 c0 (c0.zq t):=by
 unfold Cd.zq;dsimp only
 with_reducible exact bC.refl.load.load.store
theorem KA (ok:eO t) (hp:p+3<=262144):bB (iQ t p):=by
 have q:=ok.u;unfold iQ;exact(.nu (.nu (.nu .nil)))
theorem Gp:bC 4 c0 (c0.yY t):=by
 unfold Cd.yY;dsimp only
 with_reducible exact(bC.refl.trans wm).store
theorem LU (ok:eO t) (hp:p+4<=262144):bB (iP t p):=by
 have q:=ok.u;unfold iP;exact(bB.app (BI ok (by omega)) (.nu .nil))
theorem F8:bC 8 c0 (c0.yB t):=by
 unfold Cd.yB;dsimp only
 with_reducible exact((bC.refl.trans CE).load.trans wm).store
theorem KD (ok:eO t) (hp:p+8<=262144):bB (iR t p):=by
 have q:=ok.u;unfold iR;exact(bB.app (bB.app (bB.app (K8 ok (by omega)) (.nu .nil)) (BI ok (by omega))) (.nu .nil))
theorem JZ (rel:Nat):bC 24 c0 (c0.Cb t rel):=by
 unfold Cd.Cb;dsimp only
 with_reducible exact((((bC.refl.trans wm).load.move.set.calc.trans (jC _ _)).move.set.pu.calc.trans (jC _ _)).trans CE).store.set.calc.get.calc.pO
theorem Qe {rel:Int} (ok:eO t) (hp:p+24<=262144) (hrel:eD rel):bB (jD t p rel):=by
 have q:=ok.u;have BR:=hrel;unfold eD at BR;unfold jD;exact(bB.app (bB.app (bB.app (bB.app (bB.app (bB.app (BI ok (by omega)) (.nu (.st (.nu (.st .nil))))) (lT ok (by omega) ⟨by decide,by decide⟩ hrel)) (.st (.nu (.st (.st .nil))))) (lT ok (by omega) ⟨by decide,by decide⟩ hrel)) (K8 ok (by omega))) (.nu (.nu (.st (.nu (.st (.nu .nil)))))))
theorem G_ (rel:Nat):bC 22 c0 (c0.Di t rel):=by
 unfold Cd.Di;dsimp only
 with_reducible exact((((bC.refl.la.trans wm).load.move.with_.ze.with_.trans (jC _ _)).trans CE).load.he.with_.get.calc.trans (jC _ _))
theorem Qn {rel:Int} (ok:eO t) (hp:p+22<=262144) (hrel:eD rel):bB (jy t p rel):=by
 have q:=ok.u;have BR:=hrel;unfold eD at BR;unfold jy;exact(bB.app (bB.app (bB.app (bB.app (bB.app (BI ok (by omega)) (.nu (.st (.nu (.st (.ju (.nu (.st .nil)))))))) (lT ok (by omega) ⟨by decide,by decide⟩ hrel)) (K8 ok (by omega))) (.nu (.nu (.st (.nu (.st .nil)))))) (lT ok (by omega) ⟨by decide,by decide⟩ hrel))
theorem Cr:bC 14 c0 (c0.sO t):=by
 unfold Cd.sO;dsimp only
 with_reducible exact(bC.refl.la.la.get.set.he.ze.trans JE).with_.with_.ju.he
theorem Fq (ok:eO t) (hp:p+14<=262144):bB (gJ t p):=by
 have q:=ok.u;unfold gJ;exact(bB.app (bB.app (.nu (.nu (.ju .nil))) (Oa ok (by omega))) (.nu (.st (.nu (.st (.ju .nil))))))
theorem Dp:bC 11 c0 (c0.rY t):=by
 unfold Cd.rY;dsimp only
 with_reducible exact(bC.refl.la.la.get.set.he.ze.trans FJ).with_.with_.ju.he
theorem Gy (ok:eO t) (hp:p+11<=262144):bB (gG t p):=by
 have q:=ok.u;unfold gG;exact(bB.app (bB.app (.nu (.nu (.ju .nil))) (KA ok (by omega))) (.nu (.st (.nu (.st (.ju .nil))))))
theorem Cy (rel:Nat):bC 37 c0 (c0.sM t rel):=by
 unfold Cd.sM;dsimp only
 with_reducible exact(bC.refl.la.la.la.set.he.move.with_.ze.get.calc.with_.ze.trans (JZ _)).he.with_.ju.he
theorem F5 {rel:Int} (ok:eO t) (hp:p+37<=262144) (hrel:eD rel):bB (gF t p rel):=by
 have q:=ok.u;have BR:=hrel;unfold eD at BR;unfold gF;exact(bB.app (bB.app (.nu (.st (.nu (.st (.ju (.nu (.st (.nu (.st (.ju .nil)))))))))) (Qe ok (by omega) hrel)) (.nu (.st (.ju .nil))))
theorem CJ (rel:Nat):bC 35 c0 (c0.su t rel):=by
 unfold Cd.su;dsimp only
 with_reducible exact(bC.refl.la.la.la.set.he.move.with_.ze.get.calc.with_.ze.trans (G_ _)).he.with_.ju.he
theorem F4 {rel:Int} (ok:eO t) (hp:p+35<=262144) (hrel:eD rel):bB (gK t p rel):=by
 have q:=ok.u;have BR:=hrel;unfold eD at BR;unfold gK;exact(bB.app (bB.app (.nu (.st (.nu (.st (.ju (.nu (.st (.nu (.st (.ju .nil)))))))))) (Qn ok (by omega) hrel)) (.nu (.st (.ju .nil))))
theorem CQ:bC 17 c0 (c0.sG t):=by
 unfold Cd.sG;dsimp only
 with_reducible exact(bC.refl.la.la.la.set.he.move.with_.ze.get.calc.with_.ze.trans Gp).he.with_.ju.he
theorem Fg (ok:eO t) (hp:p+17<=262144):bB (gI t p):=by
 have q:=ok.u;unfold gI;exact(bB.app (bB.app (.nu (.st (.nu (.st (.ju (.nu (.st (.nu (.st (.ju .nil)))))))))) (LU ok (by omega))) (.nu (.st (.ju .nil))))
theorem BZ:bC 21 c0 (c0.sS t):=by
 unfold Cd.sS;dsimp only
 with_reducible exact(bC.refl.la.la.la.set.he.move.with_.ze.get.calc.with_.ze.trans F8).he.with_.ju.he
theorem F7 (ok:eO t) (hp:p+21<=262144):bB (gD t p):=by
 have q:=ok.u;unfold gD;exact(bB.app (bB.app (.nu (.st (.nu (.st (.ju (.nu (.st (.nu (.st (.ju .nil)))))))))) (KD ok (by omega))) (.nu (.st (.ju .nil))))
theorem LM (rel:Nat):bC 53 c0 (c0.aN t rel):=by
 unfold Cd.aN;dsimp only
 with_reducible exact((bC.refl.set.trans Cr).pO.trans (Cy _))
theorem SC {rel:Int} (ok:eO t) (hp:p+53<=262144) (hrel:eD rel):bB (jU t p rel):=by
 have q:=ok.u;have BR:=hrel;unfold eD at BR;unfold jU;exact(bB.app (bB.app (bB.app (.nu .nil) (Fq ok (by omega))) (.nu .nil)) (F5 ok (by omega) hrel))
theorem D6 (rel:Nat):bC 35 c0 (c0.validate t rel):=by
 unfold Cd.validate;dsimp only
 with_reducible exact(bC.refl.trans (CJ _))
theorem Io {rel:Int} (ok:eO t) (hp:p+35<=262144) (hrel:eD rel):bB (iw t p rel):=by
 have q:=ok.u;have BR:=hrel;unfold eD at BR;unfold iw;exact(F4 ok (by omega) hrel)
theorem IC (abort:Nat):bC 169 c0 (c0.aL t abort):=by
 unfold Cd.aL;dsimp only
 with_reducible exact(((((((bC.refl.la.la.la.la.get.ze.trans (LM _)).set.pu.with_.pO.move.with_.trans (jC _ _)).trap.he.trans (D6 _)).get.set.note.trans Dp).get.calc.trans CQ).ju.he.trans BZ).ju.he.get.note.he.trans P_)
theorem Qr {abort:Int} (ok:eO t) (hp:p+169<=262144) (zG:eD abort):bB (iJ t p abort):=by
 have q:=ok.u;have Mr:=zG;unfold eD at Mr;unfold iJ;exact(bB.app (bB.app (bB.app (bB.app (bB.app (bB.app (bB.app (bB.app (bB.app (bB.app (bB.app (bB.app (bB.app (.nu (.ju .nil)) (SC ok (by omega) (by unfold eD;omega))) (.nu (.nu (.nu (.st (.nu (.st (.nu (.st .nil))))))))) (lT ok (by omega) ⟨by decide,by decide⟩ (by unfold eD;omega))) (.st .nil)) (Io ok (by omega) (by unfold eD;omega))) (.nu (.nu (.st .nil)))) (Gy ok (by omega))) (.nu (.st .nil))) (Fg ok (by omega))) (.ju .nil)) (F7 ok (by omega))) (.ju (.nu (.st .nil)))) (Wl ok (by omega)))
theorem JW:bC 8 c0 (c0.Ac t):=by
 unfold Cd.Ac;dsimp only
 with_reducible exact bC.refl.get.pO.pO.pO.pO.pO.pu.pO
theorem Qb (ok:eO t) (hp:p+8<=262144):bB (jw t p):=by
 have q:=ok.u;unfold jw;exact(.nu (.nu (.nu (.nu (.nu (.nu (.nu (.nu .nil))))))))
theorem Jo (mZ:Int) (l9:Int) (ov:Int) (abort:Nat):bC 48 c0 (c0.zS t mZ l9 ov abort):=by
 unfold Cd.zS;dsimp only
 with_reducible exact(bC.refl.set.trans (Qg _)).load.calc.store
theorem I4 (mZ:Int) (l9:Int) (ov:Int) (abort:Nat):bC 33 c0 (c0.Aa t mZ l9 ov abort):=by
 unfold Cd.Aa;dsimp only
 with_reducible exact(bC.refl.set.load.with_.trans Lr)
end
section
variable {V:Nat->Int} {c c0 c1 c2:Cd} {p q n m:Nat} {ls:List Int} {R:List bM} {t:dw}
def nR (o:Tx):Nat:=if o.kind=2 then 48 else 33
def IE (o:Tx):Nat:=if o.kind=2 then 7 else 6
def sJ (t:dw) (V:Nat->Int) (q:Nat) (o:Tx) (abort:Nat):List bM:=if o.kind=2 then oF t V q o.th o.at_ o.v abort else oK t V q o.th o.at_ o.v abort
def n_ (p:Nat) (o:Tx):List Int:=if o.kind=2 then kR p else kZ p
def kQ (t:dw) (p:Nat) (o:Tx) (A:Int):List bM:=if o.kind=2 then jv t p o.th o.at_ o.v A else jB t p o.th o.at_ o.v A
theorem rT (p:Nat) (o:Tx):(n_ p o).length=IE o:=by unfold n_ IE;split;exact Bt p;exact Ba p
theorem vE (t:dw) (p:Nat) (o:Tx) (A:Int):(kQ t p o A).length=nR o:=by unfold kQ nR;split;exact Ad _ _ _ _ _ _;exact zV _ _ _ _ _ _
theorem Wq (h:At V c0 p ls R) (o:Tx) (abort:Nat) (hp:p+nR o<=262144):At V (c0.once t o abort) (p+nR o) (ls++n_ p o) (R++sJ t V ls.length o abort):=by
 unfold Cd.once nR n_ sJ at*;split
 ·rename_i hk;rw[if_pos hk] at hp;exact Qi h o.th o.at_ o.v abort hp
 ·rename_i hk;rw[if_neg hk] at hp;exact Ph h o.th o.at_ o.v abort hp
theorem Yx (o:Tx) (abort:Nat) (h:bP V q (n_ p o)):sJ t V q o abort=kQ t p o (V abort):=by
 unfold sJ kQ n_ at*;split
 ·rename_i hk;rw[if_pos hk] at h;exact R5 _ _ _ _ h
 ·rename_i hk;rw[if_neg hk] at h;exact Rf _ _ _ _ h
theorem Qu (o:Tx) (abort:Nat):bC (nR o) c0 (c0.once t o abort):=by
 unfold Cd.once nR;split
 ·exact Jo _ _ _ _
 ·exact I4 _ _ _ _
def yG (o:Tx):Prop:=In64 o.at_/\In64 o.v
theorem U4 {o:Tx} {A:Int} (ok:eO t) (hp:p+nR o<=262144) (hw:yG o) (hA:eD A):bB (kQ t p o A):=by
 unfold kQ nR at*;split
 ·rename_i hk;rw[if_pos hk] at hp;unfold jv;obtain⟨⟨w1,w2⟩,⟨l1,l2⟩,⟨r1,r2⟩,⟨a1,a2⟩,⟨b1,b2⟩,⟨t1,t2⟩,⟨s1,s2⟩⟩:=id ok;exact bB.app (bB.app (.nu .nil (hn:=hw.1)) (We ok (by omega) hA)) (.nu (.st (.nu .nil)))
 ·rename_i hk;rw[if_neg hk] at hp;unfold jB;obtain⟨⟨w1,w2⟩,⟨l1,l2⟩,⟨r1,r2⟩,⟨a1,a2⟩,⟨b1,b2⟩,⟨t1,t2⟩,⟨s1,s2⟩⟩:=id ok;exact bB.app (.nu (.nu (.nu (.st .nil) (hn:=hw.2))) (hn:=hw.1)) (RH ok (by omega))
def aS (l:List Tx):Nat:=(l.map nR).sum
def qO (l:List Tx):Nat:=(l.map IE).sum
theorem kL (o:Tx) (l:List Tx):aS (o::l)=nR o+aS l:=by simp[aS]
theorem IP (o:Tx) (l:List Tx):qO (o::l)=IE o+qO l:=by simp[qO]
def qQ (t:dw) (V:Nat->Int):Nat->List Tx->Nat->List bM
 |_,[],_=>[]
 |q,o::l,A=>sJ t V q o A++qQ t V (q+IE o) l A
def nH:Nat->List Tx->List Int
 |_,[]=>[]
 |p,o::l=>n_ p o++nH (p+nR o) l
def lM (t:dw):Nat->List Tx->Int->List bM
 |_,[],_=>[]
 |p,o::l,A=>kQ t p o A++lM t (p+nR o) l A
theorem uq (l:List Tx):∀p,(nH p l).length=qO l:=by
 induction l with
 |nil=>intro p;rfl
 |cons o l ih=>intro p;rw[nH,List.length_append,rT,ih,IP]
theorem mG (t:dw) (A:Int) (l:List Tx):∀p,(lM t p l A).length=aS l:=by
 induction l with
 |nil=>intro p;rfl
 |cons o l ih=>intro p;rw[lM,List.length_append,vE,ih,kL]
theorem Y3 (abort:Nat) (l:List Tx):∀{c0:Cd} {p:Nat} {ls:List Int} {R:List bM},At V c0 p ls R->p+aS l<=262144->At V (l.foldl (fun c o=>c.once t o abort) c0) (p+aS l) (ls++nH p l) (R++qQ t V ls.length l abort):=by
 induction l with
 |nil=>intro c0 p ls R h _;simpa [aS,nH,qQ] using h
 |cons o l ih=>
  intro c0 p ls R h hp;rw[kL] at hp;have h1:=Wq (t:=t) h o abort (by omega);have h2:=ih h1 (by omega);rw[List.foldl_cons];refine h2.cast (by rw[kL];omega) (by rw[nH,List.append_assoc]) ?_;rw[qQ,List.append_assoc,List.length_append,rT]
theorem aav (abort:Nat) (l:List Tx):∀{p q:Nat},bP V q (nH p l)->qQ t V q l abort=lM t p l (V abort):=by
 induction l with
 |nil=>intro p q _;rfl
 |cons o l ih=>
  intro p q h;rw[nH] at h;rw[qQ,lM,Yx o abort h.left,ih (h.right (rT p o))]
theorem QX (abort:Nat) (l:List Tx):∀{c0:Cd},bC (aS l) c0 (l.foldl (fun c o=>c.once t o abort) c0):=by
 induction l with
 |nil=>intro c0;exact bC.refl
 |cons o l ih=>intro c0;rw[kL,List.foldl_cons];exact(Qu o abort).trans ih
theorem Yi {A:Int} (ok:eO t) (hA:eD A) (l:List Tx):∀{p:Nat},p+aS l<=262144->(∀o∈l,yG o)->bB (lM t p l A):=by
 induction l with
 |nil=>intro p _ _;exact bB.nil
 |cons o l ih=>
  intro p hp hw;rw[kL] at hp;exact(U4 ok (by omega) (hw o List.mem_cons_self) hA).app (ih (by omega) (fun x hx=>hw x (List.mem_cons_of_mem _ hx)))
def pU (l:List Tx):Nat:=185+aS l
def Sr (l:List Tx):Nat:=31+qO l
def vz (t:dw) (V:Nat->Int) (q:Nat) (l:List Tx):List bM:=
 oP t V (q+3)++[⟨5,0,7,7,0,t.sum⟩]++qQ t V (q+3) l (q+1)++oL t V (q+3+qO l) (q+1)++[⟨4,0,1,7,0,t.sum⟩,⟨11,0,1,0,0,0⟩,⟨6,0,0,0,0,V (q+2)⟩]++qD t V (q+31+qO l)++[⟨6,0,0,0,0,V q⟩]
def qU (p:Nat) (l:List Tx):List Int:=[(p:Int),((p+181+aS l:Nat):Int),((p+185+aS l:Nat):Int)]++(nH (p+9) l++kW (p+9+aS l))
def kD (t:dw) (p:Nat) (l:List Tx):List bM:=
 jw t p++[⟨5,0,7,7,0,t.sum⟩]++lM t (p+9) l ((p+181+aS l:Nat):Int)++iJ t (p+9+aS l) ((p+181+aS l:Nat):Int)++[⟨4,0,1,7,0,t.sum⟩,⟨11,0,1,0,0,0⟩,⟨6,0,0,0,0,((p+185+aS l:Nat):Int)⟩]++lJ t (p+181+aS l)++[⟨6,0,0,0,0,(p:Int)⟩]
theorem yA (p:Nat) (l:List Tx):(qU p l).length=Sr l:=by simp[qU,uq,uS,Sr];omega
theorem xC (t:dw) (p:Nat) (l:List Tx):(kD t p l).length=pU l:=by simp[kD,zX,mG,lU,uV,pU];omega
theorem YH (h:At V c0 p ls R) (l:List Tx) (hp:p+pU l<=262144):At V (c0.WX t l) (p+pU l) (ls++qU p l) (R++vz t V ls.length l):=by
 obtain rfl:=h.aI;unfold pU at*;have h1:=h.label;have h2:=h1.label;have h3:=h2.label;have h4:=h3.here (c0).aI.length;have h5:=Po (t:=t) h4 (by omega);have h6:=h5.put ⟨5,0,7,7,0,t.sum⟩ (by omega);have h7:=Y3 (t:=t) (c0.label).aI.length l h6 (by omega);have h8:=OT (t:=t) h7 (c0.label).aI.length (by omega);have h9:=h8.put ⟨4,0,1,7,0,t.sum⟩ (by omega);have h10:=h9.put ⟨11,0,1,0,0,0⟩ (by omega);have h11:=h10.jump (c0.label.label).aI.length (by omega);have h12:=h11.here (c0.label).aI.length;have D8:=SS (t:=t) h12 (by omega);have yh:=D8.jump (c0).aI.length (by omega);have FK:=yh.here (c0.label.label).aI.length;refine FK.cast (by omega) ?_ ?_
 ·simp only[qU,Cd.label,eH,dQ,List.length_append,List.length_cons,List.length_nil,List.append_assoc,List.cons_append,List.nil_append,List.set_cons_zero,List.set_cons_succ,Br,CO,Nat.zero_add];have e1:jY p=[]:=rfl;have e2:∀p,lH p=[]:=fun _=>rfl
  simp only[e1,e2,List.append_nil,List.nil_append];simp;omega
 ·have e1:jY p=[]:=rfl;have e2:∀p,lH p=[]:=fun _=>rfl
  simp[vz,Cd.label,e1,e2,uq,uS];simp[Nat.add_assoc];rw[show qO l+3=3+qO l from by omega,show qO l+31=31+qO l from by omega]
theorem Ru (l:List Tx):bC (pU l) c0 (c0.WX t l):=by
 have a1:=bC.label (c:=c0);have a2:=bC.trans a1 bC.label;have a3:=bC.trans a2 bC.label;have a4:=bC.trans a3 (bC.here (c0).aI.length);have a5:=bC.trans a4 (JW (t:=t));have a6:=bC.trans a5 (bC.put ⟨5,0,7,7,0,t.sum⟩);have a7:=bC.trans a6 (QX (t:=t) (c0.label).aI.length l);have a8:=bC.trans a7 (IC (t:=t) (c0.label).aI.length);have a9:=bC.trans a8 (bC.put ⟨4,0,1,7,0,t.sum⟩);have a10:=bC.trans a9 (bC.put ⟨11,0,1,0,0,0⟩);have a11:=bC.trans a10 (bC.jump (c0.label.label).aI.length);have a12:=bC.trans a11 (bC.here (c0.label).aI.length);have a13:=bC.trans a12 (Mq (t:=t));have a14:=bC.trans a13 (bC.jump (c0).aI.length);have a15:=bC.trans a14 (bC.here (c0.label.label).aI.length);have e:0+0+0+0+8+1+aS l+169+1+1+1+0+3+1+0=pU l:=by unfold pU;omega
 rw[<-e];exact a15
theorem ZJ (l:List Tx) (h:bP V q (qU p l)):vz t V q l=kD t p l:=by
 unfold qU at h;have e0:=h.left.oC;have e1:=h.left.QD;have e2:=h.left.at2;have s:=h.right (n:=3) (by simp);have s1:=s.left;have s2:=s.right (uq l (p+9));unfold vz kD;rw[aav (q+1) l s1,Sm (q+1) s2,e0,e1,e2,SF (p:=p) (fun i v hv=>by simp[jY] at hv),Wy (p:=p+181+aS l) (fun i v hv=>by simp[lH] at hv)]
theorem XQ (ok:eO t) (l:List Tx) (hp:p+pU l<=262144) (hw:∀o∈l,yG o):bB (kD t p l):=by
 unfold pU at hp;have hA:eD ((p+181+aS l:Nat):Int):=by unfold eD;omega
 obtain⟨⟨w1,w2⟩,⟨l1,l2⟩,⟨r1,r2⟩,⟨a1,a2⟩,⟨b1,b2⟩,⟨t1,t2⟩,⟨s1,s2⟩⟩:=id ok;unfold kD;refine((((((Qb ok (by omega)).app (.nu .nil)).app (Yi ok hA l (by omega) hw)).app (Qr ok (by omega) hA)).app (.nu (.st (.ju .nil)))).app (TA ok (by omega))).app (.ju .nil)
def iq (rs:List (List Tx)):Nat:=(rs.map pU).sum
theorem iM (l:List Tx) (rs:List (List Tx)):iq (l::rs)=pU l+iq rs:=by simp[iq]
def nU (t:dw) (V:Nat->Int):Nat->List (List Tx)->List bM
 |_,[]=>[]
 |q,l::rs=>vz t V q l++nU t V (q+Sr l) rs
def lW:Nat->List (List Tx)->List Int
 |_,[]=>[]
 |p,l::rs=>qU p l++lW (p+pU l) rs
def ji (t:dw):Nat->List (List Tx)->List bM
 |_,[]=>[]
 |p,l::rs=>kD t p l++ji t (p+pU l) rs
theorem vV (t:dw) (rs:List (List Tx)):∀p,(ji t p rs).length=iq rs:=by
 induction rs with
 |nil=>intro p;rfl
 |cons l rs ih=>intro p;rw[ji,List.length_append,xC,ih,iM]
theorem Vn (rs:List (List Tx)):∀{c0:Cd} {p:Nat} {ls:List Int} {R:List bM},At V c0 p ls R->p+iq rs<=262144->At V (rs.foldl (fun c l=>c.WX t l) c0) (p+iq rs) (ls++lW p rs) (R++nU t V ls.length rs):=by
 induction rs with
 |nil=>intro c0 p ls R h _;simpa [iq,lW,nU] using h
 |cons l rs ih=>
  intro c0 p ls R h hp;rw[iM] at hp;have h1:=YH (t:=t) h l (by omega);have h2:=ih h1 (by omega);rw[List.foldl_cons];refine h2.cast (by rw[iM];omega) (by rw[lW,List.append_assoc]) ?_;rw[nU,List.append_assoc,List.length_append,yA]
theorem XT (rs:List (List Tx)):∀{p q:Nat},bP V q (lW p rs)->nU t V q rs=ji t p rs:=by
 induction rs with
 |nil=>intro p q _;rfl
 |cons l rs ih=>
  intro p q h;rw[lW] at h;rw[nU,ji,ZJ l h.left,ih (h.right (yA p l))]
theorem Qs (rs:List (List Tx)):∀{c0:Cd},bC (iq rs) c0 (rs.foldl (fun c l=>c.WX t l) c0):=by
 induction rs with
 |nil=>intro c0;exact bC.refl
 |cons l rs ih=>intro c0;rw[iM,List.foldl_cons];exact(Ru l).trans ih
theorem VD (ok:eO t) (rs:List (List Tx)):∀{p:Nat},p+iq rs<=262144->(∀l∈rs,∀o∈l,yG o)->bB (ji t p rs):=by
 induction rs with
 |nil=>intro p _ _;exact bB.nil
 |cons l rs ih=>
  intro p hp hw;rw[iM] at hp;exact(XQ ok l (by omega) (hw l List.mem_cons_self)).app (ih (by omega) (fun x hx=>hw x (List.mem_cons_of_mem _ hx)))
def ig (rs:List (List Tx)):Nat:=3+iq rs
def bI (t:dw) (rs:List (List Tx)):List bM:=lF t 0++ji t 2 rs++[⟨14,0,0,0,0,0⟩]
theorem EF (t:dw) (rs:List (List Tx)):(bI t rs).length=ig rs:=by simp[bI,pJ,vV,ig];omega
theorem Zb:At V Cd.new 0 [] []:=⟨rfl,rfl,rfl,fun x hx=>(by cases hx),rfl⟩
theorem zM {rs:List (List Tx)} (h:ig rs<=262144):(gU t rs).halt.over=false/\(gU t rs).halt.done=bI t rs/\(gU t rs).halt.ops.length=ig rs:=by
 unfold ig at h⊢;have key:∀V,At V (gU t rs).halt (2+iq rs+1) ([]++oz 0++lW 2 rs) ([]++qL t V 0++nU t V 0 rs++[⟨14,0,0,0,0,0⟩]):=fun V=>by
  have h1:=R8 (t:=t) (Zb (V:=V)) (by omega);have h2:=Vn (t:=t) rs h1 (by omega);exact(h2.put ⟨14,0,0,0,0,0⟩ (by omega)).cast (by omega) (by rw[Nat.zero_add]) rfl
 have h0:=key (fun q=>(gU t rs).halt.aI.getD q 0);refine⟨h0.over,?_,by rw[h0.len];omega⟩;have hd:(gU t rs).halt.done=rsv (fun q=>(gU t rs).halt.aI.getD q 0) (gU t rs).halt:=rfl;rw[hd,h0.res,h0.aI];have hs:oz 0=[]:=rfl;have hv:bP (fun q=>(lW 2 rs).getD q 0) 0 (lW 2 rs):=fun i v hv=>by
  rw[Nat.zero_add];simp[List.getD_eq_getElem?_getD,hv]
 rw[hs,List.nil_append,List.nil_append,List.nil_append,XT rs hv,VG (p:=0) (fun i v hv=>by simp[oz] at hv)];rfl
theorem Et {rs:List (List Tx)} (h:(gU t rs).halt.over=false):ig rs<=262144:=by
 have a:=((LA (t:=t) (c0:=Cd.new)).trans (Qs (t:=t) rs)).trans (bC.put ⟨14,0,0,0,0,0⟩);have:=(a h).2.2 (by omega);unfold ig;simp[Cd.new] at this;omega
theorem FQ {rs:List (List Tx)} (ok:eO t) (h:ig rs<=262144) (hw:∀l∈rs,∀o∈l,yG o):bB (bI t rs):=by
 unfold ig at h;exact((Rq ok (by omega)).app (VD ok rs (by omega) hw)).app (.st .nil)
theorem TT (o:Tx):nR o<=48:=by unfold nR;split<;>omega
theorem Pd (l:List Tx):aS l<=48*l.length:=by
 induction l with
 |nil=>simp[aS]
 |cons o l ih=>rw[kL,List.length_cons];have:=TT o;omega
theorem Al {rs:List (List Tx)} (h:∀l∈rs,l.length<=8):iq rs<=569*rs.length:=by
 induction rs with
 |nil=>simp[iq]
 |cons l rs ih=>
  rw[iM,List.length_cons];have h1:=Pd l;have h2:=h l List.mem_cons_self;have h3:=ih (fun x hx=>h x (List.mem_cons_of_mem _ hx));unfold pU;omega
end
theorem dR {a b v:Int} (h:fq (a+b)=v):gL 1 a b=some v:=congrArg some h
theorem qH {a b v:Int} (h:fq (a - b)=v):gL 2 a b=some v:=congrArg some h
theorem vo {a b:Int} (h:a<b):gL 13 a b=some 1:=by show some (vM (decide (a<b)))=_;rw[decide_eq_true h];rfl
theorem BD {a b:Int} (h:¬a<b):gL 13 a b=some 0:=by show some (vM (decide (a<b)))=_;rw[decide_eq_false h];rfl
theorem wJ (a:Int):gL 6 a 1=some (a%2):=by show some (bits BinOp.and IntKind.i64 a 1)=_;rw[Uv]
theorem Kt (a:Int):gL 6 a 15=some (a%16):=by show some (bits BinOp.and IntKind.i64 a 15)=_;rw[Ut]
theorem XU (x:Int):bits BinOp.and IntKind.i64 x 63=x%64:=Dq x 6 (by decide)
theorem EY {x:Int} (h:0<=x/\x<18446744073709551616):IntKind.u64.wrap x=x:=by rw[IntKind.wrap_u64];omega
theorem AR {s:Nat} (hs:s<16):min (IntKind.u64.wrap (bits BinOp.and IntKind.i64 (s:Int) 63)).toNat 64=s:=by
 rw[XU,EY (by omega)];omega
theorem JR {a:Int} {s:Nat} (ha:0<=a/\a<9223372036854775808) (hs:s<16):gL 10 a (s:Int)=some (a/2 ^ s):=by
 show some (fq (IntKind.u64.wrap a/2 ^ min (IntKind.u64.wrap (bits BinOp.and IntKind.i64 (s:Int) 63)).toNat 64))=_;rw[AR hs,EY (by omega),eT];have h1:0<=a/2 ^ s:=Int.ediv_nonneg ha.1 (Int.le_of_lt (Int.pow_pos (by decide)));have h2:a/2 ^ s<=a:=Int.ediv_le_self _ ha.1;omega
theorem El {a:Int} (ha:0<=a/\a<9223372036854775808):gL 10 a 1=some (a/2):=by
 have:=JR (s:=1) ha (by decide);simpa using this
theorem sw {s:Nat} (hs:s<16):(2:Nat) ^ s<65536:=Nat.pow_lt_pow_right (n:=16) (by decide) hs
theorem Dm {s:Nat} (hs:s<16):gL 9 1 (s:Int)=some ((2 ^ s:Nat):Int):=by
 show some (fq (1*2 ^ min (IntKind.u64.wrap (bits BinOp.and IntKind.i64 (s:Int) 63)).toNat 64))=_;have e1:((2:Int) ^ s)=((2 ^ s:Nat):Int):=(Int.natCast_pow 2 s).symm;have h:=sw hs;rw[AR hs,Int.one_mul,e1];generalize 2 ^ s=z at h;rw[eT (by omega)]
theorem Gz {m k:Nat} (hm:m<65536) (hk:k<65536):gL 7 (m:Int) (k:Int)=some ((m|||k:Nat):Int):=by
 show some (bits BinOp.or IntKind.i64 (m:Int) (k:Int))=_;unfold bits;show some (IntKind.i64.wrap ((BitVec.ofInt 64 (m:Int)|||BitVec.ofInt 64 (k:Int)).toNat:Int))=_;have h:m|||k<65536:=Nat.or_lt_two_pow (n:=16) hm hk;rw[BitVec.ofInt_natCast,BitVec.ofInt_natCast,BitVec.toNat_or,BitVec.toNat_ofNat,BitVec.toNat_ofNat,Nat.mod_eq_of_lt (Nat.lt_of_lt_of_le hm (by decide)),Nat.mod_eq_of_lt (Nat.lt_of_lt_of_le hk (by decide)),IntKind.wrap_i64];generalize m|||k=z at h
 have e:((z:Int)+9223372036854775808)%18446744073709551616 - 9223372036854775808=z:=by omega
 rw[e]
theorem Rt {H:Nat} (s:Nat):((H:Int)/2 ^ s)%2=if H.testBit s=true then 1 else 0:=by
 have e1:((H:Int)/2 ^ s)%2=((H/2 ^ s%2:Nat):Int):=by rw[Int.natCast_emod,Int.natCast_ediv,Int.natCast_pow];rfl
 rw[e1];have e2:H.testBit s=decide (H/2 ^ s%2=1):=Nat.testBit_eq_decide_div_mod_eq;rw[e2];by_cases h:H/2 ^ s%2=1
 ·rw[h];simp
 ·have:H/2 ^ s%2=0:=by omega
  rw[this];simp
def Xu (t:dw):List bM:=[⟨4,0,1,7,0,t.base+4⟩,⟨5,0,7,1,0,t.base+5⟩,⟨5,0,7,7,0,t.base+1⟩,⟨5,0,7,7,0,t.base+2⟩,⟨5,0,7,7,0,t.base+3⟩,⟨5,0,7,7,0,t.base+6⟩,⟨15,0,0,7,0,t.words+1⟩,⟨5,0,7,0,0,t.base+0⟩,⟨5,0,7,7,0,t.sum⟩]
def MR (t:dw) (p:Nat) (A l9:Int):List bM:=[⟨1,0,1,0,0,l9⟩,⟨4,0,3,7,0,t.base+2⟩,⟨7,0,3,0,0,((p+13:Nat):Int)⟩,⟨1,0,4,0,0,1⟩,⟨3,2,3,4,0,0⟩,⟨2,0,5,3,0,0⟩,⟨3,1,5,5,0,0⟩,⟨1,0,4,0,0,t.log⟩,⟨3,1,5,4,0,0⟩,⟨4,0,6,5,0,0⟩,⟨3,2,6,1,0,0⟩,⟨7,0,6,0,0,((p+43:Nat):Int)⟩,⟨6,0,0,0,0,((p+2:Nat):Int)⟩,⟨2,0,5,1,0,0⟩,⟨1,0,4,0,0,15⟩,⟨3,6,5,4,0,0⟩,⟨2,0,0,5,0,0⟩,⟨1,0,4,0,0,(t.words+2)⟩,⟨3,1,5,4,0,0⟩,⟨4,0,3,5,0,0⟩,⟨2,0,6,3,0,0⟩,⟨1,0,4,0,0,1⟩,⟨3,6,6,4,0,0⟩,⟨7,0,6,0,0,((p+25:Nat):Int)⟩,⟨6,0,0,0,0,A⟩,⟨2,0,6,3,0,0⟩,⟨1,0,4,0,0,1⟩,⟨3,10,6,4,0,0⟩,⟨4,0,4,7,0,t.base+0⟩,⟨3,13,4,6,0,0⟩,⟨7,0,4,0,0,((p+32:Nat):Int)⟩,⟨6,0,0,0,0,A⟩,⟨4,0,2,1,0,0⟩,⟨4,0,4,5,0,0⟩,⟨3,2,4,3,0,0⟩,⟨7,0,4,0,0,((p+37:Nat):Int)⟩,⟨6,0,0,0,0,A⟩,⟨1,0,4,0,0,1⟩,⟨3,9,4,0,0,0⟩,⟨4,0,6,7,0,t.base+1⟩,⟨3,7,6,4,0,0⟩,⟨5,0,7,6,0,t.base+1⟩,⟨6,0,0,0,0,((p+44:Nat):Int)⟩,⟨4,0,2,5,0,1⟩,⟨12,0,1,2,0,2⟩,⟨4,0,1,7,0,t.sum⟩,⟨3,1,1,2,0,0⟩,⟨5,0,7,1,0,t.sum⟩]
def Fs (t:dw) (p:Nat) (l9 ov:Int):List bM:=[⟨1,0,1,0,0,l9⟩,⟨4,0,2,7,0,t.sum⟩,⟨1,0,3,0,0,ov⟩,⟨3,1,2,3,0,0⟩,⟨4,0,3,7,0,t.base+2⟩,⟨7,0,3,0,0,((p+16:Nat):Int)⟩,⟨1,0,4,0,0,1⟩,⟨3,2,3,4,0,0⟩,⟨2,0,5,3,0,0⟩,⟨3,1,5,5,0,0⟩,⟨1,0,4,0,0,t.log⟩,⟨3,1,5,4,0,0⟩,⟨4,0,6,5,0,0⟩,⟨3,2,6,1,0,0⟩,⟨7,0,6,0,0,((p+31:Nat):Int)⟩,⟨6,0,0,0,0,((p+5:Nat):Int)⟩,⟨4,0,3,7,0,t.base+2⟩,⟨2,0,4,3,0,0⟩,⟨1,0,6,0,0,64⟩,⟨3,13,4,6,0,0⟩,⟨7,0,4,0,0,((p+22:Nat):Int)⟩,⟨6,0,0,0,0,((p+23:Nat):Int)⟩,⟨13,0,0,0,0,6⟩,⟨2,0,5,3,0,0⟩,⟨3,1,5,5,0,0⟩,⟨1,0,4,0,0,t.log⟩,⟨3,1,5,4,0,0⟩,⟨5,0,5,1,0,0⟩,⟨1,0,4,0,0,1⟩,⟨3,1,3,4,0,0⟩,⟨5,0,7,3,0,t.base+2⟩,⟨5,0,5,2,0,1⟩,⟨12,0,1,2,0,3⟩]
def GD (t:dw) (p:Nat) (A:Int):List bM:=[⟨4,0,0,7,0,t.base+2⟩,⟨7,0,0,0,0,((p+157:Nat):Int)⟩,⟨1,0,2,0,0,0⟩,⟨4,0,6,7,0,t.base+2⟩,⟨1,0,5,0,0,t.log⟩,⟨7,0,6,0,0,((p+17:Nat):Int)⟩,⟨4,0,3,5,0,0⟩,⟨1,0,4,0,0,15⟩,⟨3,6,3,4,0,0⟩,⟨1,0,4,0,0,1⟩,⟨3,9,4,3,0,0⟩,⟨3,7,2,4,0,0⟩,⟨1,0,4,0,0,2⟩,⟨3,1,5,4,0,0⟩,⟨1,0,4,0,0,1⟩,⟨3,2,6,4,0,0⟩,⟨6,0,0,0,0,((p+5:Nat):Int)⟩,⟨5,0,7,2,0,t.base+7⟩,⟨1,0,6,0,0,0⟩,⟨2,0,4,6,0,0⟩,⟨1,0,3,0,0,16⟩,⟨3,13,4,3,0,0⟩,⟨7,0,4,0,0,((p+55:Nat):Int)⟩,⟨4,0,4,7,0,t.base+7⟩,⟨3,10,4,6,0,0⟩,⟨1,0,3,0,0,1⟩,⟨3,6,4,3,0,0⟩,⟨7,0,4,0,0,((p+52:Nat):Int)⟩,⟨2,0,5,6,0,0⟩,⟨1,0,4,0,0,(t.words+2)⟩,⟨3,1,5,4,0,0⟩,⟨4,0,3,5,0,0⟩,⟨2,0,4,3,0,0⟩,⟨1,0,2,0,0,1⟩,⟨3,6,4,2,0,0⟩,⟨7,0,4,0,0,((p+37:Nat):Int)⟩,⟨6,0,0,0,0,((p+135:Nat):Int)⟩,⟨2,0,4,3,0,0⟩,⟨1,0,2,0,0,(2*t.th+1)⟩,⟨8,0,5,4,2,0⟩,⟨3,2,4,3,0,0⟩,⟨7,0,4,0,0,((p+43:Nat):Int)⟩,⟨6,0,0,0,0,((p+135:Nat):Int)⟩,⟨2,0,5,6,0,0⟩,⟨1,0,4,0,0,(t.base+8)⟩,⟨3,1,5,4,0,0⟩,⟨5,0,5,3,0,0⟩,⟨1,0,4,0,0,1⟩,⟨3,9,4,6,0,0⟩,⟨4,0,3,7,0,t.base+6⟩,⟨3,7,3,4,0,0⟩,⟨5,0,7,3,0,t.base+6⟩,⟨1,0,3,0,0,1⟩,⟨3,1,6,3,0,0⟩,⟨6,0,0,0,0,((p+19:Nat):Int)⟩,⟨1,0,1,0,0,1⟩,⟨9,0,7,1,0,t.words+1⟩,⟨1,0,4,0,0,1⟩,⟨3,1,1,4,0,0⟩,⟨5,0,7,1,0,t.base+7⟩,⟨2,0,2,1,0,0⟩,⟨1,0,4,0,0,2305843009213693952⟩,⟨3,13,2,4,0,0⟩,⟨7,0,2,0,0,((p+65:Nat):Int)⟩,⟨6,0,0,0,0,((p+66:Nat):Int)⟩,⟨13,0,0,0,0,7⟩,⟨1,0,6,0,0,0⟩,⟨2,0,4,6,0,0⟩,⟨1,0,3,0,0,16⟩,⟨3,13,4,3,0,0⟩,⟨7,0,4,0,0,((p+101:Nat):Int)⟩,⟨4,0,4,7,0,t.base+1⟩,⟨3,10,4,6,0,0⟩,⟨1,0,3,0,0,1⟩,⟨3,6,4,3,0,0⟩,⟨7,0,4,0,0,((p+98:Nat):Int)⟩,⟨2,0,5,6,0,0⟩,⟨1,0,4,0,0,(t.words+2)⟩,⟨3,1,5,4,0,0⟩,⟨4,0,2,5,0,0⟩,⟨2,0,4,2,0,0⟩,⟨1,0,3,0,0,1⟩,⟨3,6,4,3,0,0⟩,⟨7,0,4,0,0,((p+92:Nat):Int)⟩,⟨1,0,3,0,0,(2*t.th+1)⟩,⟨3,2,2,3,0,0⟩,⟨7,0,2,0,0,((p+88:Nat):Int)⟩,⟨6,0,0,0,0,((p+135:Nat):Int)⟩,⟨2,0,5,6,0,0⟩,⟨1,0,4,0,0,(t.base+8)⟩,⟨3,1,5,4,0,0⟩,⟨4,0,2,5,0,0⟩,⟨1,0,3,0,0,1⟩,⟨3,10,2,3,0,0⟩,⟨4,0,4,7,0,t.base+0⟩,⟨3,13,4,2,0,0⟩,⟨7,0,4,0,0,((p+98:Nat):Int)⟩,⟨6,0,0,0,0,((p+135:Nat):Int)⟩,⟨1,0,3,0,0,1⟩,⟨3,1,6,3,0,0⟩,⟨6,0,0,0,0,((p+67:Nat):Int)⟩,⟨4,0,1,7,0,t.base+7⟩,⟨1,0,2,0,0,1⟩,⟨12,0,1,2,0,7⟩,⟨4,0,6,7,0,t.base+2⟩,⟨1,0,5,0,0,t.log⟩,⟨7,0,6,0,0,((p+115:Nat):Int)⟩,⟨4,0,2,5,0,0⟩,⟨4,0,3,5,0,1⟩,⟨5,0,2,3,0,0⟩,⟨1,0,4,0,0,2⟩,⟨3,1,5,4,0,0⟩,⟨1,0,4,0,0,1⟩,⟨3,2,6,4,0,0⟩,⟨6,0,0,0,0,((p+106:Nat):Int)⟩,⟨4,0,1,7,0,t.base+7⟩,⟨3,1,1,1,0,0⟩,⟨1,0,6,0,0,0⟩,⟨2,0,4,6,0,0⟩,⟨1,0,3,0,0,16⟩,⟨3,13,4,3,0,0⟩,⟨7,0,4,0,0,((p+134:Nat):Int)⟩,⟨4,0,4,7,0,t.base+6⟩,⟨3,10,4,6,0,0⟩,⟨1,0,3,0,0,1⟩,⟨3,6,4,3,0,0⟩,⟨7,0,4,0,0,((p+131:Nat):Int)⟩,⟨2,0,5,6,0,0⟩,⟨1,0,4,0,0,(t.words+2)⟩,⟨3,1,5,4,0,0⟩,⟨5,0,5,1,0,0⟩,⟨1,0,3,0,0,1⟩,⟨3,1,6,3,0,0⟩,⟨6,0,0,0,0,((p+118:Nat):Int)⟩,⟨6,0,0,0,0,((p+159:Nat):Int)⟩,⟨1,0,6,0,0,0⟩,⟨2,0,4,6,0,0⟩,⟨1,0,3,0,0,16⟩,⟨3,13,4,3,0,0⟩,⟨7,0,4,0,0,((p+156:Nat):Int)⟩,⟨4,0,4,7,0,t.base+6⟩,⟨3,10,4,6,0,0⟩,⟨1,0,3,0,0,1⟩,⟨3,6,4,3,0,0⟩,⟨7,0,4,0,0,((p+153:Nat):Int)⟩,⟨2,0,5,6,0,0⟩,⟨1,0,4,0,0,(t.base+8)⟩,⟨3,1,5,4,0,0⟩,⟨4,0,2,5,0,0⟩,⟨2,0,5,6,0,0⟩,⟨1,0,4,0,0,(t.words+2)⟩,⟨3,1,5,4,0,0⟩,⟨5,0,5,2,0,0⟩,⟨1,0,3,0,0,1⟩,⟨3,1,6,3,0,0⟩,⟨6,0,0,0,0,((p+136:Nat):Int)⟩,⟨6,0,0,0,0,A⟩,⟨4,0,1,7,0,t.base+0⟩,⟨12,0,1,7,0,7⟩,⟨1,0,1,0,0,t.prints⟩,⟨4,0,2,7,0,t.base+3⟩,⟨7,0,2,0,0,((p+169:Nat):Int)⟩,⟨4,0,3,1,0,0⟩,⟨11,0,3,0,0,0⟩,⟨1,0,4,0,0,1⟩,⟨3,1,1,4,0,0⟩,⟨1,0,4,0,0,1⟩,⟨3,2,2,4,0,0⟩,⟨6,0,0,0,0,((p+161:Nat):Int)⟩]
theorem OW (t:dw) (p:Nat) (mZ l9 ov A:Int):jv t p mZ l9 ov A=MR t p A l9:=by
 simp only[jv,kN,fZ,cZ,MR,List.cons_append,List.nil_append,List.append_assoc,Nat.add_assoc,Nat.reduceAdd]
theorem Lg (t:dw) (p:Nat) (mZ l9 ov A:Int):jB t p mZ l9 ov A=Fs t p l9 ov:=by
 simp only[jB,jX,fZ,cZ,Fs,List.cons_append,List.nil_append,List.append_assoc,Nat.add_assoc,Nat.reduceAdd]
theorem Iw (t:dw) (p:Nat) (A:Int):iJ t p A=GD t p A:=by
 simp only[iJ,jU,iw,gJ,gG,jr,iQ,gF,gK,gI,gD,jD,jy,iP,iR,jk,kG,cZ,kV,GD,List.cons_append,List.nil_append,List.append_assoc,Nat.add_assoc,Nat.reduceAdd]
structure rO (code:List bM) (t:dw) (p:Nat) (l:List Tx):Prop where
 begin:Seg code p (Xu t)
 ops:∀(k:Nat) o,l[k]? =some o->Seg code (p+9+aS (l.take k)) (if o.kind=2 then MR t (p+9+aS (l.take k)) ((p+181+aS l:Nat):Int) o.at_ else Fs t (p+9+aS (l.take k)) o.at_ o.v)
 aL:Seg code (p+9+aS l) (GD t (p+9+aS l) ((p+181+aS l:Nat):Int))
 tail:Seg code (p+178+aS l) [⟨4,0,1,7,0,t.sum⟩,⟨11,0,1,0,0,0⟩,⟨6,0,0,0,0,((p+185+aS l:Nat):Int)⟩,⟨12,0,7,7,0,8⟩,⟨4,0,1,7,0,t.base+5⟩,⟨5,0,7,1,0,t.base+4⟩,⟨6,0,0,0,0,(p:Int)⟩]
theorem VZ {code:List bM} {t:dw} {A:Int} (l:List Tx):∀{p:Nat},Seg code p (lM t p l A)->∀(k:Nat) o,l[k]? =some o->Seg code (p+aS (l.take k)) (if o.kind=2 then MR t (p+aS (l.take k)) A o.at_ else Fs t (p+aS (l.take k)) o.at_ o.v):=by
 induction l with
 |nil=>intro p _ k o h;simp at h
 |cons a l ih=>
  intro p h k o ho;rw[lM] at h;cases k with
  |zero=>
   simp only[List.getElem?_cons_zero,bU] at ho;subst ho;have h1:=h.left;have e0:p+aS (List.take 0 (a::l))=p:=by simp[aS]
   rw[e0];unfold kQ at h1;by_cases hk:a.kind=2
   ·rw[if_pos hk] at h1⊢;rw[<-OW t p a.th a.at_ a.v];exact h1
   ·rw[if_neg hk] at h1⊢;rw[<-Lg t p a.th a.at_ a.v A];exact h1
  |succ k=>
   simp only[List.getElem?_cons_succ] at ho;have h1:=ih (h.right (vE t p a A)) k o ho;rw[List.take_succ_cons,kL,<-Nat.add_assoc];exact h1
theorem Wo {code:List bM} {t:dw} {p:Nat} {l:List Tx} (h:Seg code p (kD t p l)):rO code t p l:=by
 unfold kD at h;have e9:(jw t p++[(⟨5,0,7,7,0,t.sum⟩:bM)]).length=9:=rfl;have hA:=h.left;have hB:=hA.left;have hC:=hB.left;have hD:=hC.left;refine⟨hD.left,fun k o ho=>VZ l (hD.right e9) k o ho,?_,?_⟩
 ·have:=hC.right (n:=9+aS l) (by rw[List.length_append,e9,mG]);rw[<-Iw,Nat.add_assoc];rw[Nat.add_assoc] at this;exact this
 ·have h1:=hB.right (n:=178+aS l) (by rw[List.length_append,List.length_append,e9,mG,lU];omega);have h2:=hA.right (n:=181+aS l) (by simp only[List.length_append,e9,mG,lU,List.length_cons,List.length_nil];omega);have h3:=h.right (n:=184+aS l) (by simp only[List.length_append,e9,mG,lU,uV,List.length_cons,List.length_nil];omega);intro i o ho;have hi:=(bE.1 ho).1;simp only[List.length_cons,List.length_nil] at hi;have e:∀a b:Nat,p+a+aS l+b=p+(a+aS l)+b:=fun a b=>by omega
  rw[e];rcases Nat.lt_or_ge i 3 with h4|h4
  ·refine h1 i o ?_;rw[<-ho];rcases i with _|_|_|i<;>first|rfl|omega
  ·rcases Nat.lt_or_ge i 6 with h5|h5
   ·obtain⟨j,rfl⟩:∃j,i=j+3:=⟨i - 3,by omega⟩;rw[show p+(178+aS l)+(j+3)=p+(181+aS l)+j from by omega];refine h2 j o ?_;rw[<-ho];rcases j with _|_|_|j<;>first|rfl|omega
   ·obtain rfl:i=6:=by omega
    rw[show p+(178+aS l)+6=p+(184+aS l)+0 from by omega];exact h3 0 o ho
def b_ (rs:List (List Tx)) (r:Nat):Nat:=2+iq (rs.take r)
theorem T9 {code:List bM} {t:dw} (rs:List (List Tx)):∀{p:Nat},Seg code p (ji t p rs)->∀(r:Nat) l,rs[r]? =some l->Seg code (p+iq (rs.take r)) (kD t (p+iq (rs.take r)) l):=by
 induction rs with
 |nil=>intro p _ k o h;simp at h
 |cons a l ih=>
  intro p h k o ho;rw[ji] at h;cases k with
  |zero=>
   simp only[List.getElem?_cons_zero,bU] at ho;subst ho;exact h.left
  |succ k=>
   simp only[List.getElem?_cons_succ] at ho;have h1:=ih (h.right (xC t p a)) k o ho;rw[List.take_succ_cons,iM,<-Nat.add_assoc];exact h1
theorem bK (t:dw) (rs:List (List Tx)) {r:Nat} {l:List Tx} (h:rs[r]? =some l):rO (bI t rs) t (b_ rs r) l:=by
 have h1:Seg (bI t rs) 0 (bI t rs):=Seg.self _;have h2:Seg (bI t rs) (0+2) (ji t 2 rs):=by
  conv=>arg 3;rw[<-List.append_nil (ji t 2 rs)]
  have:=(Seg.self (bI t rs));unfold bI at this⊢;exact(this.left.right (n:=2) (pJ t 0))|>fun q=>by rw[List.append_nil];exact q
 exact Wo (T9 rs h2 r l h)
theorem Kv (t:dw) (rs:List (List Tx)):Seg (bI t rs) 0 [⟨1,0,0,0,0,t.arena⟩,⟨5,0,7,0,0,t.base+4⟩]:=by
 have:=(Seg.self (bI t rs));unfold bI at this⊢;exact this.left.left
theorem Qf (t:dw) (rs:List (List Tx)):(bI t rs)[b_ rs rs.length]? =some ⟨14,0,0,0,0,0⟩:=by
 have:=(Seg.self (bI t rs));unfold bI at this⊢;have h1:=this.right (n:=2+iq rs) (by rw[List.length_append,pJ,vV]);have h2:=h1 0 _ rfl;rw[Nat.zero_add,Nat.add_zero] at h2;unfold b_;rw[List.take_length];exact h2
theorem Oc {rs:List (List Tx)} {r:Nat} {l:List Tx} (h:rs[r]? =some l):b_ rs (r+1)=b_ rs r+185+aS l:=by
 unfold b_ iq;rw[List.take_add_one,h];simp[pU];omega
end Go.Proofs.YtopdcjimpdalpaaGreat

import Derived.Test.YtopdcjimpdalpaaGreatQ03
import Derived.ProofKit
import Derived.OpenShut
import Derived.Deep.Slices
import Derived.SizedLaws
namespace Go.Proofs.YtopdcjimpdalpaaGreat
open Go.ChangeShapes Go.WideShapes Go.ChangeAt Go.RowKit
set_option linter.all false
theorem MJ {n:Int} (h:(Lit.int .i64 n).wf=true): -9223372036854775808<=n/\n<=9223372036854775807:=by
 exact bounds_i64 h
theorem zz (b off i:Nat):(⟨b,off,none⟩:Addr).add i=⟨b,off+i,none⟩:=by unfold Addr.add;split<;>simp_all
theorem uL {H:Type} {enc:TypeId×Value->H} {P:Program} {w:World} {held:Bool} {t e:TypeId} {ao:Option Addr} {len cap:Nat} {d:DataW H} {p:List MemPlace}
  {α:Type} {ε:α->List Value} {ok:α->Prop} {sz:Nat} (he:∀a,(ε a).length=sz) (h0:0<sz) (ht:P.underlying t=some (.slice e)) (hc:P.cellsOf e=sz)
  (helem:∀(fuel:Nat) (cs:List Value) (x:DataW H×List MemPlace),DataW.trod enc P w 0 (fun _=>true) held fuel e cs=some x->∃a,cs=ε a/\ok a)
  (h:DataW.Trod enc P w 0 (fun _=>true) held t (.slice ao len cap) d p):
  ∃l:List α,len=l.length/\fI ε w sz (.slice ao l.length cap) l/\l.length<=9223372036854775807/\(∀a∈l,ok a)/\(l=[]\/∃els sp,d= .slice els sp/\els.length=l.length):=by
 obtain⟨fuel,hf⟩:=h;rcases Go.Deep.open_slice ht hf with⟨hcs,_⟩|⟨a,l,c,m,n,D,Pl,hcs,_,hl,hm,hmm,hx,hat⟩
 ·simp[Value.cells] at hcs;obtain⟨rfl,rfl,rfl⟩:=hcs;exact⟨[],rfl,Rd.nil w sz,by simp,fun a ha=>by simp at ha,.inl rfl⟩
 ·simp[Value.cells] at hcs;obtain⟨rfl,rfl,rfl⟩:=hcs;unfold maxLen at hm;simp only[if_true] at hmm;subst hmm;rw[hc] at hat;have hel:∀i,i<m->∃x:α,ok x/\w.cells? 0 (a.add (i*sz)) sz=some (ε x):=by
   intro i hi;obtain⟨cs',h1,h2⟩:=hat i hi;obtain⟨x,hx1,hx2⟩:=helem _ _ _ h2;exact⟨x,hx2,hx1 ▸ h1⟩
  have key:∀k,k<=m->∃l:List α,l.length=k/\(∀x∈l,ok x)/\∀(i:Nat) x,l[i]? =some x->w.cells? 0 (a.add (i*sz)) sz=some (ε x):=by
   intro k;induction k with
   |zero=>exact fun _=>⟨[],rfl,fun x hx=>by simp at hx,fun i x hx=>by simp at hx⟩
   |succ k ih=>
    intro hk;obtain⟨l,hl1,hl2,hl3⟩:=ih (by omega);obtain⟨x,hx1,hx2⟩:=hel k (by omega);refine⟨l++[x],by simp[hl1],fun y hy=>?_,fun i y hy=>?_⟩
    ·rcases List.mem_append.1 hy with h|h
     ·exact hl2 y h
     ·simp at h;rw[h];exact hx1
    ·rcases Nat.lt_or_ge i l.length with hi|hi
     ·rw[List.getElem?_append_left hi] at hy;exact hl3 i y hy
     ·rw[List.getElem?_append_right hi] at hy;have:i=k:=by have:=(bE.1 hy).1;simp at this;omega
      subst this;simp[hl1] at hy;subst hy;exact hx2
  obtain⟨l,hl1,hl2,hl3⟩:=key len (by omega);obtain⟨b,off,spot⟩:=a;have hcell:∀(i:Nat) x,l[i]? =some x->∀(j:Nat) u,(ε x)[j]? =some u->w.cell? ((⟨b,off,spot⟩:Addr).add (i*sz)|>.add j)=some u:=by
   intro i x hx j u hj;have h1:=(bE.1 hj).1;rw[he] at h1;rw[(World.cells?_some (hl3 i x hx)).2.2 j h1];exact hj
  refine⟨l,hl1.symm,⟨jQ he l,some ⟨b,off,spot⟩,_,by rw[hl1],by omega,fun hn=>?_⟩,by omega,hl2,.inr ⟨_,_,congrArg Prod.fst hx,by simp[hl1]⟩⟩;have hs:spot=none:=by
   obtain⟨x,hx⟩:=bW hn;obtain⟨u0,hu0⟩:=bW (l:=ε x) (k:=0) (by rw[he];exact h0);have:=hcell 0 x hx 0 u0 hu0;simp only[Nat.zero_mul] at this;cases spot with
   |none=>rfl
   |some s=>simp[Addr.add,World.cell?] at this;split at this<;>simp at this
  subst hs;refine⟨b,off,rfl,?_,fun j u hj=>?_⟩
  ·obtain⟨x,hx⟩:=bW hn;obtain⟨u0,hu0⟩:=bW (l:=ε x) (k:=0) (by rw[he];exact h0);have:=hcell 0 x hx 0 u0 hu0;rw[zz,zz] at this;exact dH w _ this
  ·have hjl:=(bE.1 hj).1;rw[jQ he] at hjl;obtain⟨x,hx⟩:=bW (l:=l) (k:=j/sz) (Nat.div_lt_of_lt_mul (by rw[Nat.mul_comm];exact hjl));have h1:j%sz<sz:=Nat.mod_lt _ h0;obtain⟨u0,hu0⟩:=bW (l:=ε x) (k:=j%sz) (by rw[he];exact h1);have h2:=pY he l hx (j%sz) u0 hu0;rw[Nat.div_add_mod'] at h2;rw[hj] at h2;have h3:=hcell _ x hx (j%sz) u0 hu0;rw[zz,zz,show off+j/sz*sz+j%sz=off+j from by have:=Nat.div_add_mod' j sz;omega] at h3;rw[h3];exact h2.symm
theorem PT {H:Type} {P:Program} {ts:List TypeId} {ds:List (DataW H)} (h:(DataW.weightsEach P ts ds).all (·<=reachBytes)=true) {j:Nat} {t e:TypeId} {d:DataW H} {n bytes:Nat} (ht:ts[j]? =some t) (hd:ds[j]? =some d)
  (hu:P.underlying t=some (.slice e)) (hb:P.bytesOf e=bytes) (hl:n=0\/∃els sp,d= .slice els sp/\els.length=n):n*bytes<=140737488351232:=by
 rcases hl with rfl|⟨els,sp,rfl,rfl⟩
 ·simp
 ·have:=sized_slice h ht hd hu;rw[hb] at this;have h2:els.length*bytes<=(els.length+sp.length)*bytes:=Nat.mul_le_mul_right _ (by omega);unfold reachBytes at this;omega
end Go.Proofs.YtopdcjimpdalpaaGreat

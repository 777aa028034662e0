import Derived.Test.YtopdcjimpdalpaaGreatQ00
import Derived.Below
namespace Go.Proofs.YtopdcjimpdalpaaGreat
set_option linter.all false
structure Ev where
 th:Int
 k:Int
 a:Int
 b:Int
structure bV where
 th:Int
 kind:Int
 uU:Int
 fin:Int
 clock:Int
 place:Int
 writer:Bool
 done:List Ev
structure HS where
 bu:List bV
 opn:Nat->Option Nat
 ended:Nat->Bool
def HS.init:HS:=⟨[],fun _=>none,fun _=>false⟩
def upd {α:Type} (f:Nat->α) (i:Nat) (x:α):Nat->α:=fun j=>if j=i then x else f j
def begun (x:Ev) (i:Nat):bV:=⟨x.th,0,i, -1,x.a,0,false,[]⟩
def more (x:Ev) (a:bV):bV:={a with done:=a.done++[x]}
def dW (x:Ev) (i:Nat) (a:bV):bV:={a with kind:=1,fin:=i,place:=x.a,writer:=x.b==1}
def closed (n:Int) (i:Nat) (a:bV):bV:={a with kind:=n,fin:=i}
def je (s:HS) (x:Ev) (i:Nat):Option HS:=
 if x.th<0\/4<=x.th then none
 else if s.ended x.th.toNat=true then none
 else match s.opn x.th.toNat with
  |none=>
   if x.k=1 then some ⟨s.bu++[begun x i],upd s.opn x.th.toNat (some s.bu.length),s.ended⟩
   else if x.k=9 then some s
   else if x.k=10\/x.k=11 then some ⟨s.bu,s.opn,upd s.ended x.th.toNat true⟩
   else none
  |some j=>
   if 2<=x.k/\x.k<=6 then some ⟨s.bu.modify j (more x),s.opn,s.ended⟩
   else if x.k=7 then some ⟨s.bu.modify j (dW x i),upd s.opn x.th.toNat none,s.ended⟩
   else if x.k=8 then some ⟨s.bu.modify j (closed 2 i),upd s.opn x.th.toNat none,s.ended⟩
   else if x.k=11 then some ⟨s.bu.modify j (closed 3 i),upd s.opn x.th.toNat none,upd s.ended x.th.toNat true⟩
   else none
def nT:List Ev->Nat->HS->HS ⊕ Nat
 |[],_,s=>.inl s
 |x::l,i,s=>match je s x i with
  |none=>.inr i
  |some s'=>nT l (i+1) s'
theorem Am (l m:List Ev):∀(i:Nat) (s:HS),nT (l++m) i s=match nT l i s with
  |.inl s'=>nT m (i+l.length) s'
  |.inr k=>.inr k:=by
 induction l with
 |nil=>intro i s;simp[nT]
 |cons x l ih=>
  intro i s;simp only[List.cons_append,nT];cases je s x i with
  |none=>rfl
  |some s'=>
   simp only;rw[ih,show i+1+l.length=i+(x::l).length from by simp;omega]
structure BN (s:HS) (i:Nat):Prop where
 oQ:∀(j:Nat) (a:bV),s.bu[j]? =some a->0<=a.th/\a.th<4/\0<=a.uU/\a.uU<i/\(∀e∈a.done,e.th=a.th)/\
  (a.fin= -1/\a.kind=0/\a.place=0/\a.writer=false/\s.opn a.th.toNat=some j\/a.uU<a.fin/\a.fin<i/\a.kind≠0)
 opn:∀(t j:Nat),s.opn t=some j->∃a,s.bu[j]? =some a/\a.th=t/\a.fin= -1
 order:∀(j k:Nat) (a b:bV),j<k->s.bu[j]? =some a->s.bu[k]? =some b->a.uU<b.uU/\(a.th=b.th->0<=a.fin/\a.fin<b.uU)
theorem BN.init:BN HS.init 0:=⟨fun j a h=>by simp[HS.init] at h,fun t j h=>by simp[HS.init] at h,fun j k a b _ h=>by simp[HS.init] at h⟩
theorem bN {α:Type} (f:Nat->α) (i j:Nat) (x:α):upd f i x j=if j=i then x else f j:=rfl
theorem gW {α:Type} (l:List α) (f:α->α) (j k:Nat):(l.modify j f)[k]? =(l[k]?).map (fun a=>if k=j then f a else a):=by
 rw[List.getElem?_modify];cases l[k]? with
 |none=>rfl
 |some a=>simp only[Option.map_some];congr 1;by_cases h:j=k<;>simp[h,eq_comm]
theorem BN.turn {s:HS} {i:Nat} (h:BN s i) {t j:Nat} (hj:s.opn t=some j) (f:bV->bV) (hf:∀a,(f a).th=a.th/\(f a).uU=a.uU) (o':Nat->Option Nat) (e':Nat->Bool)
  (ho:o'=s.opn/\(∀a,(f a).fin=a.fin/\(f a).kind=a.kind/\(f a).place=a.place/\(f a).writer=a.writer)\/o'=upd s.opn t none/\∀a,(f a).fin=i/\(f a).kind≠0)
  (hd:∀a:bV,a.th=(t:Int)->(∀e∈a.done,e.th=a.th)->∀e∈(f a).done,e.th=a.th):BN ⟨s.bu.modify j f,o',e'⟩ (i+1):=by
 obtain⟨b,hb,hbt,hbf⟩:=h.opn t j hj;have get:∀(k:Nat) (a:bV),(s.bu.modify j f)[k]? =some a->∃c,s.bu[k]? =some c/\(k=j/\c=b/\a=f b\/k≠j/\a=c):=by
  intro k a ha;rw[gW] at ha;cases hc:s.bu[k]? with
  |none=>rw[hc] at ha;cases ha
  |some c=>
   rw[hc] at ha;simp only[Option.map_some,bU] at ha;by_cases hk:k=j
   ·subst hk;rw[hb] at hc;simp only[bU] at hc;subst hc;rw[if_pos rfl] at ha;exact⟨b,rfl,.inl ⟨rfl,rfl,ha.symm⟩⟩
   ·rw[if_neg hk] at ha;exact⟨c,rfl,.inr ⟨hk,ha.symm⟩⟩
 refine⟨fun k a ha=>?_,fun u k hk=>?_,fun p q a c hpq ha hc=>?_⟩
 ·obtain⟨c,hc,hcase⟩:=get k a ha;obtain⟨a1,a2,a3,a4,a5,a6⟩:=h.oQ k c hc;rcases hcase with⟨rfl,rfl,rfl⟩|⟨hk,rfl⟩
  ·obtain⟨g1,g2⟩:=hf c;refine⟨by omega,by omega,by omega,by omega,by rw[g1];exact hd c hbt a5,?_⟩;rcases ho with⟨rfl,hs⟩|⟨rfl,hs⟩
   ·obtain⟨s1,s2,s3,s4⟩:=hs c;rcases a6 with⟨r1,r2,r3,r4,r5⟩|r
    ·exact .inl ⟨by omega,by omega,by omega,by rw[s4];exact r4,by rw[g1];exact r5⟩
    ·omega
   ·obtain⟨s1,s2⟩:=hs c;exact .inr ⟨by omega,by omega,s2⟩
  ·refine⟨a1,a2,a3,by omega,a5,?_⟩;rcases a6 with⟨r1,r2,r3,r4,r5⟩|⟨r1,r2,r3⟩
   ·refine .inl ⟨r1,r2,r3,r4,?_⟩;rcases ho with⟨rfl,_⟩|⟨rfl,_⟩
    ·exact r5
    ·show upd s.opn t none a.th.toNat=some k;rw[bN,if_neg (fun e=>by rw[e,hj] at r5;simp at r5;exact hk r5.symm)];exact r5
   ·exact .inr ⟨r1,by omega,r3⟩
 ·rcases ho with⟨rfl,hs⟩|⟨rfl,hs⟩
  ·obtain⟨c,hc,hct,hcf⟩:=h.opn u k hk;by_cases hkj:k=j
   ·subst hkj;rw[hb] at hc;simp only[bU] at hc;subst hc;exact⟨f b,by simp[hb],by rw[(hf b).1];exact hct,by rw[(hs b).1];exact hcf⟩
   ·exact⟨c,by simp[gW,hc,hkj],hct,hcf⟩
  ·simp only[bN] at hk;split at hk
   ·cases hk
   ·rename_i hut;obtain⟨c,hc,hct,hcf⟩:=h.opn u k hk;have hkj:k≠j:=fun e=>by
     subst e;rw[hb] at hc;simp only[bU] at hc;subst hc;exact hut (by omega)
    exact⟨c,by simp[gW,hc,hkj],hct,hcf⟩
 ·obtain⟨a',ha',Ti⟩:=get p a ha;obtain⟨c',hc',hcc⟩:=get q c hc;obtain⟨o1,o2⟩:=h.order p q a' c' hpq ha' hc';have YO:c.th=c'.th/\c.uU=c'.uU:=by
   rcases hcc with⟨_,rfl,rfl⟩|⟨_,rfl⟩
   ·exact hf _
   ·exact⟨rfl,rfl⟩
  rcases Ti with⟨rfl,rfl,rfl⟩|⟨_,rfl⟩
  ·obtain⟨g1,g2⟩:=hf a';refine⟨by omega,fun e=>?_⟩;have:=o2 (by omega);omega
  ·exact⟨by omega,fun e=>by have:=o2 (by omega);omega⟩
theorem BN.step {s s':HS} {x:Ev} {i:Nat} (h:BN s i) (hs:je s x i=some s'):BN s' (i+1):=by
 unfold je at hs;by_cases c1:x.th<0\/4<=x.th
 ·rw[if_pos c1] at hs;cases hs
 rw[if_neg c1] at hs;by_cases c2:s.ended x.th.toNat=true
 ·rw[if_pos c2] at hs;cases hs
 rw[if_neg c2] at hs;have weak:∀(e':Nat->Bool),BN ⟨s.bu,s.opn,e'⟩ (i+1):=fun e'=>
  ⟨fun j a ha=>by
   obtain⟨a1,a2,a3,a4,a5,a6⟩:=h.oQ j a ha;refine⟨a1,a2,a3,by omega,a5,a6.imp id (fun⟨r1,r2,r3⟩=>⟨r1,by omega,r3⟩)⟩,h.opn,h.order⟩
 cases ho:s.opn x.th.toNat with
 |none=>
  rw[ho] at hs;simp only at hs;by_cases k1:x.k=1
  ·rw[if_pos k1] at hs;simp only[bU] at hs;subst hs;have last:∀(j:Nat) (a:bV),(s.bu++[begun x i])[j]? =some a->s.bu[j]? =some a/\j<s.bu.length\/j=s.bu.length/\a=begun x i:=by
    intro j a ha;rcases Nat.lt_or_ge j s.bu.length with hj|hj
    ·rw[List.getElem?_append_left hj] at ha;exact .inl ⟨ha,hj⟩
    ·rw[List.getElem?_append_right hj] at ha;have:=(bE.1 ha).1;simp at this;obtain rfl:j=s.bu.length:=by omega
     simp at ha;exact .inr ⟨rfl,ha.symm⟩
   refine⟨fun j a ha=>?_,fun t j hj=>?_,fun p q a c hpq ha hc=>?_⟩
   ·rcases last j a ha with⟨ha',hj⟩|⟨rfl,rfl⟩
    ·obtain⟨a1,a2,a3,a4,a5,a6⟩:=h.oQ j a ha';refine⟨a1,a2,a3,by omega,a5,?_⟩;rcases a6 with⟨r1,r2,r3,r4,r5⟩|⟨r1,r2,r3⟩
     ·refine .inl ⟨r1,r2,r3,r4,?_⟩;show upd s.opn x.th.toNat (some s.bu.length) a.th.toNat=some j;rw[bN,if_neg (fun e=>by rw[e,ho] at r5;cases r5)];exact r5
     ·exact .inr ⟨r1,by omega,r3⟩
    ·refine⟨by simp[begun];omega,by simp[begun];omega,by simp[begun],by simp[begun];omega,fun e he=>by simp[begun] at he,.inl ⟨rfl,rfl,rfl,rfl,?_⟩⟩;simp[bN,begun]
   ·simp only[bN] at hj;split at hj
    ·rename_i ht;simp only[bU] at hj;subst hj;exact⟨begun x i,by simp,by simp[begun];omega,rfl⟩
    ·obtain⟨a,ha,h2,h3⟩:=h.opn t j hj;exact⟨a,by rw[List.getElem?_append_left (bE.1 ha).1];exact ha,h2,h3⟩
   ·rcases last q c hc with⟨hc',hq⟩|⟨rfl,rfl⟩
    ·rcases last p a ha with⟨ha',_⟩|⟨rfl,_⟩
     ·exact h.order p q a c hpq ha' hc'
     ·omega
    ·rcases last p a ha with⟨ha',_⟩|⟨rfl,_⟩
     ·obtain⟨a1,a2,a3,a4,a5,a6⟩:=h.oQ p a ha';refine⟨by simp[begun];omega,fun e=>?_⟩;simp only[begun] at e⊢;rcases a6 with⟨r1,r2,r3,r4,r5⟩|⟨r1,r2,r3⟩
      ·rw[e,ho] at r5;cases r5
      ·omega
     ·omega
  ·rw[if_neg k1] at hs;by_cases k2:x.k=9
   ·rw[if_pos k2] at hs;simp only[bU] at hs;subst hs;exact weak s.ended
   ·rw[if_neg k2] at hs;by_cases k3:x.k=10\/x.k=11
    ·rw[if_pos k3] at hs;simp only[bU] at hs;subst hs;exact weak _
    ·rw[if_neg k3] at hs;cases hs
 |some j=>
  rw[ho] at hs;simp only at hs;by_cases k1:2<=x.k/\x.k<=6
  ·rw[if_pos k1] at hs;simp only[bU] at hs;subst hs;refine h.turn ho (more x) (fun a=>⟨rfl,rfl⟩) _ _ (.inl ⟨rfl,fun a=>⟨rfl,rfl,rfl,rfl⟩⟩) (fun a hat hall e he=>?_);simp only[more,List.mem_append,List.mem_singleton] at he;rcases he with he|rfl
   ·exact hall e he
   ·omega
  ·rw[if_neg k1] at hs;by_cases k2:x.k=7
   ·rw[if_pos k2] at hs;simp only[bU] at hs;subst hs;exact h.turn ho (dW x i) (fun a=>⟨rfl,rfl⟩) _ _ (.inr ⟨rfl,fun a=>⟨rfl,by simp[dW]⟩⟩) (fun a _ hall=>hall)
   ·rw[if_neg k2] at hs;by_cases k3:x.k=8
    ·rw[if_pos k3] at hs;simp only[bU] at hs;subst hs;exact h.turn ho (closed 2 i) (fun a=>⟨rfl,rfl⟩) _ _ (.inr ⟨rfl,fun a=>⟨rfl,by simp[closed]⟩⟩) (fun a _ hall=>hall)
    ·rw[if_neg k3] at hs;by_cases k4:x.k=11
     ·rw[if_pos k4] at hs;simp only[bU] at hs;subst hs;exact h.turn ho (closed 3 i) (fun a=>⟨rfl,rfl⟩) _ _ (.inr ⟨rfl,fun a=>⟨rfl,by simp[closed]⟩⟩) (fun a _ hall=>hall)
     ·rw[if_neg k4] at hs;cases hs
theorem BN.run (l:List Ev):∀{s s':HS} {i:Nat},BN s i->nT l i s= .inl s'->BN s' (i+l.length):=by
 induction l with
 |nil=>intro s s' i h hr;simp only[nT,Sum.inl.injEq] at hr;subst hr;exact h
 |cons x l ih=>
  intro s s' i h hr;simp only[nT] at hr;cases hs:je s x i with
  |none=>rw[hs] at hr;cases hr
  |some t=>
   rw[hs] at hr;have:=ih (h.step hs) hr
   rwa [show i+1+l.length=i+(x::l).length from by simp;omega] at this
end Go.Proofs.YtopdcjimpdalpaaGreat

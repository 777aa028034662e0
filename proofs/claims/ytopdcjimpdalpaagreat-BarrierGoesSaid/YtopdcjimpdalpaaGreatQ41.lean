import Derived.Test.YtopdcjimpdalpaaGreatQ01
namespace Go.Proofs.YtopdcjimpdalpaaGreat
set_option linter.all false
structure Later (n:Nat) (s s':HS):Prop where
 len:s.bu.length<=s'.bu.length
 old:∀(j:Nat) (a:bV),s.bu[j]? =some a->∃b,s'.bu[j]? =some b/\(a.fin≠ -1->b=a)/\
  (a.fin= -1->b.th=a.th/\b.uU=a.uU/\b.clock=a.clock/\(b.fin= -1\/n<=b.fin)/\∃m,b.done=a.done++m)
 new:∀(j:Nat) (b:bV),s.bu.length<=j->s'.bu[j]? =some b->n<=b.uU
theorem Later.refl (n:Nat) (s:HS):Later n s s:=
 ⟨aR _,fun _ a h=>⟨a,h,fun _=>rfl,fun hf=>⟨rfl,rfl,rfl,.inl hf,[],by simp⟩⟩,fun j b hj h=>by
  have:=(bE.1 h).1;omega⟩
theorem Later.turn {n i j:Nat} {s s':HS} (h:Later n s s') (hn:n<=i) {b:bV} (hb:s'.bu[j]? =some b) (hbf:b.fin= -1) (f:bV->bV)
  (hf:(f b).th=b.th/\(f b).uU=b.uU/\(f b).clock=b.clock/\((f b).fin=b.fin\/(f b).fin=i)/\∃m,(f b).done=b.done++m) (o:Nat->Option Nat) (e:Nat->Bool):
  Later n s ⟨s'.bu.modify j f,o,e⟩:=by
 obtain⟨f1,f2,f3,f4,m,f5⟩:=hf;refine⟨by simpa using h.len,fun k a ha=>?_,fun k c hk hc=>?_⟩
 ·obtain⟨c,hc,h1,h2⟩:=h.old k a ha;by_cases hkj:k=j
  ·subst hkj;rw[hb] at hc;simp only[bU] at hc;subst hc;refine⟨f b,by simp[gW,hb],fun hne=>?_,fun haf=>?_⟩
   ·have:=h1 hne;rw[this] at hbf;exact absurd hbf hne
   ·obtain⟨g1,g2,g3,g4,m',g5⟩:=h2 haf;refine⟨by omega,by omega,by omega,?_,m'++m,by rw[f5,g5];simp⟩;rcases f4 with h|h
    ·exact .inl (by omega)
    ·exact .inr (by omega)
  ·exact⟨c,by simp[gW,hc,hkj],h1,h2⟩
 ·rw[gW] at hc;cases hc':s'.bu[k]? with
  |none=>rw[hc'] at hc;cases hc
  |some d=>
   rw[hc'] at hc;simp only[Option.map_some,bU] at hc;have:=h.new k d hk hc';by_cases hkj:k=j
   ·subst hkj;rw[hb] at hc';simp only[bU] at hc';subst hc';rw[if_pos rfl] at hc;subst hc;omega
   ·rw[if_neg hkj] at hc;subst hc;exact this
theorem Later.step {n i:Nat} {s s' s'':HS} {x:Ev} (h:Later n s s') (hok:BN s' i) (hn:n<=i) (hs:je s' x i=some s''):Later n s s'':=by
 unfold je at hs;by_cases c1:x.th<0\/4<=x.th
 ·rw[if_pos c1] at hs;cases hs
 rw[if_neg c1] at hs;by_cases c2:s'.ended x.th.toNat=true
 ·rw[if_pos c2] at hs;cases hs
 rw[if_neg c2] at hs;cases ho:s'.opn x.th.toNat with
 |none=>
  rw[ho] at hs;simp only at hs;by_cases k1:x.k=1
  ·rw[if_pos k1] at hs;simp only[bU] at hs;subst hs;refine⟨by have:=h.len;simp;omega,fun j a ha=>?_,fun j b hj hb=>?_⟩
   ·obtain⟨b,hb,h1,h2⟩:=h.old j a ha;exact⟨b,by rw[List.getElem?_append_left (bE.1 hb).1];exact hb,h1,h2⟩
   ·rcases Nat.lt_or_ge j s'.bu.length with hl|hl
    ·rw[List.getElem?_append_left hl] at hb;exact h.new j b hj hb
    ·rw[List.getElem?_append_right hl] at hb;have:=(bE.1 hb).1;simp at this;obtain rfl:j=s'.bu.length:=by omega
     simp at hb;subst hb;simp[begun];omega
  ·rw[if_neg k1] at hs;by_cases k2:x.k=9
   ·rw[if_pos k2] at hs;simp only[bU] at hs;subst hs;exact h
   ·rw[if_neg k2] at hs;by_cases k3:x.k=10\/x.k=11
    ·rw[if_pos k3] at hs;simp only[bU] at hs;subst hs;exact⟨h.len,h.old,h.new⟩
    ·rw[if_neg k3] at hs;cases hs
 |some j=>
  rw[ho] at hs;simp only at hs;obtain⟨b,hb, -,hbf⟩:=hok.opn _ _ ho;by_cases k1:2<=x.k/\x.k<=6
  ·rw[if_pos k1] at hs;simp only[bU] at hs;subst hs;exact h.turn hn hb hbf (more x) ⟨rfl,rfl,rfl,.inl rfl,[x],rfl⟩ _ _
  ·rw[if_neg k1] at hs;by_cases k2:x.k=7
   ·rw[if_pos k2] at hs;simp only[bU] at hs;subst hs;exact h.turn hn hb hbf (dW x i) ⟨rfl,rfl,rfl,.inr rfl,[],by simp[dW]⟩ _ _
   ·rw[if_neg k2] at hs;by_cases k3:x.k=8
    ·rw[if_pos k3] at hs;simp only[bU] at hs;subst hs;exact h.turn hn hb hbf (closed 2 i) ⟨rfl,rfl,rfl,.inr rfl,[],by simp[closed]⟩ _ _
    ·rw[if_neg k3] at hs;by_cases k4:x.k=11
     ·rw[if_pos k4] at hs;simp only[bU] at hs;subst hs;exact h.turn hn hb hbf (closed 3 i) ⟨rfl,rfl,rfl,.inr rfl,[],by simp[closed]⟩ _ _
     ·rw[if_neg k4] at hs;cases hs
theorem Later.run (l:List Ev):∀{n i:Nat} {s s' s'':HS},Later n s s'->BN s' i->n<=i->nT l i s'= .inl s''->Later n s s'':=by
 induction l with
 |nil=>intro n i s s' s'' h _ _ hr;simp only[nT,Sum.inl.injEq] at hr;subst hr;exact h
 |cons x l ih=>
  intro n i s s' s'' h hok hn hr;simp only[nT] at hr;cases hs:je s' x i with
  |none=>rw[hs] at hr;cases hr
  |some t=>
   rw[hs] at hr;exact ih (h.step hok hn hs) (hok.step hs) (by omega) hr
end Go.Proofs.YtopdcjimpdalpaaGreat

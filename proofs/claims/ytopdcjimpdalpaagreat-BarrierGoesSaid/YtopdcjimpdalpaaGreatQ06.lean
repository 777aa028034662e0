import Derived.Test.YtopdcjimpdalpaaGreatQ02
namespace Go.Proofs.YtopdcjimpdalpaaGreat
set_option linter.all false
theorem bO (a:Int):aV a<16:=by unfold aV;omega
theorem Rb {m s:Nat} (hm:m<65536) (hs:s<16):m|||1<<<s<65536:=by
 have h2:1<<<s<2 ^ 16:=by
  rw[Nat.one_shiftLeft];exact Nat.pow_lt_pow_right (by decide) hs
 exact Nat.or_lt_two_pow (n:=16) hm h2
theorem yO {l:List (Int×Int)} {a:Int} (h:place l a<l.length):∃c,l[place l a]? =some c/\c.1=a:=by
 refine⟨l[place l a],dZ h,?_⟩;have:=List.findIdx_getElem (p:=fun c:Int×Int=>c.1==a) (xs:=l) (w:=h);simp only[beq_iff_eq] at this;exact this
theorem ry (m s k:Nat):(m|||1<<<s).testBit k=(m.testBit k||decide (k=s)):=by
 rw[Nat.testBit_or,Nat.one_shiftLeft,Nat.testBit_two_pow];simp[eq_comm]
def WO (e:Ev) (f:Int->Int):Int->Int:=if e.k=3 then fun x=>if x=e.a then e.b else f x else f
def wN:List Ev->(Int->Int)->Int->Int
 |[],f=>f
 |e::l,f=>wN l (WO e f)
def wY:List Ev->(Int->Int)->Prop
 |[],_=>True
 |e::l,f=>(e.k=2->f e.a=e.b)/\wY l (WO e f)
theorem FP (l m:List Ev):∀f,wN (l++m) f=wN m (wN l f):=by
 induction l with
 |nil=>intro f;rfl
 |cons e l ih=>intro f;exact ih _
theorem Tw (l m:List Ev):∀f,wY (l++m) f↔wY l f/\wY m (wN l f):=by
 induction l with
 |nil=>intro f;simp[wY,wN]
 |cons e l ih=>intro f;simp only[List.cons_append,wY,wN,ih,and_assoc]
theorem FZ {e:Ev} (h:e.k≠3) (f:Int->Int):WO e f=f:=if_neg h
theorem yg {e:Ev} (h:e.k=3) (f:Int->Int) (x:Int):WO e f x=if x=e.a then e.b else f x:=by unfold WO;rw[if_pos h]
theorem nD (l:List Ev) {x:Int}:∀(f:Int->Int),(∀e∈l,e.k=3->e.a≠x)->wN l f x=f x:=by
 induction l with
 |nil=>intro f _;rfl
 |cons e l ih=>
  intro f h;rw[wN,ih _ (fun d hd=>h d (List.mem_cons_of_mem _ hd))];by_cases he:e.k=3
  ·rw[yg he,if_neg (fun q=>h e List.mem_cons_self he q.symm)]
  ·rw[FZ he]
theorem FH (l:List Ev) {x:Int}:∀(f g:Int->Int),(∃e∈l,e.k=3/\e.a=x)->wN l f x=wN l g x:=by
 induction l with
 |nil=>intro f g ⟨e,he,_⟩;cases he
 |cons e l ih=>
  intro f g ⟨d,hd,hk,hx⟩;by_cases hl:∃e∈l,e.k=3/\e.a=x
  ·exact ih _ _ hl
  ·have hn:∀e∈l,e.k=3->e.a≠x:=fun e he h1 h2=>hl ⟨e,he,h1,h2⟩
   rw[wN,wN,nD l _ hn,nD l _ hn];rcases List.mem_cons.1 hd with rfl|hd
   ·rw[yg hk,yg hk,if_pos hx.symm,if_pos hx.symm]
   ·exact absurd hx (hn d hd hk)
def look (l:List (Int×Int)) (f:Int->Int) (x:Int):Int:=match l[place l x]? with
 |some c=>c.2
 |none=>f x
theorem t_ {l:List (Int×Int)} {a:Int} (h:l[place l a]? =none):∀c∈l,c.1≠a:=by
 have hl:l.length<=place l a:=by
  rcases Nat.lt_or_ge (place l a) l.length with e|e
  ·rw[dZ e] at h;cases h
  ·exact e
 intro c hc Ti;have:place l a<l.length:=List.findIdx_lt_length.2 ⟨c,hc,by simp[Ti]⟩;omega
theorem ow {l:List (Int×Int)} {a:Int} {c:Int×Int} (h:l[place l a]? =some c):c∈l/\c.1=a:=by
 have hl:=(bE.1 h).1;obtain⟨d,hd,hda⟩:=yO hl;rw[h] at hd;cases hd;exact⟨bA h,hda⟩
theorem EM {l:List (Int×Int)} {c:Int×Int} (h:c∈l):∃d,l[place l c.1]? =some d/\d.1=c.1:=by
 cases hp:l[place l c.1]? with
 |none=>exact absurd rfl (t_ hp c h)
 |some d=>exact⟨d,rfl,(ow hp).2⟩
def Once (l:List (Int×Int)):Prop:=∀c∈l,∀d∈l,c.1=d.1->c=d
theorem qw {l:List (Int×Int)} (ho:Once l) {c:Int×Int} (h:c∈l) (f:Int->Int):look l f c.1=c.2:=by
 obtain⟨d,hd,hdc⟩:=EM h;unfold look;rw[hd];rw[ho d (bA hd) c h hdc]
theorem sV {l:List (Int×Int)} {x:Int} (h:∀c∈l,c.1≠x) (f:Int->Int):look l f x=f x:=by
 unfold look;cases hp:l[place l x]? with
 |none=>rfl
 |some d=>exact absurd (ow hp).2 (h d (ow hp).1)
structure oI (done:List Ev) (log:List (Int×Int)):Prop where
 once:(log.map Prod.fst).Nodup
 wN:∀f x,wN done f x=look log f x
 keys:∀e∈done,e.k=3->∃c∈log,c.1=e.a
 evs:∀c∈log,∃e∈done,e.k=3/\e.a=c.1
theorem uu {l:List (Int×Int)} (h:(l.map Prod.fst).Nodup):Once l:=by
 induction l with
 |nil=>intro c hc;cases hc
 |cons b l ih=>
  simp only[List.map_cons,List.nodup_cons,List.mem_map,not_exists,not_and] at h;intro c hc d hd e;rcases List.mem_cons.1 hc with hc1|hc1
  ·rcases List.mem_cons.1 hd with hd1|hd1
   ·rw[hc1,hd1]
   ·exact absurd (by rw[<-e,hc1]) (h.1 d hd1)
  ·rcases List.mem_cons.1 hd with hd1|hd1
   ·exact absurd (by rw[e,hd1]) (h.1 c hc1)
   ·exact ih h.2 c hc1 d hd1 e
theorem oI.nil:oI [] []:=⟨by simp,fun f x=>by simp[Go.Proofs.YtopdcjimpdalpaaGreat.wN,look],by simp,by simp⟩
theorem oI.read {done:List Ev} {log:List (Int×Int)} (h:oI done log) {e:Ev} (he:e.k≠3):oI (done++[e]) log:=
 ⟨h.once,fun f x=>by rw[FP];show WO e _ x=_;rw[FZ he];exact h.wN f x,fun d hd hk=>by
  rcases List.mem_append.1 hd with hd|hd
  ·exact h.keys d hd hk
  ·rw[List.mem_singleton.1 hd] at hk;exact absurd hk he,fun c hc=>by
  obtain⟨d,hd,q⟩:=h.evs c hc;exact⟨d,List.mem_append_left _ hd,q⟩⟩
theorem oI.set {done:List Ev} {log:List (Int×Int)} (h:oI done log) {e:Ev} (he:e.k=3) (hp:place log e.a<log.length):oI (done++[e]) (log.set (place log e.a) (e.a,e.b)):=by
 obtain⟨c0,hc0,Ti⟩:=yO hp;have hmap:(log.set (place log e.a) (e.a,e.b)).map Prod.fst=log.map Prod.fst:=by
  refine List.ext_getElem? fun k=>?_
  rw[List.getElem?_map,List.getElem?_map];by_cases q:place log e.a=k
  ·subst q;rw[List.getElem?_set_self hp,hc0];simp[Ti]
  ·rw[List.getElem?_set_ne q]
 have hon:((log.set (place log e.a) (e.a,e.b)).map Prod.fst).Nodup:=by rw[hmap];exact h.once
 have hkey:∀x,(∃c∈log.set (place log e.a) (e.a,e.b),c.1=x)↔∃c∈log,c.1=x:=fun x=>by
  have h1:x∈(log.set (place log e.a) (e.a,e.b)).map Prod.fst↔x∈log.map Prod.fst:=by rw[hmap]
  rw[List.mem_map,List.mem_map] at h1;exact h1
 refine⟨hon,fun f x=>?_,fun d hd hk=>?_,fun c hc=>?_⟩
 ·rw[FP];show WO e _ x=_;rw[yg he];by_cases hx:x=e.a
  ·rw[if_pos hx,hx];exact(qw (uu hon) (c:=(e.a,e.b)) (bA (List.getElem?_set_self hp)) f).symm
  ·rw[if_neg hx,h.wN];by_cases hin:∃c∈log,c.1=x
   ·obtain⟨c,hc,hcx⟩:=hin;obtain⟨k,hk⟩:=List.getElem?_of_mem hc;have hne:place log e.a≠k:=fun q=>by rw[<-q,hc0] at hk;cases hk;exact hx (by rw[<-hcx,Ti])
    have hc':c∈log.set (place log e.a) (e.a,e.b):=bA (by rw[List.getElem?_set_ne hne];exact hk);rw[<-hcx,qw (uu h.once) hc,qw (uu hon) hc']
   ·rw[sV (fun c hc q=>hin ⟨c,hc,q⟩),sV (fun c hc q=>hin ((hkey x).1 ⟨c,hc,q⟩))]
 ·rw[hkey];rcases List.mem_append.1 hd with hd|hd
  ·exact h.keys d hd hk
  ·rw[List.mem_singleton.1 hd];exact⟨c0,bA hc0,Ti⟩
 ·rcases List.mem_or_eq_of_mem_set hc with hc|rfl
  ·obtain⟨d,hd,q⟩:=h.evs c hc;exact⟨d,List.mem_append_left _ hd,q⟩
  ·exact⟨e,by simp,he,rfl⟩
theorem oI.more {done:List Ev} {log:List (Int×Int)} (h:oI done log) {e:Ev} (he:e.k=3) (hp:¬place log e.a<log.length):oI (done++[e]) (log++[(e.a,e.b)]):=by
 have hno:∀c∈log,c.1≠e.a:=t_ (List.getElem?_eq_none (by omega));have hon:((log++[(e.a,e.b)]).map Prod.fst).Nodup:=by
  rw[List.map_append,List.nodup_append];refine⟨h.once,by simp,fun a ha b hb=>?_⟩;obtain⟨c,hc,rfl⟩:=List.mem_map.1 ha;simp at hb;rw[hb];exact hno c hc
 refine⟨hon,fun f x=>?_,fun d hd hk=>?_,fun c hc=>?_⟩
 ·rw[FP];show WO e _ x=_;rw[yg he];by_cases hx:x=e.a
  ·rw[if_pos hx,hx];exact(qw (uu hon) (c:=(e.a,e.b)) (by simp) f).symm
  ·rw[if_neg hx,h.wN];by_cases hin:∃c∈log,c.1=x
   ·obtain⟨c,hc,hcx⟩:=hin;rw[<-hcx,qw (uu h.once) hc,qw (uu hon) (List.mem_append_left _ hc)]
   ·rw[sV (fun c hc q=>hin ⟨c,hc,q⟩),sV (fun c hc q=>by
     rcases List.mem_append.1 hc with hc|hc
     ·exact hin ⟨c,hc,q⟩
     ·rw[List.mem_singleton.1 hc] at q;exact hx q.symm)]
 ·rcases List.mem_append.1 hd with hd|hd
  ·obtain⟨c,hc,q⟩:=h.keys d hd hk;exact⟨c,List.mem_append_left _ hc,q⟩
  ·rw[List.mem_singleton.1 hd];exact⟨(e.a,e.b),by simp,rfl⟩
 ·rcases List.mem_append.1 hc with hc|hc
  ·obtain⟨d,hd,q⟩:=h.evs c hc;exact⟨d,List.mem_append_left _ hd,q⟩
  ·rw[List.mem_singleton.1 hc];exact⟨e,by simp,he,rfl⟩
end Go.Proofs.YtopdcjimpdalpaaGreat

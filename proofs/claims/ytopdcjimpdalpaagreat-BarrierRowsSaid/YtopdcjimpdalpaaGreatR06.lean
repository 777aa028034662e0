import Derived.Test.YtopdcjimpdalpaaGreatR02
namespace Go.Proofs.YtopdcjimpdalpaaGreat
set_option linter.all false
theorem cu (a:Int):bA a<16:=by unfold bA;omega
theorem UJ {m s:Nat} (hm:m<65536) (hs:s<16):m|||1<<<s<65536:=by
 have h2:1<<<s<2 ^ 16:=by
  rw[Nat.one_shiftLeft];exact Nat.pow_lt_pow_right (by decide) hs
 exact Nat.or_lt_two_pow (n:=16) hm h2
theorem tJ {l:List (Int×Int)} {a:Int} (h:place l a<l.length):∃c,l[place l a]? =some c/\c.1=a:=by
 refine⟨l[place l a],eO h,?_⟩;have:=List.findIdx_getElem (p:=fun c:Int×Int=>c.1==a) (xs:=l) (w:=h);simp only[beq_iff_eq] at this;exact this
theorem wH (m s k:Nat):(m|||1<<<s).testBit k=(m.testBit k||decide (k=s)):=by
 rw[Nat.testBit_or,Nat.one_shiftLeft,Nat.testBit_two_pow];simp[eq_comm]
def Zd (e:Ev) (f:Int->Int):Int->Int:=if e.k=3 then fun x=>if x=e.a then e.b else f x else f
def sK:List Ev->(Int->Int)->Int->Int
 |[],f=>f
 |e::l,f=>sK l (Zd e f)
def rX:List Ev->(Int->Int)->Prop
 |[],_=>True
 |e::l,f=>(e.k=2->f e.a=e.b)/\rX l (Zd e f)
theorem w_ (l m:List Ev):∀f,sK (l++m) f=sK m (sK l f):=by
 induction l with
 |nil=>intro f;rfl
 |cons e l ih=>intro f;exact ih _
theorem D7 (l m:List Ev):∀f,rX (l++m) f↔rX l f/\rX m (sK l f):=by
 induction l with
 |nil=>intro f;simp[rX,sK]
 |cons e l ih=>intro f;simp only[List.cons_append,rX,sK,ih,and_assoc]
theorem Ez {e:Ev} (h:e.k≠3) (f:Int->Int):Zd e f=f:=if_neg h
theorem yP {e:Ev} (h:e.k=3) (f:Int->Int) (x:Int):Zd e f x=if x=e.a then e.b else f x:=by unfold Zd;rw[if_pos h]
theorem oh (l:List Ev) {x:Int}:∀(f:Int->Int),(∀e∈l,e.k=3->e.a≠x)->sK l f x=f x:=by
 induction l with
 |nil=>intro f _;rfl
 |cons e l ih=>
  intro f h;rw[sK,ih _ (fun d hd=>h d (List.mem_cons_of_mem _ hd))];by_cases he:e.k=3
  ·rw[yP he,if_neg (fun q=>h e List.mem_cons_self he q.symm)]
  ·rw[Ez he]
theorem Iy (l:List Ev) {x:Int}:∀(f g:Int->Int),(∃e∈l,e.k=3/\e.a=x)->sK l f x=sK l g x:=by
 induction l with
 |nil=>intro f g ⟨e,he,_⟩;cases he
 |cons e l ih=>
  intro f g ⟨d,hd,hk,hx⟩;by_cases hl:∃e∈l,e.k=3/\e.a=x
  ·exact ih _ _ hl
  ·have hn:∀e∈l,e.k=3->e.a≠x:=fun e he h1 h2=>hl ⟨e,he,h1,h2⟩
   rw[sK,sK,oh l _ hn,oh l _ hn];rcases List.mem_cons.1 hd with rfl|hd
   ·rw[yP hk,yP hk,if_pos hx.symm,if_pos hx.symm]
   ·exact absurd hx (hn d hd hk)
def look (l:List (Int×Int)) (f:Int->Int) (x:Int):Int:=match l[place l x]? with
 |some c=>c.2
 |none=>f x
theorem uW {l:List (Int×Int)} {a:Int} (h:l[place l a]? =none):∀c∈l,c.1≠a:=by
 have hl:l.length<=place l a:=by
  rcases Nat.lt_or_ge (place l a) l.length with e|e
  ·rw[eO e] at h;cases h
  ·exact e
 intro c hc Tk;have:place l a<l.length:=List.findIdx_lt_length.2 ⟨c,hc,by simp[Tk]⟩;omega
theorem pq {l:List (Int×Int)} {a:Int} {c:Int×Int} (h:l[place l a]? =some c):c∈l/\c.1=a:=by
 have hl:=(bu.1 h).1;obtain⟨d,hd,hda⟩:=tJ hl;rw[h] at hd;cases hd;exact⟨bC h,hda⟩
theorem GA {l:List (Int×Int)} {c:Int×Int} (h:c∈l):∃d,l[place l c.1]? =some d/\d.1=c.1:=by
 cases hp:l[place l c.1]? with
 |none=>exact absurd rfl (uW hp c h)
 |some d=>exact⟨d,rfl,(pq hp).2⟩
def Once (l:List (Int×Int)):Prop:=∀c∈l,∀d∈l,c.1=d.1->c=d
theorem qV {l:List (Int×Int)} (ho:Once l) {c:Int×Int} (h:c∈l) (f:Int->Int):look l f c.1=c.2:=by
 obtain⟨d,hd,hdc⟩:=GA h;unfold look;rw[hd];rw[ho d (bC hd) c h hdc]
theorem uB {l:List (Int×Int)} {x:Int} (h:∀c∈l,c.1≠x) (f:Int->Int):look l f x=f x:=by
 unfold look;cases hp:l[place l x]? with
 |none=>rfl
 |some d=>exact absurd (pq hp).2 (h d (pq hp).1)
structure iQ (done:List Ev) (log:List (Int×Int)):Prop where
 once:(log.map Prod.fst).Nodup
 sK:∀f x,sK done f x=look log f x
 keys:∀e∈done,e.k=3->∃c∈log,c.1=e.a
 evs:∀c∈log,∃e∈done,e.k=3/\e.a=c.1
theorem uR {l:List (Int×Int)} (h:(l.map Prod.fst).Nodup):Once l:=by
 induction l with
 |nil=>intro c hc;cases hc
 |cons b l ih=>
  simp only[List.map_cons,List.nodup_cons,List.mem_map,not_exists,not_and] at h;intro c hc d hd e;rcases List.mem_cons.1 hc with hc1|hc1
  ·rcases List.mem_cons.1 hd with hd1|hd1
   ·rw[hc1,hd1]
   ·exact absurd (by rw[<-e,hc1]) (h.1 d hd1)
  ·rcases List.mem_cons.1 hd with hd1|hd1
   ·exact absurd (by rw[e,hd1]) (h.1 c hc1)
   ·exact ih h.2 c hc1 d hd1 e
theorem iQ.nil:iQ [] []:=⟨by simp,fun f x=>by simp[Go.Proofs.YtopdcjimpdalpaaGreat.sK,look],by simp,by simp⟩
theorem iQ.read {done:List Ev} {log:List (Int×Int)} (h:iQ done log) {e:Ev} (he:e.k≠3):iQ (done++[e]) log:=
 ⟨h.once,fun f x=>by rw[w_];show Zd e _ x=_;rw[Ez he];exact h.sK f x,fun d hd hk=>by
  rcases List.mem_append.1 hd with hd|hd
  ·exact h.keys d hd hk
  ·rw[List.mem_singleton.1 hd] at hk;exact absurd hk he,fun c hc=>by
  obtain⟨d,hd,q⟩:=h.evs c hc;exact⟨d,List.mem_append_left _ hd,q⟩⟩
theorem iQ.set {done:List Ev} {log:List (Int×Int)} (h:iQ done log) {e:Ev} (he:e.k=3) (hp:place log e.a<log.length):iQ (done++[e]) (log.set (place log e.a) (e.a,e.b)):=by
 obtain⟨c0,hc0,Tk⟩:=tJ hp;have hmap:(log.set (place log e.a) (e.a,e.b)).map Prod.fst=log.map Prod.fst:=by
  refine List.ext_getElem? fun k=>?_
  rw[List.getElem?_map,List.getElem?_map];by_cases q:place log e.a=k
  ·subst q;rw[List.getElem?_set_self hp,hc0];simp[Tk]
  ·rw[List.getElem?_set_ne q]
 have hon:((log.set (place log e.a) (e.a,e.b)).map Prod.fst).Nodup:=by rw[hmap];exact h.once
 have hkey:∀x,(∃c∈log.set (place log e.a) (e.a,e.b),c.1=x)↔∃c∈log,c.1=x:=fun x=>by
  have h1:x∈(log.set (place log e.a) (e.a,e.b)).map Prod.fst↔x∈log.map Prod.fst:=by rw[hmap]
  rw[List.mem_map,List.mem_map] at h1;exact h1
 refine⟨hon,fun f x=>?_,fun d hd hk=>?_,fun c hc=>?_⟩
 ·rw[w_];show Zd e _ x=_;rw[yP he];by_cases hx:x=e.a
  ·rw[if_pos hx,hx];exact(qV (uR hon) (c:=(e.a,e.b)) (bC (List.getElem?_set_self hp)) f).symm
  ·rw[if_neg hx,h.sK];by_cases hin:∃c∈log,c.1=x
   ·obtain⟨c,hc,hcx⟩:=hin;obtain⟨k,hk⟩:=List.getElem?_of_mem hc;have hne:place log e.a≠k:=fun q=>by rw[<-q,hc0] at hk;cases hk;exact hx (by rw[<-hcx,Tk])
    have hc':c∈log.set (place log e.a) (e.a,e.b):=bC (by rw[List.getElem?_set_ne hne];exact hk);rw[<-hcx,qV (uR h.once) hc,qV (uR hon) hc']
   ·rw[uB (fun c hc q=>hin ⟨c,hc,q⟩),uB (fun c hc q=>hin ((hkey x).1 ⟨c,hc,q⟩))]
 ·rw[hkey];rcases List.mem_append.1 hd with hd|hd
  ·exact h.keys d hd hk
  ·rw[List.mem_singleton.1 hd];exact⟨c0,bC hc0,Tk⟩
 ·rcases List.mem_or_eq_of_mem_set hc with hc|rfl
  ·obtain⟨d,hd,q⟩:=h.evs c hc;exact⟨d,List.mem_append_left _ hd,q⟩
  ·exact⟨e,by simp,he,rfl⟩
theorem iQ.more {done:List Ev} {log:List (Int×Int)} (h:iQ done log) {e:Ev} (he:e.k=3) (hp:¬place log e.a<log.length):iQ (done++[e]) (log++[(e.a,e.b)]):=by
 have hno:∀c∈log,c.1≠e.a:=uW (List.getElem?_eq_none (by omega));have hon:((log++[(e.a,e.b)]).map Prod.fst).Nodup:=by
  rw[List.map_append,List.nodup_append];refine⟨h.once,by simp,fun a ha b hb=>?_⟩;obtain⟨c,hc,rfl⟩:=List.mem_map.1 ha;simp at hb;rw[hb];exact hno c hc
 refine⟨hon,fun f x=>?_,fun d hd hk=>?_,fun c hc=>?_⟩
 ·rw[w_];show Zd e _ x=_;rw[yP he];by_cases hx:x=e.a
  ·rw[if_pos hx,hx];exact(qV (uR hon) (c:=(e.a,e.b)) (by simp) f).symm
  ·rw[if_neg hx,h.sK];by_cases hin:∃c∈log,c.1=x
   ·obtain⟨c,hc,hcx⟩:=hin;rw[<-hcx,qV (uR h.once) hc,qV (uR hon) (List.mem_append_left _ hc)]
   ·rw[uB (fun c hc q=>hin ⟨c,hc,q⟩),uB (fun c hc q=>by
     rcases List.mem_append.1 hc with hc|hc
     ·exact hin ⟨c,hc,q⟩
     ·rw[List.mem_singleton.1 hc] at q;exact hx q.symm)]
 ·rcases List.mem_append.1 hd with hd|hd
  ·obtain⟨c,hc,q⟩:=h.keys d hd hk;exact⟨c,List.mem_append_left _ hc,q⟩
  ·rw[List.mem_singleton.1 hd];exact⟨(e.a,e.b),by simp,rfl⟩
 ·rcases List.mem_append.1 hc with hc|hc
  ·obtain⟨d,hd,q⟩:=h.evs c hc;exact⟨d,List.mem_append_left _ hd,q⟩
  ·rw[List.mem_singleton.1 hc];exact⟨e,by simp,he,rfl⟩
end Go.Proofs.YtopdcjimpdalpaaGreat

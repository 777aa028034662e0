import Derived.Test.YtopdcjimpdalpaaGreatQ08
namespace Go.Proofs.YtopdcjimpdalpaaGreat
set_option linter.all false
def ahead (a b:bV):Bool:=if a.place≠b.place then decide (a.place<b.place) else if a.writer≠b.writer then a.writer else decide (a.fin<b.fin)
theorem Lx {a b:bV} (h:ahead a b=true):ahead b a=false:=by
 unfold ahead at*;by_cases h1:a.place=b.place
 ·rw[if_neg (by simpa using h1)] at h;rw[if_neg (by simpa using h1.symm)];by_cases h2:a.writer=b.writer
  ·rw[if_neg (by simpa using h2)] at h;rw[if_neg (by simpa using h2.symm)];simp at h⊢;omega
  ·rw[if_pos (by simpa using h2)] at h;rw[if_pos (fun e=>h2 e.symm)];cases hb:b.writer with
   |false=>rfl
   |true=>rw[h,hb] at h2;exact absurd rfl h2
 ·rw[if_pos h1] at h;rw[if_pos (fun e=>h1 e.symm)];simp at h⊢;omega
theorem G6 {a b c:bV} (h1:ahead a b=false) (h2:ahead b c=false):ahead a c=false:=by
 unfold ahead at*;by_cases e1:a.place=b.place<;>by_cases e2:b.place=c.place
 ·have e3:a.place=c.place:=e1.trans e2;rw[if_neg (by simpa using e1)] at h1;rw[if_neg (by simpa using e2)] at h2;rw[if_neg (by simpa using e3)];cases ha:a.writer<;>cases hb:b.writer<;>cases hc:c.writer<;>rw[ha,hb] at h1<;>rw[hb,hc] at h2<;>simp_all<;>omega
 ·rw[if_pos e2] at h2;rw[if_pos (by rw[e1];exact e2)];simp at h2⊢;omega
 ·rw[if_pos e1] at h1;rw[if_pos (by rw[<-e2];exact e1)];simp at h1⊢;omega
 ·rw[if_pos e1] at h1;rw[if_pos e2] at h2;simp at h1 h2;rw[if_pos (by omega)];simp;omega
def rH (a:bV) (sa:List bV):Nat->Nat
 |0=>0
 |k+1=>match sa[k]? with
  |some b=>if ahead a b=true then rH a sa k else k+1
  |none=>k+1
theorem TS (a:bV) (sa:List bV):∀k,rH a sa k<=k:=by
 intro k;induction k with
 |zero=>exact aR _
 |succ k ih=>
  unfold rH;split
  ·split
   ·omega
   ·omega
  ·omega
theorem Ri (a:bV) (sa:List bV):∀k,k<=sa.length->(∀(j:Nat) b,rH a sa k<=j->j<k->sa[j]? =some b->ahead a b=true)/\(∀b,0<rH a sa k->sa[rH a sa k - 1]? =some b->ahead a b=false):=by
 intro k;induction k with
 |zero=>intro _;exact⟨fun j b h1 h2=>by omega,fun b h=>by simp[rH] at h⟩
 |succ k ih=>
  intro hk;obtain⟨i1,i2⟩:=ih (by omega);unfold rH;cases hs:sa[k]? with
  |none=>rw[List.getElem?_eq_none_iff] at hs;omega
  |some c=>
   simp only;by_cases hc:ahead a c=true
   ·rw[if_pos hc];refine⟨fun j b h1 h2 hb=>?_,i2⟩;by_cases e:j=k
    ·subst e;rw[hs] at hb;cases hb;exact hc
    ·exact i1 j b h1 (by omega) hb
   ·rw[if_neg hc];refine⟨fun j b h1 h2=>by omega,fun b _ hb=>?_⟩;rw[Nat.add_sub_cancel,hs] at hb;cases hb;simpa using hc
def uG (sa:List bV):Prop:=sa.Pairwise (fun a b=>ahead b a=false)
def L6 (a:bV) (sa:List bV):List bV:=sa.take (rH a sa sa.length)++a::sa.drop (rH a sa sa.length)
theorem Vr {a:bV} {sa:List bV} (h:uG sa):uG (L6 a sa):=by
 obtain⟨h1,h2⟩:=Ri a sa sa.length (aR _);have hp:=TS a sa sa.length;unfold L6;generalize rH a sa sa.length=p at h1 h2 hp⊢;have hall:uG (sa.take p++sa.drop p):=by rw[List.take_append_drop];exact h
 unfold uG at hall⊢;rw[List.pairwise_append] at hall⊢;obtain⟨q1,q2,q3⟩:=hall;have hlow:∀b∈sa.take p,ahead a b=false:=fun b hb=>by
  obtain⟨k,hk⟩:=List.getElem?_of_mem hb;have hkl:=(bE.1 hk).1;rw[List.length_take] at hkl;rw[List.getElem?_take_of_lt (by omega)] at hk;obtain⟨c,hc⟩:∃c,sa[p - 1]? =some c:=⟨_,dZ (by omega)⟩;have h3:=h2 c (by omega) hc;by_cases e:k=p - 1
  ·rw[<-e,hk] at hc;cases hc;exact h3
  ·have h4:ahead c b=false:=by
    have:=List.pairwise_iff_getElem.1 h k (p - 1) (by omega) (by omega) (by omega);rw[dZ (by omega)] at hk hc;cases hk;cases hc;exact this
   exact G6 h3 h4
 have hhigh:∀b∈sa.drop p,ahead b a=false:=fun b hb=>by
  obtain⟨k,hk⟩:=List.getElem?_of_mem hb;rw[List.getElem?_drop] at hk;exact Lx (h1 (p+k) b (by omega) (bE.1 hk).1 hk)
 refine⟨q1,List.pairwise_cons.2 ⟨hhigh,q2⟩,fun b hb c hc=>?_⟩;rcases List.mem_cons.1 hc with rfl|hc
 ·exact hlow b hb
 ·exact q3 b hb c hc
theorem Hr {a b:bV} {sa:List bV}:b∈L6 a sa↔b=a\/b∈sa:=by
 unfold L6;rw[List.mem_append,List.mem_cons];constructor
 ·rintro(h|rfl|h)
  ·exact .inr (List.mem_of_mem_take h)
  ·exact .inl rfl
  ·exact .inr (List.mem_of_mem_drop h)
 ·rintro(rfl|h)
  ·exact .inr (.inl rfl)
  ·rw[<-List.take_append_drop (rH a sa sa.length) sa,List.mem_append] at h;exact h.imp id .inr
theorem K5 {a:bV} {sa:List bV} (h:sa.Nodup) (ha:a∉sa):(L6 a sa).Nodup:=by
 have h0:(sa.take (rH a sa sa.length)++sa.drop (rH a sa sa.length)).Nodup:=by rw[List.take_append_drop];exact h
 unfold L6;rw[List.nodup_append] at h0⊢;obtain⟨q1,q2,q3⟩:=h0;refine⟨q1,List.nodup_cons.2 ⟨fun e=>ha (List.mem_of_mem_drop e),q2⟩,fun b hb c hc=>?_⟩;rcases List.mem_cons.1 hc with rfl|hc
 ·exact fun e=>ha (by rw[<-e];exact List.mem_of_mem_take hb)
 ·exact q3 b hb c hc
def AZ (sa:List bV) (a:bV):List bV:=if a.kind=1 then L6 a sa else sa
def zg (l:List bV):List bV:=l.foldl AZ []
theorem QI (l:List bV):uG (zg l):=by
 have:∀(l sa:List bV),uG sa->uG (l.foldl AZ sa):=fun l=>by
  induction l with
  |nil=>intro sa h;exact h
  |cons a l ih=>
   intro sa h;refine ih _ ?_;unfold AZ;split
   ·exact Vr h
   ·exact h
 exact this l [] List.Pairwise.nil
theorem tF (l:List bV) (b:bV):b∈zg l↔b∈l/\b.kind=1:=by
 have:∀(l sa:List bV),b∈l.foldl AZ sa↔b∈sa\/b∈l/\b.kind=1:=fun l=>by
  induction l with
  |nil=>intro sa;simp
  |cons a l ih=>
   intro sa;rw[List.foldl_cons,ih];unfold AZ;by_cases h:a.kind=1
   ·rw[if_pos h,Hr,List.mem_cons];constructor
    ·rintro((rfl|q)|⟨q1,q2⟩)
     ·exact .inr ⟨.inl rfl,h⟩
     ·exact .inl q
     ·exact .inr ⟨.inr q1,q2⟩
    ·rintro(q|⟨rfl|q1,q2⟩)
     ·exact .inl (.inr q)
     ·exact .inl (.inl rfl)
     ·exact .inr ⟨q1,q2⟩
   ·rw[if_neg h,List.mem_cons];constructor
    ·rintro(q|⟨q1,q2⟩)
     ·exact .inl q
     ·exact .inr ⟨.inr q1,q2⟩
    ·rintro(q|⟨rfl|q1,q2⟩)
     ·exact .inl q
     ·exact absurd q2 h
     ·exact .inr ⟨q1,q2⟩
 rw[zg,this];simp
theorem AQ {l:List bV} (h:l.Nodup):(zg l).Nodup:=by
 have:∀(l sa:List bV),sa.Nodup->l.Nodup->(∀a∈l,a∉sa)->(l.foldl AZ sa).Nodup:=fun l=>by
  induction l with
  |nil=>intro sa h _ _;exact h
  |cons a l ih=>
   intro sa h h1 h2;rw[List.nodup_cons] at h1;refine ih _ ?_ h1.2 (fun b hb=>?_)
   ·unfold AZ;split
    ·exact K5 h (h2 a List.mem_cons_self)
    ·exact h
   ·unfold AZ;split
    ·rw[Hr];rintro(rfl|q)
     ·exact h1.1 hb
     ·exact h2 b (List.mem_cons_of_mem _ hb) q
    ·exact h2 b (List.mem_cons_of_mem _ hb)
 exact this l [] List.nodup_nil h (by simp)
theorem NR (l:List bV):∀(k:List bV),l.Pairwise (fun a b=>a.place<b.place)->k.Pairwise (fun a b=>a.place<b.place)->(∀a,a∈l↔a∈k)->l=k:=by
 induction l with
 |nil=>
  intro k _ _ h;cases k with
  |nil=>rfl
  |cons b k=>exact absurd ((h b).2 List.mem_cons_self) (by simp)
 |cons a l ih=>
  intro k hl hk h;cases k with
  |nil=>exact absurd ((h a).1 List.mem_cons_self) (by simp)
  |cons b k=>
   rw[List.pairwise_cons] at hl hk;have hab:a=b:=by
    rcases List.mem_cons.1 ((h a).1 List.mem_cons_self) with e|e
    ·exact e
    ·rcases List.mem_cons.1 ((h b).2 List.mem_cons_self) with q|q
     ·exact q.symm
     ·have h1:=hk.1 a e;have h2:=hl.1 b q;omega
   subst hab;congr 1
   refine ih k hl.2 hk.2 fun c=>⟨fun hc=>?_,fun hc=>?_⟩
   ·rcases List.mem_cons.1 ((h c).1 (List.mem_cons_of_mem _ hc)) with e|e
    ·subst e;have:=hl.1 c hc;omega
    ·exact e
   ·rcases List.mem_cons.1 ((h c).2 (List.mem_cons_of_mem _ hc)) with e|e
    ·subst e;have:=hk.1 c hc;omega
    ·exact e
variable {evs:List Ev} {s:HS} {cw:List bV} {W:Int} {m:Nat}
theorem eY.nodup (h:eY evs s cw W m):s.bu.Nodup:=by
 rw[List.nodup_iff_pairwise_ne];rw[List.pairwise_iff_getElem];intro i j hi hj hij e;have:=(h.hok.order i j _ _ hij (dZ hi) (dZ hj)).1;rw[e] at this;omega
theorem G5 {cw:List bV} (h:cw.Pairwise (fun a b=>a.place<b.place)) {a b:bV} (ha:a∈cw) (hb:b∈cw) (hp:a.place=b.place):a=b:=by
 induction cw with
 |nil=>cases ha
 |cons c l ih=>
  rw[List.pairwise_cons] at h;rcases List.mem_cons.1 ha with rfl|ha1
  ·rcases List.mem_cons.1 hb with rfl|hb1
   ·rfl
   ·have:=h.1 b hb1;omega
  ·rcases List.mem_cons.1 hb with rfl|hb1
   ·have:=h.1 a ha1;omega
   ·exact ih h.2 ha1 hb1
theorem IL {l:List bV} (h:l.Nodup) {i j:Nat} {a:bV} (hi:l[i]? =some a) (hj:l[j]? =some a):i=j:=by
 have h1:=List.pairwise_iff_getElem.1 h;obtain⟨li,hi⟩:=bE.1 hi;obtain⟨lj,hj⟩:=bE.1 hj;rcases Nat.lt_trichotomy i j with e|e|e
 ·exact absurd (hi.trans hj.symm) (h1 i j li lj e)
 ·exact e
 ·exact absurd (hj.trans hi.symm) (h1 j i lj li e)
theorem eY.part (h:eY evs s cw W m) {k:List bV} {p:bV->Bool} (hk:List.Sublist k (zg s.bu)) (hp:∀a,a∈cw->(a∈k↔p a=true)):k.filter (fun a=>a.writer)=cw.filter p:=by
 refine NR _ _ ?_ (h.inc.sublist List.filter_sublist) fun a=>?_
 ·have h1:(k.filter (fun a=>a.writer)).Pairwise (fun a b=>ahead b a=false):=((QI s.bu).sublist hk).sublist List.filter_sublist;have h2:(k.filter (fun a=>a.writer)).Nodup:=((AQ h.nodup).sublist hk).sublist List.filter_sublist;have hmem:∀a∈k.filter (fun a=>a.writer),a∈cw:=fun a ha=>by
   rw[List.mem_filter] at ha;obtain⟨q1,q2⟩:=(tF s.bu a).1 (hk.subset ha.1);exact(h.M8 a).2 ⟨q1,q2,ha.2⟩
  rw[List.pairwise_iff_getElem] at h1⊢;intro i j hi hj hij;have g1:=h1 i j hi hj hij;have m1:=hmem _ (List.getElem_mem hi);have m2:=hmem _ (List.getElem_mem hj);have hne:(k.filter (fun a=>a.writer))[i]≠(k.filter (fun a=>a.writer))[j]:=fun e=>by
   have:=IL h2 (dZ hi) (by rw[e];exact dZ hj);omega
  have hpl:(k.filter (fun a=>a.writer))[i].place≠(k.filter (fun a=>a.writer))[j].place:=fun e=>hne (G5 h.inc m1 m2 e)
  unfold ahead at g1;rw[if_pos (fun e=>hpl e.symm)] at g1;simp at g1;omega
 ·rw[List.mem_filter,List.mem_filter];constructor
  ·rintro⟨q1,q2⟩;have q3:=(tF s.bu a).1 (hk.subset q1);have q4:=(h.M8 a).2 ⟨q3.1,q3.2,q2⟩;exact⟨q4,(hp a q4).1 q1⟩
  ·rintro⟨q1,q2⟩;exact⟨(hp a q1).2 q2,((h.M8 a).1 q1).2.2⟩
theorem FW (k:List bV):∀f,(∀a∈k,a.writer=false->∀e∈a.done,e.k≠3)->k.foldl xy f=(k.filter (fun a=>a.writer)).foldl xy f:=by
 induction k with
 |nil=>intro f _;rfl
 |cons a l ih=>
  intro f h;have hl:∀b∈l,b.writer=false->∀e∈b.done,e.k≠3:=fun b hb=>h b (List.mem_cons_of_mem _ hb)
  cases hw:a.writer with
  |true=>rw[List.filter_cons_of_pos hw,List.foldl_cons,List.foldl_cons,ih _ hl]
  |false=>
   rw[List.filter_cons_of_neg (by simp[hw]),List.foldl_cons];have:xy f a=f:=by
    funext x
    exact nD a.done f (fun e he hk=>absurd hk (h a List.mem_cons_self hw e he))
   rw[this];exact ih f hl
theorem eY.quiet (h:eY evs s cw W m) {a:bV} (ha:a∈zg s.bu) (hw:a.writer=false):∀e∈a.done,e.k≠3:=by
 obtain⟨q1,q2⟩:=(tF s.bu a).1 ha;exact((h.oQ a q1).reader q2 hw).2
theorem eY.places (h:eY evs s cw W m) {i:Nat} {x y:bV} (hx:(zg s.bu)[i]? =some x) (hy:(zg s.bu)[i+1]? =some y) (h1:x.writer=true) (h2:y.writer=true):x.place≠y.place:=by
 intro e;obtain⟨q1,q2⟩:=(tF s.bu x).1 (bA hx);obtain⟨r1,r2⟩:=(tF s.bu y).1 (bA hy);have:=G5 h.inc ((h.M8 x).2 ⟨q1,q2,h1⟩) ((h.M8 y).2 ⟨r1,r2,h2⟩) e;subst this;have:=IL (AQ h.nodup) hx hy;omega
theorem eY.snap (h:eY evs s cw W m) {x:bV} (hx:x∈s.bu) {k:List bV} (hk:List.Sublist k (zg s.bu)) (hp:∀a∈cw,a∈k↔a.place<=x.clock):wY x.done (k.foldl xy (fun _=>0)):=by
 rw[FW _ _ (fun a ha=>h.quiet (hk.subset ha)),h.part (p:=fun a=>decide (a.place<=x.clock)) hk (fun a ha=>by rw[hp a ha,decide_eq_true_eq])];exact(h.oQ x hx).rd
theorem eY.self (h:eY evs s cw W m) {x:bV} (hx:x∈cw):¬x.place<=x.clock:=by
 have h1:=(h.M8 x).1 hx;have:=((h.oQ x h1.1).writer h1.2.1 h1.2.2).1;omega
end Go.Proofs.YtopdcjimpdalpaaGreat

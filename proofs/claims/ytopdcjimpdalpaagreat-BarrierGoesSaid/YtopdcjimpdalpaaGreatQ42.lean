import Derived.Test.YtopdcjimpdalpaaGreatQ40
import Derived.Test.YtopdcjimpdalpaaGreatQ41
import Derived.ProofKit
import Derived.Deep.RegionLawGrows
import Derived.Deep.RegionHeld3
namespace Go.Proofs.YtopdcjimpdalpaaGreat
open Go.RowKit
set_option linter.all false
def enc2 (p:bV×Value):List Value:=Gn p.1 p.2
def abj (l:List bV) (w:World) (e:Ending) (w':World):Prop:=
 ∃(ao:Option Addr) (cp:Nat) (ps:List (bV×Value)),ps.map Prod.fst=l/\e= .returned (.tuple #[.slice ao ps.length cp,.int .i64 0,.int .i64 0])/\w'.ownsRow w.heap.size 76 8 (.slice ao ps.length cp) ps.length (ps.flatMap enc2)/\
  (∀p∈ps,w'.ownsRow w.heap.size 127 4 p.2 p.1.done.length (p.1.done.flatMap Ch))/\
  (∀(i j g:Nat) p q,i≠j->ps[i]? =some p->ps[j]? =some q->p.2.ownBlock=some g->q.2.ownBlock≠some g)/\(∀p∈ps,∀g,p.2.ownBlock=some g->(Value.slice ao ps.length cp).ownBlock≠some g)/\Below w.heap.size w w'
def Ab (evs:List Ev) (w:World) (e:Ending) (w':World):Prop:=
 match nT evs 0 HS.init with
 |.inl s=>abj s.bu w e w'
 |.inr k=>e= .returned (.tuple #[.slice none 0 0,.int .i64 (k:Int),.int .i64 15])/\Below w.heap.size w w'
theorem Ab.no {evs:List Ev} {k:Nat} {w w':World} (h:nT evs 0 HS.init= .inr k) (hb:Below w.heap.size w w'):Ab evs w (.returned (.tuple #[.slice none 0 0,.int .i64 (k:Int),.int .i64 15])) w':=by
 unfold Ab;rw[h];exact⟨rfl,hb⟩
def encZ (n:Int):List Value:=[.int .i64 n]
def ofL (evs:List Ev):List bV:=match nT evs 0 HS.init with|.inl s=>s.bu|.inr _=>[]
def abw (evs:List Ev):Int:=match nT evs 0 HS.init with|.inl _=>0|.inr k=>k
def RF (evs:List Ev):Int:=match nT evs 0 HS.init with|.inl _=>0|.inr _=>15
structure vO (w:World) (base:Nat) (v:Value) (ps:List (bV×Value)):Prop where
 row:w.ownsRow base 76 8 v ps.length (ps.flatMap enc2)
 own:∀(j:Nat) p,ps[j]? =some p->w.ownsRow base 127 4 p.2 p.1.done.length (p.1.done.flatMap Ch)
 ne:∀(j g:Nat) p,ps[j]? =some p->p.2.ownBlock=some g->v.ownBlock≠some g
 lg:∀(i j g:Nat) p q,i≠j->ps[i]? =some p->ps[j]? =some q->p.2.ownBlock=some g->q.2.ownBlock≠some g
theorem vO.nil (w:World) (base:Nat):vO w base (.slice none 0 0) []:=⟨World.ownsRow_nil _ _ _ _,fun j p h=>by simp at h,fun j g p h=>by simp at h,fun i j g p q _ h=>by simp at h⟩
theorem vO.keep {w w':World} {base:Nat} {v:Value} {ps:List (bV×Value)} (h:vO w base v ps) (hb:Below w.heap.size w w'):vO w' base v ps:=
 ⟨bD h.row (bH.of_below (S:=fun _=>False) hb) (fun _ _=>id),fun j p hp=>bD (h.own j p hp) (bH.of_below (S:=fun _=>False) hb) (fun _ _=>id),h.ne,h.lg⟩
theorem vO.mono {w:World} {base base':Nat} {v:Value} {ps:List (bV×Value)} (h:vO w base v ps) (hb:base'<=base):vO w base' v ps:=
 ⟨dm h.row hb,fun j p hp=>dm (h.own j p hp) hb,h.ne,h.lg⟩
def Zq (evs:List Ev) (w:World) (e:Ending) (w':World):Prop:=
 ∃(ao:Option Addr) (cp:Nat) (ps:List (bV×Value)),ps.map Prod.fst=ofL evs/\e= .returned (.tuple #[.slice ao ps.length cp,.int .i64 (abw evs),.int .i64 (RF evs)])/\vO w' w.heap.size (.slice ao ps.length cp) ps/\Below w.heap.size w w'
theorem Zq.of {evs:List Ev} {w:World} {e:Ending} {w':World} (h:Ab evs w e w'):Zq evs w e w':=by
 unfold Ab at h;unfold Zq ofL abw RF;cases hr:nT evs 0 HS.init with
 |inl s=>
  rw[hr] at h;obtain⟨ao,cp,ps,h1,rfl,h2,h3,h4,h5,h6⟩:=h;exact⟨ao,cp,ps,h1,rfl,⟨h2,fun j p hp=>h3 p (bA hp),fun j g p hp hg=>h5 p (bA hp) g hg,h4⟩,h6⟩
 |inr k=>
  rw[hr] at h;obtain⟨rfl,h6⟩:=h;exact⟨none,0,[],rfl,rfl,vO.nil _ _,h6⟩
def Gc:List Ev->Nat->Int->List Int
 |[],_,_=>[]
 |x::l,i,t=>if x.th=t/\(x.k=7\/x.k=9\/x.k=10\/x.k=11) then(i:Int)::Gc l (i+1) t else Gc l (i+1) t
def KR (evs:List Ev) (t:Int):Int:=if t<0\/4<=t then 1 else RF evs
def QK (evs:List Ev) (t:Int):List Int:=if KR evs t=0 then Gc evs 0 t else []
def Yu (evs:List Ev) (t:Int) (w:World) (e:Ending) (w':World):Prop:=
 ∃(ao:Option Addr) (cp:Nat),e= .returned (.tuple #[.slice ao (QK evs t).length cp,.int .i64 (KR evs t)])/\w'.ownsRow w.heap.size 3 1 (.slice ao (QK evs t).length cp) (QK evs t).length ((QK evs t).flatMap encZ)/\Below w.heap.size w w'
theorem Yu.no {evs:List Ev} {t n:Int} {w w':World} (hn:KR evs t=n) (h0:n≠0) (hb:Below w.heap.size w w'):Yu evs t w (.returned (.tuple #[.slice none 0 0,.int .i64 n])) w':=by
 have e1:QK evs t=[]:=if_neg (by rw[hn];exact h0);unfold Yu;rw[e1,hn];exact⟨none,0,rfl,World.ownsRow_nil _ _ _ _,hb⟩
theorem ER.same {w w':World} {base bs:Nat} {v:Value} {ps:List (bV×Value)} {s:HS} (h:CW w base bs v ps s) (hb:Below w.heap.size w w'):ER w w' base bs v ps s v:=
 ⟨ps,h.below hb,bH.of_below hb,fun k hk=>.inl hk⟩
theorem ER.post {w w1 w':World} {base bs:Nat} {v v':Value} {ps:List (bV×Value)} {s':HS} (h:ER w w1 base bs v ps s' v') (hb:Below w1.heap.size w1 w'):ER w w' base bs v ps s' v':=by
 obtain⟨ps',h1,h2,h3⟩:=h;exact⟨ps',h1.below hb,h2.gY (bH.of_below (S:=fun _=>False) hb) (fun _ _ q=>q.elim),h3⟩
theorem Zq.no {evs:List Ev} {k:Nat} {w w':World} (h:nT evs 0 HS.init= .inr k) (hb:Below w.heap.size w w'):Zq evs w (.returned (.tuple #[.slice none 0 0,.int .i64 (k:Int),.int .i64 15])) w':=Zq.of (Ab.no h hb)
end Go.Proofs.YtopdcjimpdalpaaGreat

import Derived.Test.YtopdcjimpdalpaaGreatQ39
import Derived.Deep.MidRow
import Derived.Deep.CutRange
import Derived.Deep.RegionHeld3
import Derived.Deep.RegionLaw
namespace Go.Proofs.YtopdcjimpdalpaaGreat
open Go.RowKit
set_option linter.all false
structure BX where
 lv:Value
 num:Int
 len:Nat
def Jk (n:Int):List Value:=[.int .i64 (-1000 - n),.int .u8 0,.int .i64 0,.int .i64 0,.int .i64 0,.int .i64 0,.bool false,.slice none 0 0]
def GR (k:Nat) (n:Int):List Value:=(List.replicate k (Jk n)).flatten
def rR (w:World) (base:Nat) (e:BX):Prop:=w.ownsRow base 76 8 e.lv e.len (GR e.len e.num)
theorem rR.keep {w w':World} {base:Nat} {e:BX} (h:rR w base e) (hk:∀g,e.lv.ownBlock=some g->g<w.heap.size->w'.heap[g]? =w.heap[g]?):rR w' base e:=aP h hk
def MN:Option Nat->Int
 |none=> -1
 |some j=>j
def Jn (s:HS):List Value:=
 [.int .i64 (MN (s.opn 0)),.int .i64 (MN (s.opn 1)),.int .i64 (MN (s.opn 2)),.int .i64 (MN (s.opn 3)),.bool (s.ended 0),.bool (s.ended 1),.bool (s.ended 2),.bool (s.ended 3)]
def WV (p:bV×Value):List Value:=Gn p.1 p.2
structure CW (w:World) (base bs:Nat) (v:Value) (ps:List (bV×Value)) (s:HS):Prop where
 st:w.heap[bs]? =some (.cells (Jn s).toArray 159 (0,0))
 fst:ps.map Prod.fst=s.bu
 row:w.ownsRow base 76 8 v ps.length (ps.flatMap WV)
 own:∀(j:Nat) p,ps[j]? =some p->w.ownsRow base 127 4 p.2 p.1.done.length (p.1.done.flatMap Ch)
 bb:bs<base
 ne:∀(j g:Nat) p,ps[j]? =some p->p.2.ownBlock=some g->v.ownBlock≠some g
 lg:∀(i j g:Nat) p q,i≠j->ps[i]? =some p->ps[j]? =some q->p.2.ownBlock=some g->q.2.ownBlock≠some g
def MQ (bs:Nat) (v:Value) (ps:List (bV×Value)) (k:Nat):Prop:=k=bs\/v.ownBlock=some k\/∃(j:Nat) (p:bV×Value),ps[j]? =some p/\p.2.ownBlock=some k
def ER (w w':World) (base bs:Nat) (v:Value) (ps:List (bV×Value)) (s':HS) (v':Value):Prop:=
 ∃ps',CW w' base bs v' ps' s'/\bH (MQ bs v ps) w w'/\∀k,MQ bs v' ps' k->MQ bs v ps k\/w.heap.size<=k
theorem CW.below {w w':World} {base bs:Nat} {v:Value} {ps:List (bV×Value)} {s:HS} (h:CW w base bs v ps s) (hb:Below w.heap.size w w'):CW w' base bs v ps s:=
 ⟨blk hb h.st,h.fst,aP h.row (fun g _ hg=>hb.block g hg),fun j p hp=>aP (h.own j p hp) (fun g _ hg=>hb.block g hg),h.bb,h.ne,h.lg⟩
theorem Dc {α:Type} {l:List α} {i:Nat} {y z:α} (h:(l++[y])[i]? =some z):i=l.length/\z=y\/l[i]? =some z:=by
 rcases Nat.lt_or_ge i l.length with h1|h1
 ·rw[List.getElem?_append_left h1] at h;exact .inr h
 ·rw[List.getElem?_append_right h1] at h;have:=(bE.1 h).1;simp at this;obtain rfl:i=l.length:=by omega
  simp at h;exact .inl ⟨rfl,h.symm⟩
theorem CW.begin {w w1 w2:World} {base bs:Nat} {v v':Value} {ps:List (bV×Value)} {s s':HS} {a:bV} (h:CW w base bs v ps s) (hc1:bH (fun k=>k=bs) w w1) (hs1:w1.heap[bs]? =some (.cells (Jn s').toArray 159 (0,0)))
  (hg:w1.grownBy w2 v.ownBlock) (hrow:w2.ownsRow base 76 8 v' (ps.length+1) (ps.flatMap WV++Gn a (.slice none 0 0))) (hf:∀g,v'.ownBlock=some g->v.ownBlock=some g\/w.heap.size<=g) (ha:s'.bu=s.bu++[a]) (hd:a.done=[]):
  ER w w2 base bs v ps s' v':=by
 have hbb:=h.bb;have hc2:bH (fun k=>v.ownBlock=some k) w1 w2:=(bH.refl _ w1).grown hg (fun k hk=>.inl hk);have hvb:∀g,v.ownBlock=some g->base<=g:=fun g hg=>(cK h.row hg).1
 have hkeep:∀(j:Nat) p,ps[j]? =some p->∀g,p.2.ownBlock=some g->g<w.heap.size->w2.heap[g]? =w.heap[g]?:=fun j p hp g hg hl=>by
  rw[hc2.block g (Nat.lt_of_lt_of_le hl hc1.size) (fun e=>h.ne j g p hp hg e),hc1.block g hl (fun e=>by have:=cK (h.own j p hp) hg;omega)]
 refine⟨ps++[(a,.slice none 0 0)],⟨gV hc2 hs1 (fun e=>by have:=hvb _ e;omega),?_,?_,fun j p hp=>?_,hbb,fun j g p hp hg2 e=>?_,fun i j g p q hij hp hq hg2 e=>?_⟩,?_,fun k hk=>?_⟩
 ·rw[List.map_append,h.fst,ha];rfl
 ·rw[List.length_append,mU];exact hrow
 ·rcases Dc hp with⟨_,rfl⟩|hp
  ·rw[hd];exact World.ownsRow_nil _ _ _ _
  ·exact aP (h.own j p hp) fun g hg2 hl=>hkeep j p hp g hg2 hl
 ·rcases Dc hp with⟨_,rfl⟩|hp
  ·simp[Value.ownBlock] at hg2
  ·rcases hf g e with e|e
   ·exact h.ne j g p hp hg2 e
   ·have:=cK (h.own j p hp) hg2;omega
 ·rcases Dc hp with⟨_,rfl⟩|hp
  ·simp[Value.ownBlock] at hg2
  ·rcases Dc hq with⟨_,rfl⟩|hq
   ·simp[Value.ownBlock] at e
   ·exact h.lg i j g p q hij hp hq hg2 e
 ·exact(bH.gY (S:=MQ bs v ps) (T:=fun k=>v.ownBlock=some k) ⟨hc1.os,hc1.tape,hc1.output,hc1.size,fun k hk hn=>hc1.block k hk (fun e=>hn (.inl e))⟩ hc2 (fun k _ hk=>.inr (.inl hk)))
 ·rcases hk with rfl|hk|⟨j,p,hp,hg2⟩
  ·exact .inl (.inl rfl)
  ·exact(hf k hk).imp (fun e=>.inr (.inl e)) id
  ·rcases Dc hp with⟨_,rfl⟩|hp
   ·simp[Value.ownBlock] at hg2
   ·exact .inl (.inr (.inr ⟨j,p,hp,hg2⟩))
theorem four {t:Nat} (h:t<4):t=0\/t=1\/t=2\/t=3:=by omega
theorem RD.GZ {S:Nat->Prop} {w w':World} {base g:Nat} {dv:Value} {a:bV} (h:RD w base g dv a) (c:bH S w w') (h1:¬S g) (h2:∀d,dv.ownBlock=some d->¬S d):RD w' base g dv a:=
 ⟨gV c h.1 h1,h.2.1,bD h.2.2 c h2⟩
end Go.Proofs.YtopdcjimpdalpaaGreat

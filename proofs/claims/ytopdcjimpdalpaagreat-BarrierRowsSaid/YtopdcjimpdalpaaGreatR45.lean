import Derived.Test.YtopdcjimpdalpaaGreatR43
import Derived.Deep.CutRange
namespace Go.Proofs.YtopdcjimpdalpaaGreat
open Go.RowKit
set_option linter.all false
section
variable {w w':World}
def zs (l:List Nat):List Int:=l.map (fun j:Nat=>(j:Int))
end
section
variable {w w':World}
def zz (w:World) (base:Nat) (ao:Option Addr) (c:Nat) (out:List Nat):Prop:=w.ownsRow base 3 1 (.slice ao out.length c) out.length ((zs out).flatMap encZ)
theorem zz.rd {base c:Nat} {ao:Option Addr} {out:List Nat} (h:zz w base ao c out):dH encZ w 1 (.slice ao (zs out).length c) (zs out):=by
 have:=Rd.gu h;unfold dH;rw[show(zs out).length=out.length from List.length_map _];exact this
end
section
variable {w w':World} {base hb:Nat} {v:Value} {cells:List (Int×Int)}
structure kZ (w:World) (base hb:Nat) (v:Value) (cells:List (Int×Int)):Prop where
 blk:w.heap[hb]? =some (.cells #[v] 121 (0,0))
 low:base<=hb
 row:w.ownsRow base 99 2 v cells.length (cells.flatMap dQ)
 ne:∀g,v.ownBlock=some g->g≠hb
theorem kZ.below (h:kZ w base hb v cells) (hc:Below w.heap.size w w'):kZ w' base hb v cells:=
 ⟨Go.Proofs.YtopdcjimpdalpaaGreat.blk hc h.blk,h.low,aX h.row (bz.of_below (S:=fun _=>False) hc) (fun _ _=>id),h.ne⟩
def Da (cells:List (Int×Int)) (x y:Int):List (Int×Int):=if place cells x<cells.length then cells.set (place cells x) (x,y) else cells++[(x,y)]
end
section
variable {w w':World} {base hb:Nat} {v:Value} {cells:List (Int×Int)}
theorem iQ.put {done:List Ev} (h:iQ done cells) {e:Ev} (he:e.k=3):iQ (done++[e]) (Da cells e.a e.b):=by
 unfold Da;by_cases hp:place cells e.a<cells.length
 ·rw[if_pos hp];exact h.set he hp
 ·rw[if_neg hp];exact h.more he hp
end
section
variable {w w':World}
def iV (l:List bJ):Nat:=(l.map (fun a=>a.done.length)).sum
theorem rM (l m:List bJ):iV (l++m)=iV l+iV m:=by unfold iV;rw[List.map_append,List.sum_append]
theorem xA (a:bJ) (l:List bJ):iV (a::l)=a.done.length+iV l:=by simp[iV]
end
end Go.Proofs.YtopdcjimpdalpaaGreat

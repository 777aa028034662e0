import Derived.Test.YtopdcjimpdalpaaGreatQ44
import Derived.Deep.CutRange
namespace Go.Proofs.YtopdcjimpdalpaaGreat
open Go.RowKit
set_option linter.all false
section
variable {w w':World}
def zs (l:List Nat):List Int:=l.map (fun j:Nat=>(j:Int))
end
section
variable {w w':World}
def W9 (w:World) (base:Nat) (ao:Option Addr) (c:Nat) (out:List Nat):Prop:=w.ownsRow base 3 1 (.slice ao out.length c) out.length ((zs out).flatMap encZ)
theorem W9.rd {base c:Nat} {ao:Option Addr} {out:List Nat} (h:W9 w base ao c out):fI encZ w 1 (.slice ao (zs out).length c) (zs out):=by
 have:=Rd.iV h;unfold fI;rw[show(zs out).length=out.length from List.length_map _];exact this
end
section
variable {w w':World} {base hb:Nat} {v:Value} {cells:List (Int×Int)}
structure KF (w:World) (base hb:Nat) (v:Value) (cells:List (Int×Int)):Prop where
 blk:w.heap[hb]? =some (.cells #[v] 121 (0,0))
 low:base<=hb
 row:w.ownsRow base 99 2 v cells.length (cells.flatMap iI)
 ne:∀g,v.ownBlock=some g->g≠hb
theorem KF.below (h:KF w base hb v cells) (hc:Below w.heap.size w w'):KF w' base hb v cells:=
 ⟨Go.Proofs.YtopdcjimpdalpaaGreat.blk hc h.blk,h.low,bD h.row (bH.of_below (S:=fun _=>False) hc) (fun _ _=>id),h.ne⟩
def aaP (cells:List (Int×Int)) (x y:Int):List (Int×Int):=if place cells x<cells.length then cells.set (place cells x) (x,y) else cells++[(x,y)]
end
section
variable {w w':World} {base hb:Nat} {v:Value} {cells:List (Int×Int)}
theorem oI.put {done:List Ev} (h:oI done cells) {e:Ev} (he:e.k=3):oI (done++[e]) (aaP cells e.a e.b):=by
 unfold aaP;by_cases hp:place cells e.a<cells.length
 ·rw[if_pos hp];exact h.set he hp
 ·rw[if_neg hp];exact h.more he hp
end
section
variable {w w':World}
def FO (l:List bV):Nat:=(l.map (fun a=>a.done.length)).sum
theorem RZ (l m:List bV):FO (l++m)=FO l+FO m:=by unfold FO;rw[List.map_append,List.sum_append]
theorem Qk (a:bV) (l:List bV):FO (a::l)=a.done.length+FO l:=by simp[FO]
end
end Go.Proofs.YtopdcjimpdalpaaGreat

import Derived.Below
namespace Go.Proofs.YtopdcjimpdalpaaGreat
open Go.RowKit
set_option linter.all false
universe u
theorem bE {α:Type u} {l:List α} {i:Nat} {a:α}:l[i]?=some a↔∃h:i<l.length,l[i]=a:=List.getElem?_eq_some_iff
theorem bA {α:Type u} {l:List α} {i:Nat} {a:α} (h:l[i]?=some a):a∈l:=List.mem_of_getElem? h
theorem aR (n:Nat):n<=n:=Nat.le_refl n
theorem aQ (b:Nat) (w:World):Below b w w:=Below.refl b w
theorem bU {α:Type u} (a b:α):(some a=some b)=(a=b):=Option.some.injEq a b
theorem bY {α:Type u} [BEq α] [LawfulBEq α] {a b:α}:(a==b)=false↔a≠b:=beq_eq_false_iff_ne
theorem dH (w:World) (a:Addr) {u:Value} (h:w.cell? a=some u):a.block<w.heap.size:=World.block_lt_of_cell? w a h
theorem dO (w:World) (a:Addr) (u:Value) (k:Nat) (h:k≠a.block):(w.setCell a u).heap[k]?=w.heap[k]?:=Below.heap_setCell w a u k h
theorem dZ {α:Type u} {l:List α} {i:Nat} (h:i<l.length):l[i]?=some l[i]:=List.getElem?_eq_getElem h
theorem g_ {α:Type u} {xs:Array α} {i:Nat} {a:α} {j:Nat} (h:i≠j):(xs.setIfInBounds i a)[j]?=xs[j]?:=Array.getElem?_setIfInBounds_ne h
end Go.Proofs.YtopdcjimpdalpaaGreat

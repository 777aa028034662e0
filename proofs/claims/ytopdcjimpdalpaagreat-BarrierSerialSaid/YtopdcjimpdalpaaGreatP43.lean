import Derived.Test.YtopdcjimpdalpaaGreatP42
namespace Go.Proofs.YtopdcjimpdalpaaGreat
set_option linter.all false
variable {s:HS} {cw:List bJ}
theorem zw (l:List bJ):∀f,sK (l.flatMap bJ.done) f=l.foldl rf f:=by
 induction l with
 |nil=>intro f;rfl
 |cons a l ih=>intro f;rw[List.flatMap_cons,w_,List.foldl_cons,ih];rfl
theorem Mm (l:List Ev):∀f,sK (l.filter (fun e=>decide (e.k≠2/\e.k≠4))) f=sK l f:=by
 induction l with
 |nil=>intro f;rfl
 |cons e l ih=>
  intro f;by_cases h:e.k≠2/\e.k≠4
  ·rw[List.filter_cons_of_pos (by simpa using h)];exact ih _
  ·rw[List.filter_cons_of_neg (by simpa using h),ih,sK,Ez (by omega)]
end Go.Proofs.YtopdcjimpdalpaaGreat

import Derived.Test.YtopdcjimpdalpaaGreatR45
import Derived.Deep.RegionHeld3
namespace Go.Proofs.YtopdcjimpdalpaaGreat
set_option linter.all false
variable {evs:List Ev} {s:HS} {cw:List bJ} {W:Int} {m:Nat} {ps:List (bJ×Value)}
theorem d_.Pm (h:d_ evs s cw W m):s.aU.length+iV s.aU<=evs.length:=by
 have:=YQ evs yV.init h.eF;simpa [HS.init,iV] using this
theorem d_.fine (h:d_ evs s cw W m) (hm:m<=262144) (hl:evs.length<=1048576):∀a∈s.aU,xm a:=fun a ha=>by
 have ok:=h.nY a ha;obtain⟨j,hj⟩:=List.getElem?_of_mem ha;obtain⟨a1,a2,a3,a4,a5,a6⟩:=h.hok.nY j a hj;have hs:a.done.length<=evs.length:=by
  obtain⟨l1,l2,e⟩:=List.append_of_mem ha;have:=h.Pm;rw[e,rM,xA] at this;omega
 refine⟨⟨a1,a2⟩,?_,a3,ok.u7,ok.plain,fun e he=>?_,by omega⟩
 ·rcases a6 with⟨q1,q2, -⟩|⟨q1,q2,q3⟩
  ·exact .inl ⟨q2,q1⟩
  ·exact .inr ⟨by rcases ok.kind with e|e;exact absurd e q3;exact e,q1⟩
 ·obtain⟨e1,e2,e3⟩:=ok.evs e he;exact⟨a5 e he,by omega,by omega,e1⟩
end Go.Proofs.YtopdcjimpdalpaaGreat

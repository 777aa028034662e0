import Derived.Test.YtopdcjimpdalpaaGreatQ46
import Derived.Deep.RegionHeld3
namespace Go.Proofs.YtopdcjimpdalpaaGreat
set_option linter.all false
variable {evs:List Ev} {s:HS} {cw:List bV} {W:Int} {m:Nat} {ps:List (bV×Value)}
theorem eY.UY (h:eY evs s cw W m):s.bu.length+FO s.bu<=evs.length:=by
 have:=Vq evs BN.init h.eu;simpa [HS.init,FO] using this
theorem eY.fine (h:eY evs s cw W m) (hm:m<=262144) (hl:evs.length<=1048576):∀a∈s.bu,V_ a:=fun a ha=>by
 have ok:=h.oQ a ha;obtain⟨j,hj⟩:=List.getElem?_of_mem ha;obtain⟨a1,a2,a3,a4,a5,a6⟩:=h.hok.oQ j a hj;have hs:a.done.length<=evs.length:=by
  obtain⟨l1,l2,e⟩:=List.append_of_mem ha;have:=h.UY;rw[e,RZ,Qk] at this;omega
 refine⟨⟨a1,a2⟩,?_,a3,ok.uE,ok.plain,fun e he=>?_,by omega⟩
 ·rcases a6 with⟨q1,q2, -⟩|⟨q1,q2,q3⟩
  ·exact .inl ⟨q2,q1⟩
  ·exact .inr ⟨by rcases ok.kind with e|e;exact absurd e q3;exact e,q1⟩
 ·obtain⟨e1,e2,e3⟩:=ok.evs e he;exact⟨a5 e he,by omega,by omega,e1⟩
end Go.Proofs.YtopdcjimpdalpaaGreat

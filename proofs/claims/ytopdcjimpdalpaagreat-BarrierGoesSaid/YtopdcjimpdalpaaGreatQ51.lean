import Derived.Test.YtopdcjimpdalpaaGreatQ45
import Derived.Test.YtopdcjimpdalpaaGreatQ50
namespace Go.Proofs.YtopdcjimpdalpaaGreat
open Go.ChangeShapes Go.WideShapes Go.ChangeAt Go.RowKit
set_option linter.all false
theorem PX {H:Type} {enc:TypeId×Value->H} {w:World} {held:Bool} {ao:Option Addr} {len cap:Nat} {d:DataW H} {p:List MemPlace} (h:DataW.Trod enc Tryz.prog w 0 (fun _=>true) held 22 (.slice ao len cap) d p):
  ∃ts:vw,len=ts.length/\yT w (.slice ao ts.length cap) ts/\(ts=[]\/∃els sp,d= .slice els sp/\els.length=ts.length):=by
 obtain⟨l,rfl,hr,hm,hok,hn⟩:=uL (d:=d) (p:=p) (sz:=1) (e:=62) (fun _=>rfl) (by decide) Tryz.underlying22 (by kernel_rfl) G8 h;exact⟨l,rfl,⟨hr,fun q hq=>(hok q hq).1,hm,fun q hq=>(hok q hq).2.1,fun q hq=>(hok q hq).2.2.1,fun q hq=>(hok q hq).2.2.2⟩,hn⟩
end Go.Proofs.YtopdcjimpdalpaaGreat

import Derived.Test.YtopdcjimpdalpaaGreatQ44
import Derived.Test.YtopdcjimpdalpaaGreatQ48
import Derived.Lib.SmallJoins
namespace Go.Proofs.YtopdcjimpdalpaaGreat
open Go.ChangeShapes Go.WideShapes Go.ChangeAt Go.RowKit
set_option linter.all false
theorem V3 {α:Type} (l:List α) (h:l.length=4):∃a b c d,l=[a,b,c,d]:=by
 match l,h with
 |[a,b,c,d],_=>exact⟨a,b,c,d,rfl⟩
theorem Uk {H:Type} {enc:TypeId×Value->H} {w:World} {held:Bool} (fuel:Nat) (cs:List Value) (x:DataW H×List MemPlace) (h:DataW.trod enc Tryz.prog w 0 (fun _=>true) held fuel 96 cs=some x):∃a:Tx,cs=rX a/\yG a:=by
 obtain⟨y0,y1,y2,y3,n,hx,hl,h0,h1,h2,h3⟩:=Go.Joins.trod_struct4 Tryz.underlying96 h;obtain⟨a,ha, -, -⟩:=DataW.trod_int Tryz.underlying3 h0;obtain⟨k,hk, -,hkw⟩:=DataW.trod_int Tryz.underlying94 h1;obtain⟨b,hb, -,hbw⟩:=DataW.trod_int Tryz.underlying3 h2;obtain⟨c,hc, -,hcw⟩:=DataW.trod_int Tryz.underlying2 h3;rw[show Tryz.prog.cellsOf 96=4 from by kernel_rfl] at hl;rw[show Tryz.prog.cellsOf 3=1 from by kernel_rfl] at ha hb;rw[show Tryz.prog.cellsOf 94=1 from by kernel_rfl] at hk;rw[show Tryz.prog.cellsOf 2=1 from by kernel_rfl] at hc;obtain⟨c0,c1,c2,c3,rfl⟩:=V3 cs hl;simp at ha hk hb hc;exact⟨⟨a,k,b,c⟩,by simp[rX,ha,hk,hb,hc],MJ hbw,MJ hcw⟩
theorem Mk {H:Type} {enc:TypeId×Value->H} {w:World} {held:Bool} (fuel:Nat) (cs:List Value) (x:DataW H×List MemPlace) (h:DataW.trod enc Tryz.prog w 0 (fun _=>true) held fuel 79 cs=some x):
  ∃a:Value×List Tx,cs=encR a/\(fI rX w 4 a.1 a.2/\(∀o∈a.2,yG o)/\a.2.length<=9223372036854775807):=by
 rcases Go.Deep.open_slice Tryz.underlying79 h with⟨rfl,_⟩|⟨a,len,cap,m,n,D,Pl,rfl,_⟩
 ·exact⟨(.slice none 0 0,[]),rfl,Rd.nil w 4,by simp,by simp⟩
 ·obtain⟨l,rfl,hr,hm,hok, -⟩:=uL (d:=x.1) (p:=x.2) (sz:=4) (e:=96) qB (by decide) Tryz.underlying79 (by kernel_rfl) Uk ⟨fuel,by simpa [Value.cells] using h⟩;exact⟨(.slice (some a) l.length cap,l),rfl,hr,hok,hm⟩
end Go.Proofs.YtopdcjimpdalpaaGreat

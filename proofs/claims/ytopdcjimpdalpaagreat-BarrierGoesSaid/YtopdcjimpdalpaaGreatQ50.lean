import Derived.Test.YtopdcjimpdalpaaGreatQ47
import Derived.Test.YtopdcjimpdalpaaGreatQ49
namespace Go.Proofs.YtopdcjimpdalpaaGreat
open Go.ChangeShapes Go.WideShapes Go.ChangeAt Go.RowKit
set_option linter.all false
set_option maxRecDepth 100000
theorem G8 {H:Type} {enc:TypeId×Value->H} {w:World} {held:Bool} (fuel:Nat) (cs:List Value) (x:DataW H×List MemPlace) (h:DataW.trod enc Tryz.prog w 0 (fun _=>true) held fuel 62 cs=some x):
  ∃a:Value×List (Value×List Tx),cs=xA a/\(qo w a.1 a.2/\a.2.length<=9223372036854775807/\(∀q∈a.2,q.2.length<=9223372036854775807)/\∀q∈a.2,∀o∈q.2,yG o):=by
 rcases Go.Deep.open_slice Tryz.underlying62 h with⟨rfl,_⟩|⟨a,len,cap,m,n,D,Pl,rfl,_⟩
 ·exact⟨(.slice none 0 0,[]),rfl,⟨Rd.nil w 1,by simp⟩,by simp,by simp,by simp⟩
 ·obtain⟨l,rfl,hr,hm,hok, -⟩:=uL (d:=x.1) (p:=x.2) (sz:=1) (e:=79) (fun _=>rfl) (by decide) Tryz.underlying62 (by kernel_rfl) Mk ⟨fuel,by simpa [Value.cells] using h⟩;exact⟨(.slice (some a) l.length cap,l),rfl,⟨hr,fun q hq=>(hok q hq).1⟩,hm,fun q hq=>(hok q hq).2.2,fun q hq=>(hok q hq).2.1⟩
theorem adu {n:Int} (h:(Lit.int .u8 n).wf=true):0<=n/\n<256:=by
 simp[Lit.wf] at h;have e1:IntKind.u8.min=0:=by decide
 have e2:IntKind.u8.max=255:=by decide
 omega
theorem YI {H:Type} {enc:TypeId×Value->H} {w:World} {held:Bool} (fuel:Nat) (cs:List Value) (x:DataW H×List MemPlace) (h:DataW.trod enc Tryz.prog w 0 (fun _=>true) held fuel 42 cs=some x):∃a,cs=iE a/\(0<=a.kind/\(-9223372036854775808<=a.n/\a.n<=9223372036854775807)):=by
 obtain⟨xs,n,_,rfl,hl,hlen,hf⟩:=DataW.trod_struct Tryz.underlying42 h;rw[show Tryz.prog.cellsOf 42=3 from by kernel_rfl] at hl
 match xs,hlen with
 |[y0,y1,y2],_=>
 have e1:Tryz.prog.cellsOf 40=1:=by kernel_rfl
 have e2:Tryz.prog.cellsOf 3=1:=by kernel_rfl
 obtain⟨v0,h0, -,w0⟩:=DataW.trod_int Tryz.underlying40 (hf 0 _ rfl);obtain⟨v1,h1, -,w1⟩:=DataW.trod_int Tryz.underlying3 (hf 1 _ rfl);obtain⟨v2,h2, -,w2⟩:=DataW.trod_int Tryz.underlying3 (hf 2 _ rfl)
 match cs,hl with
 |[c0,c1,c2],_=>
  simp[e1] at h0;simp[e2] at h1 h2;have h3:=MJ w2;have h4:=(adu w0).1;exact⟨⟨v0,v1,v2⟩,by simp[iE,h0,h1,h2],h4,by simp only;have:=h3;omega⟩
theorem Ib {H:Type} {enc:TypeId×Value->H} {w:World} {held:Bool} {ao:Option Addr} {len cap:Nat} {d:DataW H} {p:List MemPlace} (h:DataW.Trod enc Tryz.prog w 0 (fun _=>true) held 23 (.slice ao len cap) d p):
  ∃sc:List gT,len=sc.length/\fI iE w 3 (.slice ao sc.length cap) sc/\sc.length<=9223372036854775807/\∀p∈sc,0<=p.kind/\(-9223372036854775808<=p.n/\p.n<=9223372036854775807):=by
 obtain⟨l,rfl,hr,hm,hok, -⟩:=uL (d:=d) (p:=p) (sz:=3) (e:=42) (fun _=>rfl) (by decide) Tryz.underlying23 (by kernel_rfl) YI h;exact⟨l,rfl,hr,hm,hok⟩
end Go.Proofs.YtopdcjimpdalpaaGreat

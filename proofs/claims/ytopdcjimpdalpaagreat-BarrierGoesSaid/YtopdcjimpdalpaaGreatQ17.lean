import Derived.Test.YtopdcjimpdalpaaGreatQ03
namespace Go.Proofs.YtopdcjimpdalpaaGreat
open Go.RowKit
set_option linter.all false
set_option maxHeartbeats 400000
def vC (a:Int):Int:=bits BinOp.and IntKind.i64 a 15
def odd (a:Int):Bool:=bits BinOp.and IntKind.i64 a 1==1
theorem Kr (a:Int) (w:World):
  Calls Tryz.prog 41 #[.int .i64 a] w fun e w'=>e= .returned (.int .i64 (vC a))/\w'=w:=by
 go_in;go_wp2;go_ret;exact⟨rfl,rfl⟩
theorem LJ (a:Int) (w:World) (h:(bits BinOp.and IntKind.i64 a 1==1)=true):
  Calls Tryz.prog 19 #[.int .i64 a] w fun e w'=>e= .returned (.tuple #[.bool true,.int .i64 (a/2),.int .i64 0])/\w'=w:=by
 go_in;go_wp2
 go_ret3
 exact⟨rfl,rfl⟩
theorem Hq (a:Int) (w:World) (h:(bits BinOp.and IntKind.i64 a 1==1)=false):
  Calls Tryz.prog 19 #[.int .i64 a] w fun e w'=>e= .returned (.tuple #[.bool false,.int .i64 0,.int .i64 (a/2)])/\w'=w:=by
 go_in;go_wp2
 go_ret3
 exact⟨rfl,rfl⟩
theorem Eh (a s:Int) (v:Value) (w:World):
  Calls Tryz.prog 118 #[.agg #[.int .i64 a,v,.int .i64 s]] w fun e w'=>e= .returned (.int .i64 (wrap64 (a+1)))/\Below w.heap.size w w':=by
 go_in;go_wp2;go_ret;exact⟨rfl,(aQ _ _).alloc (aR _) _⟩
theorem Tf (a s b:Int) (v:Value) (w:World):
  Calls Tryz.prog 20 #[.agg #[.int .i64 a,v,.int .i64 s],.int .i64 b] w fun e w'=>e= .returned (.int .i64 (wrap64 (wrap64 (a+2)+vC b)))/\Below w.heap.size w w':=by
 go_in;go_wp2;go_quiet ((go_at_call 41;exact Calls.quiet_of_same (Kr _ _)))
 go_wp2;go_ret;exact⟨rfl,below_drewN ((aQ _ _).alloc (aR _) _) _⟩
def tk (n:Int) (s:Int×Bool):Int×Bool:=if 262144 - s.1<n then(s.1,true) else(s.1+n,s.2)
theorem TG (n:Int) (A O:Nat) (t:Int) (o:Bool) (w:World) (hn0:0<=n) (ht0:1<=t) (ht1:t<=262144)
  (hA:w.heap[A]? =some (.cells #[.int .i64 t] 3 (0,0))) (hO:w.heap[O]? =some (.cells #[.bool o] 4 (0,0))) (hne:A≠O):
  Calls Tryz.prog 40 #[.int .i64 n,.pointer (some ⟨A,0,none⟩),.pointer (some ⟨O,0,none⟩)] w fun e w'=>e= .returned (.int .i64 t)/\
   w'.heap[A]? =some (.cells #[.int .i64 (tk n (t,o)).1] 3 (0,0))/\w'.heap[O]? =some (.cells #[.bool (tk n (t,o)).2] 4 (0,0))/\w'.heap.size=w.heap.size/\bH (fun k=>k=A\/k=O) w w':=by
 have cA:=cell_of_one hA;have fA:=free_of_one hA;have cO:=cell_of_one hO;have fO:=free_of_one hO;have H:=ag hA;have H':=ag hO;clear hA hO;by_cases hc:262144 - t<n
 ·go_in;go_wp2;go_ret;simp only[tk,hc,if_true];exact⟨rfl,by rw[dO _ _ _ _ hne];exact H.out,one_setCell H'.out,by simp[World.setCell],(bH.refl _ _).setCell (.inl (.inr rfl)) _⟩
 ·have hb:t+n<=262144:=by omega
  go_in;go_wp2;go_ret;simp only[tk,if_neg (show ¬262144 - t<n by omega)];exact⟨rfl,one_setCell H.out,by rw[dO _ _ _ _ (Ne.symm hne)];exact H'.out,by simp[World.setCell],(bH.refl _ _).setCell (.inl (.inl rfl)) _⟩
end Go.Proofs.YtopdcjimpdalpaaGreat

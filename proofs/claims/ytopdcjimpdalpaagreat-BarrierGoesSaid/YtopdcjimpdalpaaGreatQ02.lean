import Derived.Test.YtopdcjimpdalpaaGreatQ01
namespace Go.Proofs.YtopdcjimpdalpaaGreat
set_option linter.all false
structure Th where
 phase:Int
 clock:Int
 reads:Nat
 log:List (Int×Int)
 held:Nat
 old:Nat->Int
 now:Int
def Th.none:Th:=⟨0,0,0,[],0,fun _=>0,0⟩
structure TW where
 mem:List Int
 clock:Int
 aN:Nat->Int
 aM:List Th
 evs:List Ev
structure Tx where
 th:Int
 kind:Int
 at_:Int
 v:Int
def BJ (v:Int):Bool:=v%2==1
def since (v:Int):Int:=if BJ v then 0 else v/2
def aV (a:Int):Nat:=(a%16).toNat
def freed (held:Nat) (say aN:Nat->Int):Nat->Int:=fun s=>if s<16/\held.testBit s=true then say s else aN s
def TW.abort (w:TW) (n:Nat) (t:Th):TW:=
 {w with aN:=freed t.held t.old w.aN,evs:=w.evs++[⟨n,8,0,0⟩],aM:=w.aM.set n Th.none}
def stale (aN:Nat->Int) (t:Th) (s:Nat):Bool:=
 let v:=if t.held.testBit s then t.old s else aN s
 BJ v||decide (t.clock<since v)
def place (l:List (Int×Int)) (a:Int):Nat:=l.findIdx (fun c=>c.1==a)
def TW.begin (w:TW) (n:Nat):TW:=
 {w with aM:=w.aM.set n {Th.none with phase:=1,clock:=w.clock},evs:=w.evs++[⟨n,1,w.clock,0⟩]}
def TW.read (w:TW) (n:Nat) (t:Th) (a:Int):TW:=
 match t.log[place t.log a]? with
 |some c=>{w with evs:=w.evs++[⟨n,2,a,c.2⟩]}
 |none=>if stale w.aN t (aV a) then w.abort n t
  else {w with aM:=w.aM.set n {t with reads:=t.reads|||1<<<aV a},evs:=w.evs++[⟨n,2,a,w.mem.getD a.toNat 0⟩]}
def TW.write (w:TW) (n:Nat) (t:Th) (a v:Int):TW:=
 if place t.log a<t.log.length then {w with aM:=w.aM.set n {t with log:=t.log.set (place t.log a) (a,v)},evs:=w.evs++[⟨n,3,a,v⟩]}
 else if t.log.length<64 then {w with aM:=w.aM.set n {t with log:=t.log++[(a,v)]},evs:=w.evs++[⟨n,3,a,v⟩]}
 else w
def needs (l:List (Int×Int)):Nat:=l.foldl (fun m c=>m|||1<<<aV c.1) 0
def wanted (t:Th):Option Nat:=(List.range 16).find? (fun s=>(needs t.log).testBit s && !t.held.testBit s)
def TW.lock (w:TW) (n:Nat) (t:Th):TW:=
 match wanted t with
 |some s=>if BJ (w.aN s) then w.abort n t
  else {w with aN:=upd w.aN s (2*n+1),aM:=w.aM.set n {t with held:=t.held|||1<<<s,old:=upd t.old s (w.aN s)}}
 |none=>
  if(List.range 16).any (fun s=>t.reads.testBit s && stale w.aN t s) then {w with clock:=w.clock+1}.abort n t
  else {w with clock:=w.clock+1,aM:=w.aM.set n {t with now:=w.clock+1,phase:=3},evs:=w.evs++[⟨n,7,w.clock+1,1⟩]}
def TW.back (w:TW) (n:Nat) (t:Th):TW:=
 match t.log with
 |c::l=>{w with mem:=w.mem.set c.1.toNat c.2,aM:=w.aM.set n {t with log:=l}}
 |[]=>{w with aN:=freed t.held (fun _=>2*t.now) w.aN,aM:=w.aM.set n Th.none}
def TW.step (w:TW) (n:Nat) (t:Th):TW:=
 if t.phase=1 then
  if t.log=[] then {w with aM:=w.aM.set n Th.none,evs:=w.evs++[⟨n,7,t.clock,0⟩]}
  else w.lock n {t with phase:=2}
 else if t.phase=2 then w.lock n t
 else if t.phase=3 then w.back n t
 else w
def TW.init (words threads:Nat):TW:=⟨List.replicate (words+1) 0,0,fun _=>0,List.replicate threads Th.none,[]⟩
end Go.Proofs.YtopdcjimpdalpaaGreat

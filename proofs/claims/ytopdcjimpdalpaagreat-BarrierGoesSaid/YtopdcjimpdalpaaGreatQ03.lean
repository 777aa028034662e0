import Derived.Test.YtopdcjimpdalpaaGreatQ00
import Derived.Test.YtopdcjimpdalpaaGreatRows
import Derived.WalkKit
import Derived.WalkSpells
import Derived.WalkLawsBesides
import Derived.Deep.QuietTactic
import Derived.BigQuiet
import Derived.Laws.CopyOwn
namespace Go.Proofs.YtopdcjimpdalpaaGreat
open Go.RowKit
set_option linter.all false
theorem ag {p:Prop} (h:p):Hid p:=h
structure bH (S:Nat->Prop) (w w':World):Prop where
 os:w'.os=w.os
 tape:w'.tape=w.tape
 output:w'.output=w.output
 size:w.heap.size<=w'.heap.size
 block:∀k,k<w.heap.size->¬S k->w'.heap[k]? =w.heap[k]?
theorem bH.refl (S:Nat->Prop) (w:World):bH S w w:=⟨rfl,rfl,rfl,aR _,fun _ _ _=>rfl⟩
theorem bH.setCell {S:Nat->Prop} {a w:World} (h:bH S a w) {p:Addr} (hp:S p.block\/a.heap.size<=p.block) (u:Value):bH S a (w.setCell p u):=
 ⟨h.os,h.tape,h.output,by simpa [World.setCell] using h.size,fun k hk hn=>by
  rw[dO _ _ _ _ (fun e=>by rcases hp with hp|hp;exact hn (by rw[e];exact hp);omega)];exact h.block k hk hn⟩
theorem bH.alloc {S:Nat->Prop} {a w:World} (h:bH S a w) (o:Obj):bH S a (w.alloc o):=
 ⟨h.os,h.tape,h.output,by have:=h.size;simp;omega,fun k hk hn=>by
  have:=h.size;rw[Below.heap_alloc _ _ _ (by omega)];exact h.block k hk hn⟩
theorem bH.drewN {S:Nat->Prop} {a w:World} (h:bH S a w) (n:Nat):bH S a (w.drewN n):=⟨h.os,h.tape,h.output,h.size,h.block⟩
theorem bH.drew {S:Nat->Prop} {a w:World} (h:bH S a w):bH S a w.drew:=⟨h.os,h.tape,h.output,h.size,h.block⟩
theorem bH.trans {S:Nat->Prop} {a b c:World} (h:bH S a b) (g:bH S b c):bH S a c:=
 ⟨g.os.trans h.os,g.tape.trans h.tape,g.output.trans h.output,Nat.le_trans h.size g.size,fun k hk hn=>by
  have:=h.size;rw[g.block k (by omega) hn];exact h.block k hk hn⟩
theorem bH.gY {S T:Nat->Prop} {a b c:World} (h:bH S a b) (g:bH T b c) (hs:∀k,k<a.heap.size->T k->S k):bH S a c:=
 ⟨g.os.trans h.os,g.tape.trans h.tape,g.output.trans h.output,Nat.le_trans h.size g.size,fun k hk hn=>by
  have:=h.size;rw[g.block k (by omega) (fun ht=>hn (hs k hk ht))];exact h.block k hk hn⟩
theorem bH.of_below {S:Nat->Prop} {a b:World} (h:Below a.heap.size a b):bH S a b:=⟨h.os,h.tape,h.output,h.size,fun k hk _=>h.block k hk⟩
theorem bH.vg {a b:World} {B:Nat} {S:Nat->Prop} (h:bH S a b) (hB:B<=a.heap.size) (hs:∀k,S k->B<=k):Below B a b:=
 ⟨h.os,h.tape,h.output,h.size,fun k hk=>h.block k (by omega) (fun hk'=>by have:=hs k hk';omega)⟩
theorem bH.below {S:Nat->Prop} {a b c:World} {B:Nat} (h:Below B a b) (hB:B<=b.heap.size) (g:bH S b c) (hs:∀k,S k->B<=k):Below B a c:=
 h.trans (g.vg hB hs)
theorem bH.grown {S:Nat->Prop} {a w w':World} {row:Option Nat} (h:bH S a w) (hg:w.grownBy w' row) (hr:∀k,row=some k->S k\/a.heap.size<=k):bH S a w':=
 ⟨hg.os.trans h.os,hg.tape.trans h.tape,hg.output.trans h.output,Nat.le_trans h.size hg.size,fun k hk hn=>by
  have:=h.size;rw[hg.block k (by omega) (fun e=>by rcases hr k e.symm with h|h;exact hn h;omega)];exact h.block k hk hn⟩
theorem af {w:World} {b o:Nat} {c:Array Value} {t:TypeId} {v:Value} (h:w.heap[b]? =some (.cells c t (0,0))) (hv:c[o]? =some v):w.cell? ⟨b,o,none⟩=some v:=by simp[World.cell?,h,hv]
theorem aJ {w:World} {b o:Nat} {c:Array Value} {t:TypeId} (h:w.heap[b]? =some (.cells c t (0,0))):w.frozen? ⟨b,o,none⟩=false:=by simp[World.frozen?,h]
theorem aK {w:World} {b o:Nat} {c:Array Value} {t:TypeId} {f:Nat×Nat} (u:Value) (h:w.heap[b]? =some (.cells c t f)):(w.setCell ⟨b,o,none⟩ u).heap[b]? =some (.cells (c.setIfInBounds o u) t f):=by
 have hlt:=lt_of_block h;have h':w.heap[b]= .cells c t f:=by simpa [Array.getElem?_eq_getElem hlt] using h
 show(w.heap.modify b _)[b]? =_;rw[Array.getElem?_eq_getElem (by simpa using hlt),Array.getElem_modify_self,h'];rfl
theorem bz {w:World} {b:Nat} {o x:Obj} (h:w.heap[b]? =some x):(w.alloc o).heap[b]? =some x:=by
 rw[Below.heap_alloc _ _ _ (lt_of_block h)];exact h
theorem jV {w:World} {b:Nat} {a:Addr} {u:Value} {x:Obj} (h:w.heap[b]? =some x) (hn:b≠a.block):(w.setCell a u).heap[b]? =some x:=by
 rw[dO _ _ _ _ hn];exact h
theorem blk {w w':World} {b:Nat} {x:Obj} (hb:Below w.heap.size w w') (h:w.heap[b]? =some x):w'.heap[b]? =some x:=by
 rw[hb.block _ (lt_of_block h)];exact h
theorem gV {S:Nat->Prop} {w w':World} {b:Nat} {x:Obj} (hb:bH S w w') (h:w.heap[b]? =some x) (hn:¬S b):w'.heap[b]? =some x:=by
 rw[hb.block _ (lt_of_block h) hn];exact h
theorem gH {a b c:World} (h:Below a.heap.size a b) (g:Below b.heap.size b c):Below a.heap.size a c:=h.trans (g.mono h.size)
theorem MF {a b c:World} {o:Obj} (h:Below a.heap.size a b) (g:Below (b.alloc o).heap.size (b.alloc o) c):Below a.heap.size a c:=gH (h.alloc h.size o) g
theorem Vt {a b c:World} {o o':Obj} (h:Below a.heap.size a b) (g:Below ((b.alloc o).alloc o').heap.size ((b.alloc o).alloc o') c):Below a.heap.size a c:=MF (h.alloc h.size o) g
theorem aX (w:World) (o:Obj):(w.alloc o).heap[w.heap.size]? =some o:=heap_alloc_new w o
theorem j3 (w:World) (o o':Obj):((w.alloc o).alloc o').heap[w.heap.size+1]? =some o':=by simpa using aX (w.alloc o) o'
theorem bD {S:Nat->Prop} {w w':World} {base:Nat} {e:TypeId} {size:Nat} {v:Value} {n:Nat} {xs:List Value} (h:w.ownsRow base e size v n xs) (g:bH S w w') (hs:∀g,v.ownBlock=some g->¬S g):
  w'.ownsRow base e size v n xs:=by
 refine⟨h.1,?_⟩;rcases h.2 with hn|⟨g',cap,cur,rfl,hb,hgg,rest⟩
 ·exact .inl hn
 ·refine .inr ⟨g',cap,cur,rfl,hb,?_,rest⟩;rw[g.block g' (Array.getElem?_eq_some_iff.1 hgg).1 (hs g' rfl)];exact hgg
theorem bF {w:World} {base:Nat} {e:TypeId} {size:Nat} {v:Value} {n:Nat} {xs:List Value} (h:w.ownsRow base e size v n xs):∃ao c,v= .slice ao n c:=by
 rcases h.2 with⟨rfl,rfl⟩|⟨g',cap,cur,rfl,_⟩
 ·exact⟨none,0,rfl⟩
 ·exact⟨_,_,rfl⟩
theorem h_ {w:World} {base:Nat} {e:TypeId} {size:Nat} {ao:Option Addr} {n c:Nat} {xs:List Value} (h:w.ownsRow base e size (.slice ao n c) n xs) (hn:0<n):
  ∃g cur,ao=some ⟨g,0,none⟩/\base<=g/\w.heap[g]? =some (.cells cur e (0,0))/\n<=c/\∀(j:Nat) u,xs[j]? =some u->cur[j]? =some u:=by
 rcases h.2 with⟨hv,rfl⟩|⟨g',cap,cur,hv,hb,hg,hc,hm,hs,ht⟩
 ·omega
 ·simp only[Value.slice.injEq] at hv;obtain⟨rfl, -,rfl⟩:=hv;refine⟨g',cur,rfl,hb,hg,hc,fun j u hj=>?_⟩;rw[<-ht,List.getElem?_take] at hj;split at hj
  ·simpa using hj
  ·cases hj
theorem dm {w:World} {base base':Nat} {e:TypeId} {size:Nat} {v:Value} {n:Nat} {xs:List Value} (h:w.ownsRow base e size v n xs) (hb:base'<=base):w.ownsRow base' e size v n xs:=by
 refine⟨h.1,?_⟩;rcases h.2 with hn|⟨g',cap,cur,rfl,hg,r⟩
 ·exact .inl hn
 ·exact .inr ⟨g',cap,cur,rfl,by omega,r⟩
theorem Bj {P:Program} (w:World) {ops:Array Oper} {rest:List Oper} {o:Oper} {a:Act} {Q:Exit->Act->World->Prop} (hgd:o.guard=none) (s x:Operand) (t:TypeId)
  (ho:o.op= .call {callee:=.builtin .append,args:=#[s,x],argTypes:=#[t,t]})
  (base:Nat) (e:TypeId) (i:TypeInfo) (z:Value) (size bytes:Nat) (ht:P.underlying t=some (.slice e)) (hi:P.info? e=some i) (hz:i.zero=some z)
  (hsize:i.size=size) (hby:i.bytes=bytes) (hzs:z.cells.size=size) (hsz:0<size)
  (v:Value) (n:Nat) (xs:List Value) (hs:a.eval s=v) (hown:w.ownsRow base e size v n xs)
  (ad:Addr) (m c:Nat) (news:List Value) (hx:a.eval x= .slice (some ad) m c) (hl:news.length=m*size) (hnews:∀j u,news[j]? =some u->w.cell? (ad.add j)=some u) (h1:∀u∈news,u.oneCell'=true)
  (h63:n+m<=maxLen) (hbytes:(n+m)*bytes<=140737488355328) (hbase:base<=w.heap.size)
  (h:∀ao cp w',w'.ownsRow base e size (.slice ao (n+m) cp) (n+m) (xs++news)->w.grownBy w' v.ownBlock->wpList P ops Q rest (a.put o.dst (.slice ao (n+m) cp)) w'):wpList P ops Q (o::rest) a w:=by
 refine wpList_append_own w hgd s x t ho base e i z size bytes ht hi hz hsize hby hzs hsz v n xs hs hown ad m c news hx hl hnews h1 h63 hbytes hbase ?_;intro v' w' h1 h2 _;obtain⟨ao,cp,rfl⟩:=bF h1;exact h ao cp w' h1 h2
theorem kK {w:World} {b:Nat} {t:TypeId} {cs:List Value} (h:w.heap[b]? =some (.cells cs.toArray t (0,0))):∀j u,cs[j]? =some u->w.cell? ((⟨b,0,none⟩:Addr).add j)=some u:=by
 intro j u hj;have:(⟨b,0,none⟩:Addr).add j=⟨b,j,none⟩:=by unfold Addr.add;split<;>simp_all
 rw[this];exact af h (by simpa using hj)
def nth (zs:List Int) (k:Nat):Int:=zs.getD k 0
theorem DV (zs:List Int) (k:Nat) (h:k<zs.length):zs.take (k+1)=zs.take k++[nth zs k]:=by
 rw[List.take_succ_eq_append_getElem h];simp[nth,h]
def Ints (w:World) (v:Value) (zs:List Int):Prop:=
 ∃ao cap,v= .slice ao zs.length cap/\zs.length<=cap/\∀i,i<zs.length->∃b off,ao=some ⟨b,off,none⟩/\b<w.heap.size/\w.cell? ⟨b,off+i,none⟩=some (.int .i64 (nth zs i))
theorem Ints.at {w:World} {ao:Option Addr} {zs:List Int} {cap k:Nat} (h:Ints w (.slice ao zs.length cap) zs) (hk:k<zs.length):
  ∃b off,ao=some ⟨b,off,none⟩/\b<w.heap.size/\w.cell? ⟨b,off+k,none⟩=some (.int .i64 (nth zs k)):=by
 obtain⟨QJ,cap',he,_,hcell⟩:=h;simp only[Value.slice.injEq,true_and] at he;obtain⟨rfl, -⟩:=he;exact hcell k hk
structure Ext where
 tail:Array Obj
 n:Nat
instance:Inhabited Ext:=⟨⟨#[],0⟩⟩
def ext (w:World) (t:Ext):World:={w with heap:=w.heap++t.tail,drawn:=t.n}
theorem z8 (w:World) (t:Ext):Below w.heap.size w (ext w t):=
 ⟨rfl,rfl,rfl,by simp[ext],fun k hk=>by simp only[ext];rw[Array.getElem?_append_left hk]⟩
theorem Eo {w w':World} (h:Below w.heap.size w w'):∃t,w'=ext w t:=by
 refine⟨⟨w'.heap.extract w.heap.size w'.heap.size,w'.drawn⟩,?_⟩;cases w with|mk h1 t1 d1 o1 p1=>
 cases w' with|mk h2 t2 d2 o2 p2=>
 obtain⟨e1,e2,e3,e4,e5⟩:=h;simp only at e1 e2 e3 e4 e5;subst e1;subst e2;subst e3;have:h2=h1++h2.extract h1.size h2.size:=by
  apply Array.ext_getElem?;intro i;rcases Nat.lt_or_ge i h1.size with hi|hi
  ·rw[Array.getElem?_append_left hi,e5 i hi]
  ·rw[Array.getElem?_append_right hi];simp only[Array.getElem?_extract];split
   ·congr 1;omega
   ·rw[Array.getElem?_eq_none (by omega)]
 simp only[ext];rw[<-this]
theorem fH {w:World} {a:Addr} {v:Value} (h:w.cell? a=some v) (t:Ext):(ext w t).cell? a=some v:=by
 rw[(z8 w t).cell (dH w a h)];exact h
theorem jb {P:Program} {id:Nat} {Q:Exit->Act->World->Prop} {a:Act} {w:World} {l:List Oper} (hm:P.follows .mixedOrders=true) (hB:Region.lexB .any l.toArray=true)
  (h:wpQuiet P l.toArray (fun w'=>∃t,w'=ext w t) (fun a'=>∀w',Below w.heap.size w w'->Q .normal a' w') l a):(Code.region id l.toArray true).wp P Q a w:=
 wp_region_quiet (C:=fun w'=>∃t,w'=ext w t) hm hB ⟨⟨#[],w.drawn+1⟩,by simp[ext]⟩ (by
  have e:(fun a'=>∀w',(∃t,w'=ext w t)->Q .normal a' w')=(fun a'=>∀w',Below w.heap.size w w'->Q .normal a' w'):=by
   funext a'
   exact propext ⟨fun h w' hw=>h w' (Eo hw),fun h w' ⟨t,e⟩=>by rw[e];exact h _ (z8 w t)⟩
  rw[e];simpa using h)
theorem uF {P:Program} {f:FuncId} {args:Array Value} {w:World} {t:Ext} {v:Value}
  (h:Calls P f args (ext w t) fun e w'=>e= .returned v/\Below (ext w t).heap.size (ext w t) w'):Calls P f args (ext w t) fun e w''=>e= .returned v/\∃t',w''=ext w t':=
 h.mono fun _ _ ⟨he,hb⟩=>⟨he,Eo (gH (z8 w t) hb)⟩
theorem zh {P:Program} {f:FuncId} {args:Array Value} {w:World} {t:Ext} {v:Value}
  (h:Calls P f args (ext w t) fun e w'=>e= .returned v/\w'=ext w t):Calls P f args (ext w t) fun e w''=>e= .returned v/\∃t',w''=ext w t':=
 h.mono fun _ _ ⟨he,hb⟩=>⟨he,t,hb⟩
theorem Yy (x:Int) (j:Nat) (hj:j<=64):((BitVec.ofInt 64 x &&& BitVec.ofNat 64 (2 ^ j - 1)).toNat:Int)=x%2 ^ j:=by
 have h1:2 ^ j - 1<2 ^ 64:=Nat.lt_of_lt_of_le (Nat.sub_lt (Nat.two_pow_pos j) (by decide)) (Nat.pow_le_pow_right (by decide) hj);rw[BitVec.toNat_and,BitVec.toNat_ofNat,Nat.mod_eq_of_lt h1,Nat.and_two_pow_sub_one_eq_mod,BitVec.toNat_ofInt,Int.natCast_emod];rw[Int.toNat_of_nonneg (Int.emod_nonneg _ (by decide))];rw[Int.natCast_pow];have hd:((2:Nat):Int) ^ j ∣ ((2 ^ 64:Nat):Int):=by
  rw[Int.natCast_pow];exact⟨((2:Nat):Int) ^ (64 - j),by rw[<-Int.pow_add];congr 1;omega⟩
 exact Int.emod_emod_of_dvd _ hd
theorem Dq (x:Int) (j:Nat) (hj:j<=32):bits BinOp.and IntKind.i64 x ((2 ^ j - 1:Nat):Int)=x%2 ^ j:=by
 have h:=Yy x j (by omega);have hp:(2:Int) ^ j<=2 ^ 32:=by
  have:=Nat.pow_le_pow_right (n:=2) (by decide) hj
  exact_mod_cast this
 have h0:0<=x%2 ^ j:=Int.emod_nonneg x (b:=2 ^ j) (Int.ne_of_gt (Int.pow_pos (by decide)));have h1:x%2 ^ j<2 ^ j:=Int.emod_lt_of_pos x (b:=2 ^ j) (Int.pow_pos (by decide));unfold bits;show IntKind.i64.wrap ((BitVec.ofInt 64 x &&& BitVec.ofInt 64 ((2 ^ j - 1:Nat):Int)).toNat:Int)=_;rw[BitVec.ofInt_natCast,h,IntKind.wrap_i64];have:(2:Int) ^ 32=4294967296:=by decide
 omega
theorem Uv (x:Int):bits BinOp.and IntKind.i64 x 1=x%2:=Dq x 1 (by decide)
theorem Ut (x:Int):bits BinOp.and IntKind.i64 x 15=x%16:=Dq x 4 (by decide)
def Rd (w:World) (sz:Nat) (v:Value) (n:Nat) (xs:List Value):Prop:=
 xs.length=n*sz/\∃ao cap,v= .slice ao n cap/\n<=cap/\
  (0<n->∃b off,ao=some ⟨b,off,none⟩/\b<w.heap.size/\∀(j:Nat) u,xs[j]? =some u->w.cell? ⟨b,off+j,none⟩=some u)
theorem Rd.shape {w:World} {sz:Nat} {v:Value} {n:Nat} {xs:List Value} (h:Rd w sz v n xs):∃ao cap,v= .slice ao n cap:=by
 obtain⟨_,ao,cap,rfl,_⟩:=h;exact⟨ao,cap,rfl⟩
theorem Rd.nil (w:World) (sz:Nat):Rd w sz (.slice none 0 0) 0 []:=⟨by simp,none,0,rfl,by simp,fun h=>absurd h (by simp)⟩
theorem Rd.keep {w w':World} {sz:Nat} {v:Value} {n:Nat} {xs:List Value} (h:Rd w sz v n xs)
  (hk:∀b,v.ownBlock=some b->b<w.heap.size->w'.heap[b]? =w.heap[b]?):Rd w' sz v n xs:=by
 obtain⟨h1,ao,cap,rfl,h2,h3⟩:=h;refine⟨h1,ao,cap,rfl,h2,fun hn=>?_⟩;obtain⟨b,off,rfl,hb,hc⟩:=h3 hn;have he:=hk b rfl hb;refine⟨b,off,rfl,?_,fun j u hj=>?_⟩
 ·rcases Nat.lt_or_ge b w'.heap.size with h|h
  ·exact h
  ·rw[Array.getElem?_eq_none h,Array.getElem?_eq_getElem hb] at he;cases he
 ·rw[World.cell?_of_block (w:=w) he];exact hc j u hj
theorem Rd.below {w w':World} {sz:Nat} {v:Value} {n:Nat} {xs:List Value} (h:Rd w sz v n xs) (hb:Below w.heap.size w w'):Rd w' sz v n xs:=
 h.keep fun b _ hlt=>hb.block b hlt
theorem Rd.GZ {S:Nat->Prop} {w w':World} {sz:Nat} {v:Value} {n:Nat} {xs:List Value} (h:Rd w sz v n xs) (hb:bH S w w') (hs:∀b,v.ownBlock=some b->¬S b):Rd w' sz v n xs:=
 h.keep fun b hv hlt=>hb.block b hlt (hs b hv)
theorem Rd.alloc {w:World} {sz:Nat} {v:Value} {n:Nat} {xs:List Value} (h:Rd w sz v n xs) (o:Obj):Rd (w.alloc o) sz v n xs:=
 h.below ((aQ _ _).alloc (aR _) o)
theorem Rd.lt {w:World} {sz:Nat} {v:Value} {n:Nat} {xs:List Value} (h:Rd w sz v n xs) (hn:0<n):∃b,v.ownBlock=some b/\b<w.heap.size:=by
 obtain⟨h1,ao,cap,rfl,h2,h3⟩:=h;obtain⟨b,off,rfl,hb,hc⟩:=h3 hn;exact⟨b,rfl,hb⟩
theorem Rd.iV {w:World} {base:Nat} {e:TypeId} {sz:Nat} {v:Value} {n:Nat} {xs:List Value} (h:w.ownsRow base e sz v n xs):Rd w sz v n xs:=by
 rcases h.2 with⟨rfl,rfl⟩|⟨g,cap,cur,rfl,hb,hg,hc,hm,hs,ht⟩
 ·have h1:=h.1;simp only[Nat.zero_mul] at h1;rw[List.length_eq_zero_iff.1 h1];exact Rd.nil w sz
 ·refine⟨h.1,some ⟨g,0,none⟩,cap,rfl,hc,fun _=>⟨g,0,rfl,lt_of_block hg,fun j u hj=>?_⟩⟩;rw[<-ht,List.getElem?_take] at hj;split at hj
  ·rw[Nat.zero_add];exact af hg (by simpa using hj)
  ·cases hj
theorem Ju {w:World} {base:Nat} {e:TypeId} {sz:Nat} {g n:Nat} {xs:List Value} (h:w.heap[g]? =some (.cells xs.toArray e (0,0))) (hb:base<=g) (hm:n<=maxLen) (hl:xs.length=n*sz):
  w.ownsRow base e sz (.slice (some ⟨g,0,none⟩) n n) n xs:=
 ⟨hl,.inr ⟨g,n,xs.toArray,rfl,hb,h,aR _,hm,by simpa using hl,by simp[<-hl]⟩⟩
def fI {α:Type} (enc:α->List Value) (w:World) (sz:Nat) (v:Value) (l:List α):Prop:=Rd w sz v l.length (l.flatMap enc)
theorem jQ {α:Type} {enc:α->List Value} {sz:Nat} (he:∀a,(enc a).length=sz) (l:List α):(l.flatMap enc).length=l.length*sz:=by
 induction l with
 |nil=>simp
 |cons a l ih=>simp only[List.flatMap_cons,List.length_append,he,ih,List.length_cons,Nat.add_mul];omega
theorem pY {α:Type} {enc:α->List Value} {sz:Nat} (he:∀a,(enc a).length=sz) (l:List α):∀{k:Nat} {x:α},l[k]? =some x->∀(j:Nat) u,(enc x)[j]? =some u->(l.flatMap enc)[k*sz+j]? =some u:=by
 induction l with
 |nil=>intro k x h;simp at h
 |cons a l ih=>
  intro k x h j u hj;simp only[List.flatMap_cons];cases k with
  |zero=>
   simp only[List.getElem?_cons_zero,bU] at h;subst h;rw[Nat.zero_mul,Nat.zero_add,List.getElem?_append_left (bE.1 hj).1];exact hj
  |succ k=>
   simp only[List.getElem?_cons_succ] at h;rw[List.getElem?_append_right (by rw[he,Nat.add_mul];omega),he,show(k+1)*sz+j - sz=k*sz+j from by rw[Nat.add_mul];omega];exact ih h j u hj
theorem fI.at {α:Type} {enc:α->List Value} {w:World} {sz:Nat} (he:∀a,(enc a).length=sz) {ao:Option Addr} {n cap:Nat} {l:List α} (h:fI enc w sz (.slice ao n cap) l) {k:Nat} {x:α} (hx:l[k]? =some x):
  ∃b off,ao=some ⟨b,off,none⟩/\b<w.heap.size/\∀(j:Nat) u,(enc x)[j]? =some u->w.cell? ⟨b,off+k*sz+j,none⟩=some u:=by
 obtain⟨h1,QJ,cap',hv,h2,h3⟩:=h;simp only[Value.slice.injEq] at hv;obtain⟨rfl, -, -⟩:=hv;obtain⟨b,off,e,hb,hc⟩:=h3 (by have:=(bE.1 hx).1;omega);exact⟨b,off,e,hb,fun j u hj=>by rw[Nat.add_assoc];exact hc _ u (pY he l hx j u hj)⟩
theorem fI.len {α:Type} {enc:α->List Value} {w:World} {sz:Nat} {ao:Option Addr} {n cap:Nat} {l:List α} (h:fI enc w sz (.slice ao n cap) l):n=l.length:=by
 obtain⟨h1,QJ,cap',hv,h2,h3⟩:=h;simp only[Value.slice.injEq] at hv;exact hv.2.1
theorem mU {α:Type} {enc:α->List Value} (l:List α) (x:α):(l++[x]).flatMap enc=l.flatMap enc++enc x:=by simp
theorem dx {α:Type} {l:List α} {k:Nat} {x:α} (h:l[k]? =some x):l.take (k+1)=l.take k++[x]:=by
 obtain⟨hk,rfl⟩:=bE.1 h;exact List.take_succ_eq_append_getElem hk
theorem bW {α:Type} {l:List α} {k:Nat} (h:k<l.length):∃x,l[k]? =some x:=⟨l[k],by simp[h]⟩
def iI (c:Int×Int):List Value:=[.int .i64 c.1,.int .i64 c.2]
theorem oD:∀a,(iI a).length=2:=fun _=>rfl
theorem NI (z:List Value) (sz:Nat) (hz:z.length=sz) (h0:0<sz) (n:Nat):(madeCells z.toArray (n*sz)).toList=(List.replicate n z).flatten:=by
 have hl:((List.replicate n z).flatten).length=n*sz:=by simp[hz]
 apply List.ext_getElem?;intro i;rcases Nat.lt_or_ge i (n*sz) with hi|hi
 ·have h1:i%sz<sz:=Nat.mod_lt _ h0;have e1:(madeCells z.toArray (n*sz)).toList[i]? =z[i%sz]?:=by
   simp only[madeCells,Array.getElem?_toList,Array.getElem?_map,Array.getElem?_range,hi];simp[hz,h1]
  have e2:=pY (enc:=fun _:Unit=>z) (sz:=sz) (fun _=>hz) (List.replicate n ()) (k:=i/sz) (x:=()) (by
   rw[List.getElem?_replicate,if_pos (Nat.div_lt_of_lt_mul (by rw[Nat.mul_comm];exact hi))]) (i%sz) z[i%sz] (by simp[hz,h1])
  rw[show i/sz*sz+i%sz=i from Nat.div_add_mod' i sz] at e2;rw[e1];have e3:(List.replicate n ()).flatMap (fun _=>z)=(List.replicate n z).flatten:=by simp[List.flatMap]
  rw[<-e3,e2];simp[hz,h1]
 ·rw[List.getElem?_eq_none (by simp[size_madeCells];exact hi),List.getElem?_eq_none (by omega)]
theorem mq {P:Program} (w:World) {ops:Array Oper} {rest:List Oper} {o:Oper} {a:Act} {Q:Exit->Act->World->Prop}
  (hg:o.guard=none) (l c:Operand) (t:TypeId) (hop:o.op=Op.makeSlice t l c)
  (e:TypeId) (i:TypeInfo) (z:Value) (sz:Nat) (zl:List Value) (h1:P.underlying t=some (.slice e)) (h2:P.info? e=some i) (h3:i.zero=some z) (h4:i.size=sz) (hzl:z.cells=zl.toArray) (hsz:zl.length=sz) (h0:0<sz)
  (kl kc:IntKind) (L C:Int) (n m:Nat) (hl:a.eval l= .int kl L) (hc:a.eval c= .int kc C) (hL:L=(n:Int)) (hC:C=(m:Int)) (hnm:n<=m) (b2:i.bytes*m<=281474976710656) (b3:m<=maxLen)
  (hK:∀w',w'.heap[w.heap.size]? =some (.cells ((List.replicate m zl).flatten).toArray e (0,0))->w'.heap.size=w.heap.size+1->Below w.heap.size w w'->wpList P ops Q rest (a.put o.dst (.slice (some ⟨w.heap.size,0,none⟩) n m)) w'):
  wpList P ops Q (o::rest) a w:=by
 refine wpList_plain hg fun K hK'=>?_
 subst hL;subst hC;unfold maxLen at b3;have hrun:=run_make (P:=P) w t e i z h1 h2 h3 kl kc n m (by omega) (by omega) (by have h:((i.bytes*m:Nat):Int)<=281474976710656:=Int.ofNat_le.2 b2;rwa [Int.natCast_mul] at h) (by omega);unfold Oper.wp;simp[execOp,hop,hl,hc,hrun,Result.andThen];refine hK' _ _ (hK _ ?_ (World.size_alloc _ _) ((aQ _ _).alloc (aR _) _));have e1:=NI zl sz hsz h0 m;rw[aX,hzl,h4,<-e1]
theorem D9 {P:Program} {w:World} {ops:Array Oper} {rest:List Oper} {o:Oper} {a:Act} {Q:Exit->Act->World->Prop} (hgd:o.guard=none) (d s:Operand) (dT sT:TypeId)
  (ho:o.op= .call {callee:=.builtin .copy,args:=#[d,s],argTypes:=#[dT,sT]}) (elem:TypeId) (sz:Nat) (hu:P.underlying dT=some (.slice elem)) (hsz:(P.info? elem).map (·.size)=some sz)
  (g n dCap:Nat) (sv:Value) (cs:List Value) (hd:a.eval d= .slice (some ⟨g,0,none⟩) n dCap) (hs:a.eval s=sv) (hrd:Rd w sz sv n cs)
  (cur:List Value) (t:TypeId) (hg:w.heap[g]? =some (.cells cur.toArray t (0,0))) (hfit:cs.length<=cur.length) (h1:∀v∈cs,v.oneCell'=true)
  (h:∀w',w'.heap[g]? =some (.cells (cs++cur.drop (n*sz)).toArray t (0,0))->w'.heap.size=w.heap.size->bH (fun k=>k=g) w w'->wpList P ops Q rest (a.put o.dst (goInt n)) w'):
  wpList P ops Q (o::rest) a w:=by
 refine wpList_plain hgd fun K hK=>?_
 obtain⟨hl,ao,cap,rfl,hc,hat⟩:=hrd;cases hq:P.info? elem with
 |none=>simp[hq] at hsz
 |some i=>
  have hi:i.size=sz:=by simpa [hq] using hsz
  have hst:=run_storeCells_at P g 0 t cs 0 cur.toArray w hg (by simpa using hfit) h1;simp only[Nat.add_zero,Nat.zero_add,hl] at hst;have hf:(Builtin.firstCells sz n (.slice ao n cap)).run P w= .ok cs.toArray w:=by
   by_cases hn:0<n
   ·obtain⟨b,off,rfl,hb,hcell⟩:=hat hn;exact run_firstCells_some w sz n ⟨b,off,none⟩ n cap cs hl (fun j v hj=>by
     have:(⟨b,off,none⟩:Addr).add j=⟨b,off+j,none⟩:=by unfold Addr.add;split<;>simp_all
     rw[this];exact hcell j v hj)
   ·obtain rfl:n=0:=by omega
    obtain rfl:cs=[]:=List.eq_nil_of_length_eq_zero (by simpa using hl);cases ao with
    |none=>exact run_firstCells_none w sz 0 0 cap
    |some ad=>exact run_firstCells_some w sz 0 ad 0 cap [] (by simp) (fun j v hj=>by simp at hj)
  have hrun:(Builtin.copy_ #[dT,sT] o.type #[.slice (some ⟨g,0,none⟩) n dCap,.slice ao n cap]).run P w= .ok (goInt n) (w.setRow g (cs++cur.drop (n*sz)).toArray):=by
   simp[Builtin.copy_,run_underlying hu,Builtin.lenOf,sizeOf,typeInfo,hq,hi,hf,hst]
  unfold Oper.wp;simp[execOp,ho,resolve,invoke,builtin,hd,hs,hrun,Result.andThen];exact hK _ _ (h _ (setRow_heap w g _ _ t _ hg) (by simp[World.setRow]) ⟨rfl,rfl,rfl,by simp[World.setRow],fun k hk hn=>setRow_other w g k _ (fun e=>hn e)⟩)
theorem yf {w w':World} {row:Option Nat} (h:w.grownBy w' none):w.grownBy w' row:=⟨h.os,h.tape,h.output,h.size,fun k hk _=>h.block k hk (by simp)⟩
theorem fe {P:Program} (w:World) {ops:Array Oper} {rest:List Oper} {o:Oper} {a:Act} {Q:Exit->Act->World->Prop} (hgd:o.guard=none) (s x:Operand) (t:TypeId)
  (ho:o.op= .call {callee:=.builtin .append,args:=#[s,x],argTypes:=#[t,t]})
  (base:Nat) (e:TypeId) (i:TypeInfo) (z:Value) (size bytes:Nat) (ht:P.underlying t=some (.slice e)) (hi:P.info? e=some i) (hz:i.zero=some z)
  (hsize:i.size=size) (hby:i.bytes=bytes) (hzs:z.cells.size=size) (hsz:0<size)
  (v:Value) (n:Nat) (xs:List Value) (hs:a.eval s=v) (hown:w.ownsRow base e size v n xs)
  (ad:Addr) (m c:Nat) (news:List Value) (hx:a.eval x= .slice (some ad) m c) (hl:news.length=m*size) (hnews:∀j u,news[j]? =some u->w.cell? (ad.add j)=some u) (h1:∀u∈news,u.oneCell'=true)
  (h63:n+m<=maxLen) (hbytes:(n+m)*bytes<=140737488355328) (hbase:base<=w.heap.size)
  (h:∀ao cp w',w'.ownsRow base e size (.slice ao (n+m) cp) (n+m) (xs++news)->(∀g,(Value.slice ao (n+m) cp).ownBlock=some g->v.ownBlock=some g\/w.heap.size<=g)->w.grownBy w' v.ownBlock->
   wpList P ops Q rest (a.put o.dst (.slice ao (n+m) cp)) w'):wpList P ops Q (o::rest) a w:=by
 have grows:∀(v':Value) (w':World),w'.ownsRow w.heap.size e size v' (n+m) (xs++news)->w.grownBy w' none->wpList P ops Q rest (a.put o.dst v') w':=by
  intro v' w' h1 h2;obtain⟨ao,cp,rfl⟩:=bF h1;exact h ao cp w' (dm h1 hbase) (fun g hg=>.inr (h1.lt g hg).1) (yf h2)
 rcases hown.2 with⟨rfl,rfl⟩|⟨g,cap,cur,rfl,hbg,hg,hnc,hcm,hcs,htake⟩
 ·have hx0:xs=[]:=List.eq_nil_of_length_eq_zero (by simpa using hown.1);by_cases hm:m=0
  ·refine wpList_append_own w hgd s x t ho base e i z size bytes ht hi hz hsize hby hzs hsz _ _ _ hs hown ad m c news hx hl hnews h1 h63 hbytes hbase ?_;intro v' w' h1 h2 h3;obtain⟨ao,cp,rfl⟩:=bF h1;refine h ao cp w' h1 (fun g hg=>?_) h2;have:=h3.2 ⟨rfl,hm⟩;simp only[Value.slice.injEq] at this;rw[this.1] at hg;cases hg
  ·refine wpList_append_grows w hgd s x t ho e i z size bytes ht hi hz hsize hby hzs hsz none 0 0 xs hs (fun _=>⟨rfl,rfl⟩) (by rw[hx0];simp) (fun b hb=>by cases hb) ad m c news hx hl hnews h1 (by omega) h63 hbytes grows
 ·by_cases hroom:n+m<=cap
  ·refine wpList_append_fits w hgd s x t ho base e i size ht hi hsize g n cap xs hs hown ad m c news hx hl hnews h1 hroom ?_;intro w' h1 h2;exact h _ _ w' h1 (fun g' hg'=>.inl hg') h2
  ·exact wpList_append_grows w hgd s x t ho e i z size bytes ht hi hz hsize hby hzs hsz (some ⟨g,0,none⟩) n cap xs hs (fun hn=>by cases hn) hown.1 (fun b hb=>by cases hb;exact hown.cells (g:=g) rfl) ad m c news hx hl hnews h1 (by omega) h63 hbytes grows
end Go.Proofs.YtopdcjimpdalpaaGreat

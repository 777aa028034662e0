import Derived.Test.YtopdcjimpdalpaaGreatP46
import Derived.Deep.CutRange
import Derived.Deep.RegionWith
import Derived.StillTailTactics
namespace Go.Proofs.YtopdcjimpdalpaaGreat
open Go.RowKit
set_option linter.all false
set_option maxHeartbeats 8000000
set_option maxRecDepth 100000
section
variable {w w':World}
theorem Nc {b:Nat} {t:TypeId} {y z:Int} (hb:w.heap[b]? =some (.cells #[.int .i64 y,.int .i64 z] t (0,0))) (hy:0<=y/\y<=9223372036854775807) (hz:0<=z/\z<=9223372036854775807):
  Calls Tryz.prog 8 #[.slice (some ⟨b,0,none⟩) 2 2] w fun e w'=>∃r,e= .returned (.bool r)/\(r=false->y<=262144/\z<=262144)/\Below w.heap.size w w':=by
 have x0:w.cell? ⟨b,0,none⟩=some (.int .i64 y):=af hb rfl;have x1:w.cell? ⟨b,1,none⟩=some (.int .i64 z):=af hb rfl;obtain⟨hy0,hy1⟩:=hy;obtain⟨hz0,hz1⟩:=hz;clear hb;by_cases h1:y>262144
 ·have hn0:¬y<0:=by omega
  go_in;go_wp2_with fail;go_loopw [4,3] (fun i acc wr=>wr=w/\i= .int .i64 0/\acc= .int .i64 0) (fun i _ _=>(2 - intOf i).toNat)
  case atStart=>exact⟨rfl,rfl,rfl⟩
  case round=>
   obtain⟨rfl,rfl,rfl⟩:=hrel;go_wp2;go_ret;exact⟨true,rfl,by simp,au _ _⟩
 ·have hn0:¬y<0:=by omega
  by_cases h2:z>262144
  ·have hn1:¬z<0:=by omega
   go_in;go_wp2_with fail;go_loopw [4,3] (fun i acc wr=>wr=w/\(i= .int .i64 0/\acc= .int .i64 0\/i= .int .i64 1/\acc= .int .i64 y)) (fun i _ _=>(2 - intOf i).toNat)
   case atStart=>exact⟨rfl,.inl ⟨rfl,rfl⟩⟩
   case round=>
    obtain⟨rfl,⟨rfl,rfl⟩|⟨rfl,rfl⟩⟩:=hrel
    ·go_wp2;exact⟨⟨trivial,.inr ⟨rfl,rfl⟩⟩,by simp[intOf]⟩
    ·go_wp2;go_ret;exact⟨true,rfl,by simp,au _ _⟩
  ·have hn1:¬z<0:=by omega
   by_cases h3:y+z>262144
   ·go_in;go_wp2_with fail;go_loopw [4,3] (fun i acc wr=>wr=w/\(i= .int .i64 0/\acc= .int .i64 0\/i= .int .i64 1/\acc= .int .i64 y)) (fun i _ _=>(2 - intOf i).toNat)
    case atStart=>exact⟨rfl,.inl ⟨rfl,rfl⟩⟩
    case round=>
     obtain⟨rfl,⟨rfl,rfl⟩|⟨rfl,rfl⟩⟩:=hrel
     ·go_wp2;exact⟨⟨trivial,.inr ⟨rfl,rfl⟩⟩,by simp[intOf]⟩
     ·go_wp2;go_ret;exact⟨true,rfl,by simp,au _ _⟩
   ·go_in;go_wp2_with fail;go_loopw [4,3] (fun i acc wr=>wr=w/\(i= .int .i64 0/\acc= .int .i64 0\/i= .int .i64 1/\acc= .int .i64 y\/i= .int .i64 2/\acc= .int .i64 (y+z))) (fun i _ _=>(2 - intOf i).toNat)
    case atStart=>exact⟨rfl,.inl ⟨rfl,rfl⟩⟩
    case round=>
     obtain⟨rfl,⟨rfl,rfl⟩|⟨rfl,rfl⟩|⟨rfl,rfl⟩⟩:=hrel
     ·go_wp2;exact⟨⟨trivial,.inr (.inl ⟨rfl,rfl⟩)⟩,by simp[intOf]⟩
     ·go_wp2;exact⟨⟨trivial,.inr (.inr ⟨rfl,rfl⟩)⟩,by simp[intOf]⟩
     ·go_wp2;go_ret;exact⟨false,rfl,fun _=>⟨by omega,by omega⟩,au _ _⟩
theorem aa9 (zs:List Int):∀{s:Int×Bool},(∀n∈zs,0<=n)->qX s.1->qX (fin zs s).1:=by
 induction zs with
 |nil=>intro s _ h;exact h
 |cons n l ih=>
  intro s hz hs;exact ih (fun x hx=>hz x (List.mem_cons_of_mem _ hx)) (jA (by decide) (jA (by decide) (jA (by decide) (jA (hz n List.mem_cons_self) hs))))
theorem iF.size {words size:Int} {ps:List g_} (h:iF words size ps):1<=size/\size<=262144:=by
 have hw:=qg h.2.1;have e:mkS words (dZ ps)=(fin (dZ ps) (s0 words)).1:=if_pos h.2.1;rw[h.2.2.1] at e;rw[e];exact aa9 _ (fun n hn=>by
  obtain⟨p,hp,rfl⟩:=List.mem_map.1 hn;have:=h.1 p hp;omega) (jA (by decide) (jA hw.1 ⟨by decide,by decide⟩))
def GoodS (words size:Int) (ps:List g_) (thread:Int) (rs:List (Value×List Tx)):Prop:=(iF words size ps/\0<=thread/\thread<ps.length)/\jJ words rs=true
def acp (words size:Int) (ps:List g_) (thread:Int) (rs:List (Value×List Tx)) (lo:Option Addr) (ln lc:Nat) (en:Int) (w':World):Prop:=
 (en=1/\ln=0/\¬GoodS words size ps thread rs)\/
 (en=3/\ln=0/\GoodS words size ps thread rs/\¬((∀p∈rs,p.2.length<=8)/\rs.length<=16))\/
 (en=0/\GoodS words size ps thread rs/\∃l,l.length=ln/\dH b_ w' 6 (.slice lo ln lc) l/\bF l/\l.length<=262144)
theorem acp.of {words size:Int} {ps:List g_} {thread:Int} {rs:List (Value×List Tx)} {e:Ending} (h:zR words size ps thread rs w e w') (hwf:∀p∈rs,∀o∈p.2,Ab o):
  ∃lo ln lc en,e= .returned (.tuple #[.slice lo ln lc,.int .i64 en])/\acp words size ps thread rs lo ln lc en w'/\Below w.heap.size w w':=by
 obtain⟨hb,hr⟩:=h;rcases hr with⟨rfl,hn⟩|⟨k,p,rfl,hx,hpl,hok,⟨rfl,j,hj,hov⟩|⟨g,rfl,hblk,hg,hov,hlen⟩⟩
 ·exact⟨none,0,0,1,rfl,.inl ⟨rfl,rfl,fun q=>hn ⟨q.1.1,q.1.2.1,q.1.2.2,q.2⟩⟩,hb⟩
 ·have hk:=(bu.1 hx).1;refine⟨none,0,0,3,rfl,.inr (.inl ⟨rfl,rfl,⟨⟨hpl,by omega,by omega⟩,hok⟩,fun hf=>?_⟩),hb⟩;have h1:=Jn (rs:=rs.map Prod.snd) (fun l hl=>by
   obtain⟨q,hq,rfl⟩:=List.mem_map.1 hl;exact hf.1 q hq)
  rw[List.length_map] at h1;have h2:=vY (t:=oK words size p k) (rs:=rs.map Prod.snd) (by unfold iO;have:=hf.2;omega) j;rw[<-List.map_take] at h2;rcases hov with hov|hov
  ·rw[h2.1] at hov;cases hov
  ·rw[h2.2] at hov;cases hov
 ·have hk:=(bu.1 hx).1;have hroom:=FK hov;obtain⟨-,hd,hl⟩:=Aw (t:=oK words size p k) hroom;rw[hd] at hblk;rw[hl] at hlen⊢;rw[<-Gt (oK words size p k)] at hlen⊢;exact⟨_,_,_,0,rfl,.inr (.inr ⟨rfl,⟨⟨hpl,by omega,by omega⟩,hok⟩,_,rfl,wz dX hblk,IX (hpl.ok hx) hroom (fun l hl=>by
   obtain⟨q,hq,rfl⟩:=List.mem_map.1 hl;exact hwf q hq),hlen⟩),hb⟩
end
section
variable {w w':World}
theorem MZ {ta:Option Addr} {tc:Nat} {ts:xJ} (h:yu w (.slice ta ts.length tc) ts) (words:Int) {sa:Option Addr} {yG:Nat} {sc:List dB} (hs:dH fU w 3 (.slice sa sc.length yG) sc) (hsl:sc.length<=9223372036854775807) (hsn:∀p∈sc,0<=p.kind/\(-9223372036854775808<=p.n/\p.n<=9223372036854775807)):
  Calls Tryz.prog 4 #[.int .i64 words,.slice ta ts.length tc,.slice sa sc.length yG] w fun e w'=>e= .returned (.bool true)/\Below w.heap.size w w':=by
 have H:=ag h;have HS:=ag hs;have HSL:=ag hsl;have EU:=ag hsn;clear h hs hsl hsn;go_in;go_wp2_with fail;refine(U7 H.out).mono ?_;rintro e w1 ⟨z,rfl,hz0,hz1,hz2,hb1⟩;have HB1:=ag hb1;have HZ:=ag (And.intro hz0 hz1);have HZ2:=ag (show z<=262144->∀p∈ts,dP p.2<=262144 from fun h=>by simpa using hz2 h);clear hz0 hz1 hz2 hb1;go_wp2_with fail;refine(Nc (y:=z) (z:=(sc.length:Int)) (aj w1 _) HZ.out ⟨by omega,by have:=HSL.out;omega⟩).mono ?_;rintro e w2 ⟨r,rfl,hr,hb2⟩;have HB2:=ag (fe HB1.out (fe ((au _ _).alloc (aB _) _) hb2));clear hb2;cases r with
 |true=>
  clear hr;go_wp2_with fail;go_ret;exact⟨rfl,HB2.out⟩
 |false=>
  have HR:=ag (hr rfl);clear hr;go_wp2_with fail;refine(Hq (H.out.below HB2.out) (HZ2.out HR.out.1) words (Rd.below HS.out HB2.out) (by have:=HR.out.2;omega) EU.out).mono ?_;rintro e w3 ⟨hb3,h3⟩;have HB3:=ag (fe HB2.out hb3);clear hb3;rcases h3 with rfl|⟨hok,ea,en,ls,eo,ec,st,ao,ac,ps,s,rfl,hse,hms,hrun,hps,xX⟩
  ·go_wp2_with fail;refine(OV _).mono ?_;rintro e w4 ⟨rfl,hb4⟩;have sN:=ag (fe HB3.out (fe ((au _ _).alloc (aB _) _) hb4));clear hb4;go_wp2_with fail;go_ret;exact⟨rfl,sN.out⟩
  ·have HG:=ag (hok.got hrun hps);have HA:=ag xX;obtain⟨ne,hne⟩:∃n,n=(vF words ts sc).1.evs.length:=⟨_,rfl⟩;rw[<-hne];clear hne hse hms hrun hps xX;have Ho:=ag ((au w3.heap.size w3).alloc (aB _) (.cells #[.slice ea ls.length en,.slice eo ne ec,.int .i64 st] 66));have sN:=ag (fe HB3.out Ho.out);have HA4:=ag (HA.out.below Ho.out);go_wp2_with fail;generalize w3.alloc (.cells #[.slice ea ls.length en,.slice eo ne ec,.int .i64 st] 66)=w4 at sN HA4⊢;clear Ho HA;refine(KX HA4.out HG.out.fine HG.out.inc HG.out.len HG.out.sum HG.out.ser).mono ?_;rintro e w5 ⟨rfl,hb5⟩;have pO:=ag (fe sN.out hb5);have HA5:=ag (HA4.out.below hb5);clear hb5;go_wp2_with fail;refine(JQ HA5.out HG.out.fine HG.out.inc HG.out.len HG.out.sum HG.out.snap).mono ?_;rintro e w6 ⟨rfl,hb6⟩;have x8:=ag (fe pO.out hb6);clear hb6;go_wp2_with fail;refine(OV _).mono ?_;rintro e w7 ⟨rfl,CU⟩;have pQ:=ag (fe x8.out CU);clear CU;go_wp2_with fail;go_ret;exact⟨rfl,pQ.out⟩
end
end Go.Proofs.YtopdcjimpdalpaaGreat

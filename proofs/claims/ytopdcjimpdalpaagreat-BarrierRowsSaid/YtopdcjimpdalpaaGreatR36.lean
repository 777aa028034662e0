import Derived.Test.YtopdcjimpdalpaaGreatR35
import Derived.ArgAppend
namespace Go.Proofs.YtopdcjimpdalpaaGreat
open Go.RowKit
set_option linter.all false
set_option maxHeartbeats 2000000
set_option maxRecDepth 100000
section
variable {w w':World}
theorem Ms (w:World):Calls Tryz.prog 30 #[] w fun e w'=>e= .returned (.slice (some ⟨w.heap.size,0,none⟩) 2 2)/\w'.heap[w.heap.size]? =some (.cells (CB.flatMap sW).toArray 96 (0,0))/\Below w.heap.size w w':=by
 go_in;go_wp2_with fail;go_ret;exact⟨rfl,aj w _,(au _ _).alloc (aB _) _⟩
theorem z8 {α:Type} {enc:α->List Value} {sz:Nat} {v:Value} {l:List α} (h:dH enc w sz v l):∃ao c,v= .slice ao l.length c:=by
 obtain⟨h1,ao,cap,e,_⟩:=h;exact⟨ao,cap,e⟩
theorem aem {e:Ending} {o o':List Int} {k k':Int} (h:KD [(o,k),(o',k')] w e w'):
  ∃ga a0 c0 a1 c1,e= .returned (.slice (some ⟨ga,0,none⟩) 2 2)/\w'.cell? ⟨ga,0,none⟩=some (.slice a0 o.length c0)/\w'.cell? ⟨ga,1,none⟩=some (.int .u8 k)/\w'.cell? ⟨ga,2,none⟩=some (.slice a1 o'.length c1)/\w'.cell? ⟨ga,3,none⟩=some (.int .u8 k')/\
   dH encI w' 1 (.slice a0 o.length c0) o/\dH encI w' 1 (.slice a1 o'.length c1) o'/\ga<w'.heap.size/\Below w.heap.size w w':=by
 obtain⟨ga,ls,rfl,hr,hs,hm,hb⟩:=h;obtain⟨s,s',rfl⟩:∃s s',ls=[s,s']:=by
  match ls,hm with
  |[s,s'],_=>exact⟨s,s',rfl⟩
 obtain⟨v,so,sf⟩:=s;obtain⟨v',so',sf'⟩:=s';simp only[List.map_cons,List.map_nil,List.cons.injEq,Prod.mk.injEq,and_true] at hm;obtain⟨⟨rfl,rfl⟩,rfl,rfl⟩:=hm;have h0:=hs _ List.mem_cons_self;have h1:=hs ⟨v',so',sf'⟩ (by simp);simp only at h0 h1;obtain⟨a0,c0,rfl⟩:=z8 h0;obtain⟨a1,c1,rfl⟩:=z8 h1;obtain⟨gb,co,e1,hgb,hcc⟩:=dH.at zm hr (k:=0) rfl;obtain⟨gb',co',e1',hgb',aaO⟩:=dH.at zm hr (k:=1) rfl;cases e1;cases e1';exact⟨ga,a0,c0,a1,c1,rfl,by have:=hcc 0 _ rfl;simpa using this,by have:=hcc 1 _ rfl;simpa using this,by have:=aaO 0 _ rfl;simpa using this,by have:=aaO 1 _ rfl;simpa using this,h0,h1,hgb,hb⟩
theorem Z5:∀o∈CB,Ab o:=by intro o ho;simp[CB] at ho;rcases ho with rfl|rfl<;>exact⟨⟨by decide,by decide⟩,by decide,by decide⟩
theorem aaf:CB.all (qP 1)=true:=by decide
def Xl (g:Nat):Value×List Tx:=(.slice (some ⟨g,0,none⟩) 2 2,CB)
theorem NL {r:Nat} {l:List (Value×List Tx)} {T:TypeId} (hr:w.heap[r]? =some (.cells (l.flatMap encR).toArray T (0,0))) (he:∀p∈l,dH sW w 4 p.1 p.2):ry w (.slice (some ⟨r,0,none⟩) l.length l.length) l:=⟨kT (fun _=>rfl) hr,he⟩
theorem PG {t:Nat} {ts:xJ} {T:TypeId} (ht:w.heap[t]? =some (.cells (ts.flatMap Fy).toArray T (0,0))) (he:∀p∈ts,ry w p.1 p.2) (hn:∀p∈ts,dP p.2<=262144):Bv w (.slice (some ⟨t,0,none⟩) ts.length ts.length) ts:=⟨kT (fun _=>rfl) ht,he,hn⟩
theorem Yt {ts:xJ} (h:∀t∈ts,∀p∈t.2,p.2=CB):(∀t∈ts,jJ 1 t.2=true)/\(∀t∈ts,∀l∈rowsOf t,∀o∈l,Ab o):=by
 refine⟨fun t ht=>?_,fun t ht l hl=>?_⟩
 ·unfold jJ;rw[List.all_eq_true];intro p hp;rw[h t ht p hp];exact aaf
 ·obtain⟨p,hp,rfl⟩:=List.mem_map.1 hl;rw[h t ht p hp];exact Z5
theorem UU (ts:xJ):vH ts=((ts.map rowsOf).map iO).sum:=by unfold vH;rw[List.map_map];rfl
theorem Qa (w:World) (a b c:Obj):(((w.alloc a).alloc b).alloc c).heap[w.heap.size]? =some a/\(((w.alloc a).alloc b).alloc c).heap[w.heap.size+1]? =some b/\(((w.alloc a).alloc b).alloc c).heap[w.heap.size+1+1]? =some c/\
  Below w.heap.size w (((w.alloc a).alloc b).alloc c):=by
 refine⟨aZ (aZ (aj w a)),aZ (iT w a b),?_,(((au w.heap.size w).alloc (aB _) _).alloc (by simp) _).alloc (by simp;omega) _⟩;have:=iT (w.alloc a) b c;rw[World.size_alloc] at this;exact this
def zG (r g:Nat):xJ:=[(.slice (some ⟨r,0,none⟩) 1 1,[Xl g]),(.slice (some ⟨r,0,none⟩) 1 1,[Xl g])]
theorem OV (w:World):Calls Tryz.prog 13 #[] w fun e w'=>e= .returned (.bool true)/\Below w.heap.size w w':=by
 go_in;go_wp2_with fail;refine(Ms w).mono ?_;rintro e w1 ⟨rfl,hc1,hb1⟩;have Ls:=ag hc1;have HB1:=ag hb1;clear hc1 hb1;obtain⟨g,hg⟩:∃g,g=w.heap.size:=⟨_,rfl⟩;rw[<-hg] at Ls⊢;clear hg;go_wp2_with fail;obtain⟨hR,hT,hO,hB⟩:=Qa w1 (.cells #[.slice (some ⟨g,0,none⟩) 2 2] 79) (.cells #[.slice (some ⟨w1.heap.size,0,none⟩) 1 1,.slice (some ⟨w1.heap.size,0,none⟩) 1 1] 62) (.cells #[.int .i64 1,.int .i64 0] 3);obtain⟨w4,hw4⟩:∃x,x=(((w1.alloc (.cells #[.slice (some ⟨g,0,none⟩) 2 2] 79)).alloc (.cells #[.slice (some ⟨w1.heap.size,0,none⟩) 1 1,.slice (some ⟨w1.heap.size,0,none⟩) 1 1] 62)).alloc (.cells #[.int .i64 1,.int .i64 0] 3)):=⟨_,rfl⟩;rw[<-hw4] at hR hT hO hB⊢;have hG:=blk hB Ls.out;have hrow:ry w4 (.slice (some ⟨w1.heap.size,0,none⟩) 1 1) [Xl g]:=NL (l:=[Xl g]) hR (fun p hp=>by
  rw[List.mem_singleton.1 hp];exact kT uO hG)
 have acR:Bv w4 (.slice (some ⟨w1.heap.size+1,0,none⟩) 2 2) (zG w1.heap.size g):=
  PG (ts:=(zG w1.heap.size g)) hT (fun p hp=>by
   rcases List.mem_cons.1 hp with rfl|hp
   ·exact hrow
   ·rw[List.mem_singleton.1 hp];exact hrow) (fun p hp=>by
   rcases List.mem_cons.1 hp with rfl|hp
   ·show 3<=262144;decide
   ·rw[List.mem_singleton.1 hp];show 3<=262144;decide)
 have aap:=Yt (ts:=(zG w1.heap.size g)) (fun t ht p hp=>by
  rcases List.mem_cons.1 ht with rfl|ht
  ·rw[List.mem_singleton.1 hp];rfl
  ·rw[List.mem_singleton.1 ht] at hp;rw[List.mem_singleton.1 hp];rfl)
 have hrs:List.map rowsOf (zG w1.heap.size g)=[[CB],[CB]]:=rfl;have qI:dH encI w4 1 (.slice (some ⟨w1.heap.size+1+1,0,none⟩) ([1,0]:List Int).length ([1,0]:List Int).length) [1,0]:=kT (l:=[1,0]) ko hO;have sN:=ag (HB1.out.trans (hB.mono HB1.out.size));refine(Wv (out:=[([1],1),([0],1)]) (ts:=zG w1.heap.size g) acR (by decide) (by decide) (show 2<=4 by decide) (by rw[UU,hrs];decide) aap.1 aap.2 qI (by decide) (by rw[Tg,hrs];exact Z9)).mono ?_;intro e w2 hpost;obtain⟨ga,a0,c0,a1,c1,rfl,i0,i1,i2,i3,hd0,hd1,hga,hb2⟩:=aem hpost;have HB2:=ag (sN.out.trans (hb2.mono sN.out.size));have HD0:=ag hd0;have HD1:=ag hd1;have I2:=ag i2;clear hpost hR hT hO hB hw4 hG hrow acR aap hrs qI hb2 hd0 hd1;have i0a:=fun o=>nS i0 o
 have i1a:=fun o=>nS i1 o
 go_wp2_with fail;have hbt:Below w2.heap.size w2 (w2.alloc (.cells #[.int .i64 1] 2)):=(au _ _).alloc (aB _) _;have K6:dH encI (w2.alloc (.cells #[.int .i64 1] 2)) 1 (.slice (some ⟨w2.heap.size,0,none⟩) [(1:Int)].length [(1:Int)].length) [1]:=kT (l:=[1]) (T:=2) ko (aj w2 _);refine(wB (l:=[1]) (Rd.below HD0.out hbt) K6 (by simp)).mono ?_;rintro e w3 ⟨rfl,hb3⟩;have Yj:=fe hbt hb3;have HB3:=ag (HB2.out.trans (Yj.mono HB2.out.size));have HD3:=ag (Rd.below HD1.out Yj);have i2:w3.cell? ⟨ga,2,none⟩=some (.slice a1 1 c1):=(Yj.cell hga).trans I2.out;have i2a:=fun o=>nS i2 o
 clear Yj hb3 K6 hbt i0 i1 i3 i0a i1a;go_wp2_with fail;have hbt:Below w3.heap.size w3 (w3.alloc (.cells #[.int .i64 0] 2)):=(au _ _).alloc (aB _) _;have K6:dH encI (w3.alloc (.cells #[.int .i64 0] 2)) 1 (.slice (some ⟨w3.heap.size,0,none⟩) [(0:Int)].length [(0:Int)].length) [0]:=kT (l:=[0]) (T:=2) ko (aj w3 _);refine(wB (l:=[0]) (Rd.below HD3.out hbt) K6 (by simp)).mono ?_;rintro e w5 ⟨rfl,hb5⟩;have pO:=ag (HB3.out.trans ((fe hbt hb5).mono HB3.out.size));clear hbt hb5 K6 i2 i2a;go_wp2_with fail;go_ret;exact⟨rfl,pO.out⟩
end
section
variable {w w':World}
theorem BH (w:World) (z:Int) (h: -9223372036854775808<=z/\z<=262144):Calls Tryz.prog 50 #[.int .i64 z] w fun e w'=>e= .returned (.int .i64 (if z<0 then 262145 else 262144 - z))/\Below w.heap.size w w':=by
 obtain⟨h1,h2⟩:=h;by_cases hz:z<0
 ·rw[if_pos hz];go_in;go_wp2_with fail;go_ret;exact⟨rfl,au _ _⟩
 ·rw[if_neg hz];go_in;go_wp2_with fail;go_ret;exact⟨rfl,au _ _⟩
theorem Oe {ra:Option Addr} {rc:Nat} {rs:List (Value×List Tx)} (h:ry w (.slice ra rs.length rc) rs) (hl:rs.length<=9223372036854775807) (he:∀p∈rs,p.2.length<=9223372036854775807):
  Calls Tryz.prog 26 #[.slice ra rs.length rc] w fun e w'=>∃z:Int,e= .returned (.int .i64 z)/\0<=z/\z<=262145/\(z<=262144->(dP rs:Int)=z)/\Below w.heap.size w w':=by
 have H:=ag h;have HE:=ag he;have HL:=ag hl;clear h he;go_in;go_wp2_with fail;go_loopw [4,3] (fun i z wr=>∃(j:Nat) (y:Int),j<=rs.length/\i= .int .i64 (j:Int)/\z= .int .i64 y/\y=262144 - (dP (rs.take j):Int)/\ -9223372036854775808<=y/\wr=w) (fun i _ _=>rs.length - (intOf i).toNat)
 case atStart=>exact⟨0,262144,Nat.zero_le _,rfl,rfl,by simp[dP],by decide,rfl⟩
 case round=>
  obtain⟨j,y,hj,rfl,rfl,hy,hyl,rfl⟩:=hrel;have hll:=HL.out;have HY:=ag hy;have hyu:y<=262144:=by omega
  clear hy;by_cases hlt:j<rs.length
  ·by_cases hy0:y<0
   ·have q1:¬(y>=0):=by omega
    go_wp2_with fail;refine(BH _ y ⟨hyl,hyu⟩).mono ?_;rintro e w1 ⟨rfl,hb⟩;rw[if_pos hy0];have HB:=ag hb;clear hb;go_wp2_with fail;go_ret;exact⟨262145,rfl,by decide,by decide,fun h=>absurd h (by decide),HB.out⟩
   ·have q1:y>=0:=by omega
    obtain⟨p,hx⟩:=bE hlt;obtain⟨g,off,rfl,hg,hc⟩:=dH.at (enc:=encR) (fun _=>rfl) H.out.rows hx;obtain⟨pa,pc,hpv⟩:=z8 (H.out.each p (bC hx));have d0:wr.cell? ⟨g,off+j,none⟩=some (.slice pa p.2.length pc):=by have:=hc 0 _ rfl;rw[<-hpv];simpa [encR] using this
    have hpl:=HE.out p (bC hx);have HT:=ag (uV hx);clear hx hc hpv;go_wp2_with fail;exact⟨⟨j+1,y - 1 - (p.2.length:Int),by omega,by go_num,rfl,by rw[HT.out,HY.out];omega,by omega,trivial⟩,by simp[intOf];omega⟩
  ·obtain rfl:j=rs.length:=by omega
   rw[List.take_length] at HY;go_wp2_with fail;refine(BH _ y ⟨hyl,hyu⟩).mono ?_;rintro e w1 ⟨rfl,hb⟩;have HB:=ag hb;clear hb;obtain⟨z,hz⟩:∃z,z=(if y<0 then 262145 else 262144 - y):=⟨_,rfl⟩;rw[<-hz];have HZ:=ag (show 0<=z/\z<=262145/\(z<=262144->(dP rs:Int)=z) from by
    have hy:=HY.out;rw[hz];split<;>omega)
   clear hz;go_wp2_with fail;go_ret;exact⟨z,rfl,HZ.out.1,HZ.out.2.1,HZ.out.2.2,HB.out⟩
end
section
def fu (w:World) (base:Nat) (e:TypeId) (size:Nat) (v:Value) (n:Nat) (xs:List Value):Prop:=
 xs.length=n*size/\((v= .slice none 0 0/\n=0)\/
  ∃g off cap cur,v= .slice (some ⟨g,off,none⟩) n cap/\base<=g/\w.heap[g]? =some (.cells cur e (0,0))/\n<=cap/\cap<=maxLen/\off+cap*size<=cur.size/\∀(j:Nat) u,xs[j]? =some u->cur[off+j]? =some u)
variable {w w':World} {base:Nat} {e:TypeId} {size n:Nat} {v:Value} {xs:List Value}
theorem fu.nil (w:World) (base:Nat) (e:TypeId) (size:Nat):fu w base e size (.slice none 0 0) 0 []:=⟨by simp,.inl ⟨rfl,rfl⟩⟩
theorem fu.gu (h:w.ownsRow base e size v n xs):fu w base e size v n xs:=by
 refine⟨h.1,?_⟩;rcases h.2 with h1|⟨g,cap,cur,rfl,hb,hg,hc,hm,hs,ht⟩
 ·exact .inl h1
 ·refine .inr ⟨g,0,cap,cur,rfl,hb,hg,hc,hm,by omega,fun j u hj=>?_⟩;rw[Nat.zero_add];have hlt:=(bu.1 hj).1;rw[<-ht,List.getElem?_take] at hj;split at hj
  ·rwa [Array.getElem?_toList] at hj
  ·cases hj
theorem fu.shape (h:fu w base e size v n xs):∃ao c,v= .slice ao n c:=by
 rcases h.2 with⟨rfl,rfl⟩|⟨g,off,cap,cur,rfl,_⟩
 ·exact⟨none,0,rfl⟩
 ·exact⟨_,_,rfl⟩
theorem fu.lt (h:fu w base e size v n xs) {g:Nat} (hg:v.ownBlock=some g):base<=g/\g<w.heap.size:=by
 rcases h.2 with⟨rfl,_⟩|⟨g',off,cap,cur,rfl,hb,hgg,_⟩
 ·cases hg
 ·simp only[Value.ownBlock,bH] at hg;subst hg;exact⟨hb,lt_of_block hgg⟩
theorem fu.keep (h:fu w base e size v n xs) (hk:∀g,v.ownBlock=some g->g<w.heap.size->w'.heap[g]? =w.heap[g]?):fu w' base e size v n xs:=by
 refine⟨h.1,?_⟩;rcases h.2 with hn|⟨g',off,cap,cur,rfl,hb,hgg,rest⟩
 ·exact .inl hn
 ·refine .inr ⟨g',off,cap,cur,rfl,hb,?_,rest⟩;rw[hk g' rfl (lt_of_block hgg)];exact hgg
theorem fu.below (h:fu w base e size v n xs) (hb:Below w.heap.size w w'):fu w' base e size v n xs:=h.keep fun g _ hl=>hb.block g hl
theorem fu.xx {base':Nat} (h:fu w base e size v n xs) (hb:base'<=base):fu w base' e size v n xs:=by
 refine⟨h.1,?_⟩;rcases h.2 with hn|⟨g',off,cap,cur,hv,hb',rest⟩
 ·exact .inl hn
 ·exact .inr ⟨g',off,cap,cur,hv,Nat.le_trans hb hb',rest⟩
theorem fu.rd (h:fu w base e size v n xs):Rd w size v n xs:=by
 rcases h.2 with⟨rfl,rfl⟩|⟨g,off,cap,cur,rfl,hb,hg,hc,hm,hs,ht⟩
 ·have h1:=h.1;simp only[Nat.zero_mul] at h1;rw[List.length_eq_zero_iff.1 h1];exact Rd.nil w size
 ·exact⟨h.1,some ⟨g,off,none⟩,cap,rfl,hc,fun _=>⟨g,off,rfl,lt_of_block hg,fun j u hj=>af hg (ht j u hj)⟩⟩
theorem fu.tail {ao:Option Addr} {cap:Nat} (h:fu w base e size (.slice ao (n+1) cap) (n+1) xs) (hs:0<size):fu w base e size (.slice (if cap=1 then ao else ao.map (·.add size)) n (cap - 1)) n (xs.drop size):=by
 have h1:=h.1;refine⟨by rw[List.length_drop,h1,Nat.add_mul];omega,?_⟩;rcases h.2 with⟨_,h0⟩|⟨g,off,cap',cur,hv,hb,hg,hc,hm,hsz,ht⟩
 ·omega
 ·simp only[Value.slice.injEq,true_and] at hv;obtain⟨rfl,rfl⟩:=hv;by_cases h1':cap=1
  ·rw[if_pos h1'];subst h1';obtain rfl:n=0:=by omega
   refine .inr ⟨g,off,0,cur,rfl,hb,hg,by omega,by omega,by omega,fun j u hj=>?_⟩;have:=(bu.1 hj).1;rw[List.length_drop,h1] at this;omega
  ·rw[if_neg h1'];refine .inr ⟨g,off+size,cap - 1,cur,by simp[Addr.add_lit],hb,hg,by omega,by omega,?_,fun j u hj=>?_⟩
   ·have:cap*size=(cap - 1)*size+size:=by
     obtain⟨c,rfl⟩:∃c,cap=c+1:=⟨cap - 1,by omega⟩;rw[Nat.add_mul];simp
    omega
   ·rw[List.getElem?_drop] at hj;rw[Nat.add_assoc];exact ht _ u hj
theorem fu.first {ao:Option Addr} {cap:Nat} (h:fu w base e size (.slice ao (n+1) cap) (n+1) xs):∃g off,ao=some ⟨g,off,none⟩/\∀(j:Nat) u,xs[j]? =some u->w.cell? ⟨g,off+j,none⟩=some u:=by
 obtain⟨_,MX,cap',hv,_,hr⟩:=h.rd;cases hv;obtain⟨g,off,rfl,_,hc⟩:=hr (by omega);exact⟨g,off,rfl,hc⟩
theorem wC (g:Nat):∀(vs:List Value) (o:Nat) (w:World),w.grownBy (w.setCells g o vs) (some g)
 |[],_,w=>World.grownBy.refl w _
 |v::r,o,w=>by
  have h1:=wC g r (o+1) (w.setCell ⟨g,o,none⟩ v);rw[World.setCells];refine⟨h1.os.trans rfl,h1.tape.trans rfl,h1.output.trans rfl,Nat.le_trans (by simp[World.setCell]) h1.size,fun k hk hne=>?_⟩;rw[h1.block k (by simp[World.setCell];exact hk) hne];exact dm _ _ _ _ (fun q=>hne (by rw[q]))
theorem BM {t:TypeId} {f:Nat×Nat} (g:Nat):∀(vs:List Value) (o:Nat) (w:World) (cur:Array Value),w.heap[g]? =some (.cells cur t f)->o+vs.length<=cur.size->
  ∃cur',(w.setCells g o vs).heap[g]? =some (.cells cur' t f)/\cur'.size=cur.size/\(∀j,j<o->cur'[j]? =cur[j]?)/\∀(j:Nat) u,vs[j]? =some u->cur'[o+j]? =some u
 |[],o,w,cur,h,_=>⟨cur,h,rfl,fun _ _=>rfl,fun j u hj=>by simp at hj⟩
 |v::r,o,w,cur,h,hl=>by
  rw[List.length_cons] at hl;obtain⟨cur',h1,h2,h3,h4⟩:=BM g r (o+1) (w.setCell ⟨g,o,none⟩ v) _ (ai (o:=o) v h) (by simp;omega);rw[World.setCells];refine⟨cur',h1,by simpa using h2,fun j hj=>?_,fun j u hj=>?_⟩
  ·rw[h3 j (by omega),iE (by omega)]
  ·cases j with
   |zero=>
    simp only[List.getElem?_cons_zero,bH] at hj;subst hj;rw[Nat.add_zero,h3 o (by omega),Array.getElem?_setIfInBounds_self,if_pos (by omega)]
   |succ j=>
    rw[List.getElem?_cons_succ] at hj;have:=h4 j u hj
    rwa [show o+1+j=o+(j+1) from by omega] at this
theorem D8 {P:Program} (w:World) (t ty:TypeId) (base:Nat) (e:TypeId) (i:TypeInfo) (z:Value) (size bytes:Nat) (ht:P.underlying t=some (.slice e)) (hi:P.info? e=some i) (hz:i.zero=some z)
  (hsize:i.size=size) (hby:i.bytes=bytes) (hzs:z.cells.size=size) (hsz:0<size)
  (v:Value) (n:Nat) (xs:List Value) (hown:fu w base e size v n xs)
  (ad:Addr) (m c:Nat) (hm:0<m) (news:List Value) (hl:news.length=m*size) (hnews:∀j u,news[j]? =some u->w.cell? (ad.add j)=some u) (h1:∀u∈news,u.oneCell'=true)
  (h63:n+m<=maxLen) (hbytes:(n+m)*bytes<=140737488355328) (hbase:base<=w.heap.size):
  ∃ao cp w',(Builtin.append_ #[t,t] ty #[v,.slice (some ad) m c]).run P w= .ok (.slice ao (n+m) cp) w'/\fu w' base e size (.slice ao (n+m) cp) (n+m) (xs++news)/\
   (∀g,(Value.slice ao (n+m) cp).ownBlock=some g->v.ownBlock=some g\/w.heap.size<=g)/\w.grownBy w' v.ownBlock:=by
 have hlen:=hown.1;rcases hown.2 with⟨rfl,rfl⟩|⟨g,off,cap,cur,rfl,hbg,hgg,hnc,hcm,ajJ,hat⟩
 ·obtain rfl:xs=[]:=List.eq_nil_of_length_eq_zero (by simpa using hlen);obtain⟨v',w',hrun,r1,r2,_⟩:=run_append_own (P:=P) w w.heap.size t ty e i z size bytes ht hi hz hsize hby hzs hsz (.slice none 0 0) 0 [] (World.ownsRow_nil w _ e size) ad m c news hl hnews h1 h63 hbytes (aB _);obtain⟨ao,cp,rfl⟩:=aS r1;rw[Nat.zero_add] at*;exact⟨_,_,w',hrun,(fu.gu r1).xx hbase,fun g hg=>.inr (bO r1 hg).1,⟨r2.os,r2.tape,r2.output,r2.size,fun k hk hne=>r2.block k hk (by simp[Value.ownBlock])⟩⟩
 ·have hms:n+m<=cap->n*size+m*size<=cap*size:=fun hr=>by rw[<-Nat.add_mul];exact Nat.mul_le_mul_right _ hr
  by_cases hroom:n+m<=cap
  ·subst hsize;have hms:=hms hroom;have hrun:=run_append_room_cells (P:=P) w t ty e i ht hi g off n cap ad m c news hl hnews h1 hroom
    (fun j hj=>by
     have hlt:off+n*i.size+j<cur.size:=by omega
     rw[af hgg (Array.getElem?_eq_getElem hlt)];rfl)
    (fun j _=>ah hgg)
   obtain⟨cur',k1,k2,k3,k4⟩:=BM g news (off+n*i.size) w cur hgg (by omega);refine⟨_,_,_,hrun,⟨by rw[List.length_append,hlen,hl,Nat.add_mul],.inr ⟨g,off,cap,cur',rfl,hbg,k1,hroom,hcm,by omega,fun j u hj=>?_⟩⟩,fun g' hg'=>.inl hg',wC g news _ w⟩;rw[List.getElem?_append] at hj;split at hj
   ·rw[k3 _ (by omega)];exact hat j u hj
   ·rename_i hge;have:=k4 _ u hj
    rwa [show off+n*i.size+(j - xs.length)=off+j from by omega] at this
  ·obtain⟨v',w',hrun,r1,r2⟩:=run_append_arg_grows (P:=P) w t ty e i z size bytes ht hi hz hsize hby hzs hsz ⟨g,off,none⟩ n cap xs hlen (fun j u hj=>by rw[Addr.add_lit];exact af hgg (hat j u hj)) ad m c news hl hnews (by omega) h63 hbytes;obtain⟨ao,cp,rfl⟩:=aS r1;exact⟨_,_,w',hrun,(fu.gu r1).xx hbase,fun g' hg'=>.inr (bO r1 hg').1,⟨r2.os,r2.tape,r2.output,r2.size,fun k hk _=>r2.block k hk (by simp)⟩⟩
theorem BP {P:Program} {ops:Array Oper} {o:Oper} {a:Act} {w:World} {K:Act->World->Prop} {Q:Exit->Act->World->Prop} {E:Prop}
  (hg:o.guard=none) (s x:Operand) (t:TypeId) (hop:o.op=Op.call {callee:=Callee.builtin Builtin.append,args:=#[s,x],argTypes:=#[t,t]})
  (base:Nat) (e:TypeId) (i:TypeInfo) (z:Value) (size bytes:Nat) (ht:P.underlying t=some (.slice e)) (hi:P.info? e=some i) (hz:i.zero=some z)
  (hsize:i.size=size) (hby:i.bytes=bytes) (hzs:z.cells.size=size) (hsz:0<size)
  (v:Value) (n:Nat) (xs:List Value) (hs:a.eval s=v) (hown:fu w base e size v n xs)
  (ad:Addr) (m c:Nat) (hm:0<m) (news:List Value) (hx:a.eval x= .slice (some ad) m c) (hl:news.length=m*size) (hnews:∀j u,news[j]? =some u->w.cell? (ad.add j)=some u) (h1:∀u∈news,u.oneCell'=true)
  (h63:n+m<=maxLen) (hbytes:(n+m)*bytes<=140737488355328) (hbase:base<=w.heap.size)
  (hK:∀ao cp w',fu w' base e size (.slice ao (n+m) cp) (n+m) (xs++news)->(∀g,(Value.slice ao (n+m) cp).ownBlock=some g->v.ownBlock=some g\/w.heap.size<=g)->w.grownBy w' v.ownBlock->K (a.put o.dst (.slice ao (n+m) cp)) w'):
  if Region.wanted o (yielded ops a.tmps)=true then Oper.wp P o a w K Q else E:=by
 have hw:Region.wanted o (yielded ops a.tmps)=true:=by simp[Region.wanted,hg]
 rw[if_pos hw];obtain⟨ao,cp,w',hrun,r1,r2,r3⟩:=D8 (P:=P) w t o.type base e i z size bytes ht hi hz hsize hby hzs hsz v n xs hown ad m c hm news hl hnews h1 h63 hbytes hbase;unfold Oper.wp;simp[execOp,hop,resolve,invoke,builtin,hs,hx,hrun,Result.andThen];exact hK ao cp w' r1 r2 r3
end
section
structure RX where
 th:MT
 cv:Value
 wv:Value
 ov:Value
def sH (x:RX):List Value:=
 [x.cv,.int .i64 (x.th.reg 0),.int .i64 (x.th.reg 1),.int .i64 (x.th.reg 2),.int .i64 (x.th.reg 3),.int .i64 (x.th.reg 4),.int .i64 (x.th.reg 5),.int .i64 (x.th.reg 6),.int .i64 (x.th.reg 7),
  .int .i64 x.th.at_,x.wv,x.ov,.int .u8 x.th.fin]
theorem xw:∀x,(sH x).length=13:=fun _=>rfl
theorem wL (x:RX):∀r,r<8->(sH x)[1+r]? =some (.int .i64 (x.th.reg r))
 |0,_=>rfl|1,_=>rfl|2,_=>rfl|3,_=>rfl|4,_=>rfl|5,_=>rfl|6,_=>rfl|7,_=>rfl
 |n+8,h=>absurd h (by omega)
theorem Ku (x:RX) (v:Int):∀r,r<8->sH {x with th:={x.th with reg:=upd x.th.reg r v}}=(sH x).set (1+r) (.int .i64 v)
 |0,_=>rfl|1,_=>rfl|2,_=>rfl|3,_=>rfl|4,_=>rfl|5,_=>rfl|6,_=>rfl|7,_=>rfl
 |n+8,h=>absurd h (by omega)
structure Xa (w:World) (base:Nat) (own:Nat->Nat) (i:Nat) (x:RX):Prop where
 code:dH b_ w 6 x.cv x.th.code
 mg:∀g,x.th.code≠[]->x.cv.ownBlock=some g->g<base
 wait:fu w base 99 2 x.wv x.th.wait.length (x.th.wait.flatMap dQ)
 BL:∀g,x.wv.ownBlock=some g->own g=6+3*i
 out:w.ownsRow base 2 1 x.ov x.th.out.length (x.th.out.flatMap encI)
 outT:∀g,x.ov.ownBlock=some g->own g=7+3*i
structure iI (w:World) (base b:Nat) (own:Nat->Nat) (mm:MM) (xs:List RX) (mv tv ev:Value):Prop where
 blk:w.heap[b]? =some (.cells #[mv,tv,ev] 55 (0,0))
 bT:base<=b/\own b=1
 mem:w.ownsRow base 2 1 mv mm.mem.length (mm.mem.flatMap encI)
 memT:∀g,mv.ownBlock=some g->own g=2
 aT:w.ownsRow base 61 13 tv xs.length (xs.flatMap sH)
 fK:∀g,tv.ownBlock=some g->own g=3
 evs:w.ownsRow base 127 4 ev mm.evs.length (mm.evs.flatMap mV)
 j6:∀g,ev.ownBlock=some g->own g=4
 same:mm.aT=xs.map RX.th
 th:∀(i:Nat) x,xs[i]? =some x->Xa w base own i x
 fresh:∀k,w.heap.size<=k->own k=0
 low:∀k,own k≠0->base<=k
theorem Xa.keep {w w':World} {base:Nat} {own own':Nat->Nat} {i:Nat} {x:RX} (h:Xa w base own i x) (ho:∀k,k<w.heap.size->own' k=own k)
  (hk:∀g,g<base\/own g=6+3*i\/own g=7+3*i->g<w.heap.size->w'.heap[g]? =w.heap[g]?):Xa w' base own' i x:=
 ⟨h.code.zN fun g hn hg hl=>hk g (.inl (h.mg g hn hg)) hl,h.mg,h.wait.keep fun g hg hl=>hk g (.inr (.inl (h.BL g hg))) hl,fun g hg=>by rw[ho _ (h.wait.lt hg).2];exact h.BL g hg,
  aP h.out fun g hg hl=>hk g (.inr (.inr (h.outT g hg))) hl,fun g hg=>by rw[ho _ (bO h.out hg).2];exact h.outT g hg⟩
variable {w w':World} {base b:Nat} {own own':Nat->Nat} {mm:MM} {xs:List RX} {mv tv ev:Value}
theorem iI.lt (h:iI w base b own mm xs mv tv ev):b<w.heap.size:=lt_of_block h.blk
theorem iI.fQ (h:iI w base b own mm xs mv tv ev):base<=w.heap.size:=Nat.le_trans h.bT.1 (Nat.le_of_lt h.lt)
theorem iI.zero (h:iI w base b own mm xs mv tv ev) {g:Nat} (hg:g<base):own g=0:=Classical.byContradiction fun e=>by have:=h.low g e;omega
theorem iI.keep (h:iI w base b own mm xs mv tv ev) (hs:w.heap.size<=w'.heap.size) (hk:∀g,own g≠0\/g<base->g<w.heap.size->w'.heap[g]? =w.heap[g]?):iI w' base b own mm xs mv tv ev:=
 ⟨(hk b (.inl (by rw[h.bT.2];decide)) h.lt).trans h.blk,h.bT,aP h.mem fun g hg hl=>hk g (.inl (by rw[h.memT g hg];decide)) hl,h.memT,
  aP h.aT fun g hg hl=>hk g (.inl (by rw[h.fK g hg];decide)) hl,h.fK,
  aP h.evs fun g hg hl=>hk g (.inl (by rw[h.j6 g hg];decide)) hl,h.j6,h.same,
  fun i x hx=>(h.th i x hx).keep (fun _ _=>rfl) fun g hg hl=>hk g (by omega) hl,fun k hk'=>h.fresh k (by omega),h.low⟩
theorem iI.below (h:iI w base b own mm xs mv tv ev) (hb:Below w.heap.size w w'):iI w' base b own mm xs mv tv ev:=h.keep hb.size fun g _ hl=>hb.block g hl
theorem iI.drewN (h:iI w base b own mm xs mv tv ev) (n:Nat):iI (w.drewN n) base b own mm xs mv tv ev:=h.keep (aB _) fun g _ hl=>rfl
theorem iI.drew (h:iI w base b own mm xs mv tv ev):iI w.drew base b own mm xs mv tv ev:=h.keep (aB _) fun g _ hl=>rfl
theorem iI.Ja {S:Nat->Prop} (h:iI w base b own mm xs mv tv ev) (hc:bz S w w') (hs:∀k,own k≠0\/k<base->¬S k):iI w' base b own mm xs mv tv ev:=h.keep hc.size fun g hg hl=>hc.block g hl (hs g hg)
theorem iI.Bg (h:iI w base b own mm xs mv tv ev) {n:Nat} {x:RX} (hx:xs[n]? =some x):mm.aT[n]? =some x.th:=by rw[h.same];simp[hx]
theorem iI.yw (h:iI w base b own mm xs mv tv ev) {n:Nat} {x:RX} (hx:xs[n]? =some x):∃tb cap,tv= .slice (some ⟨tb,0,none⟩) xs.length cap/\own tb=3:=by
 have hl:=(bu.1 hx).1;obtain⟨ao,cap,rfl⟩:=aS h.aT;obtain⟨tb,cur,rfl,_⟩:=bX h.aT (by omega);exact⟨tb,cap,rfl,h.fK tb rfl⟩
theorem iI.cell {tb cap:Nat} (h:iI w base b own mm xs mv (.slice (some ⟨tb,0,none⟩) xs.length cap) ev) {n:Nat} {x:RX} (hx:xs[n]? =some x) (j:Nat) (u:Value) (hu:(sH x)[j]? =some u):w.cell? ⟨tb,n*13+j,none⟩=some u:=by
 obtain⟨b',off,e1,hb,hc⟩:=dH.at (enc:=sH) xw (Rd.gu h.aT) hx;simp only[bH,Addr.mk.injEq,and_true] at e1;obtain⟨rfl,rfl⟩:=e1;have:=hc j u hu
 rwa [Nat.zero_add] at this
theorem iI.free {tb cap:Nat} (h:iI w base b own mm xs mv (.slice (some ⟨tb,0,none⟩) xs.length cap) ev) (hn:0<xs.length) (o:Nat):w.frozen? ⟨tb,o,none⟩=false:=by
 obtain⟨tb',cur,e1,_,hg,_⟩:=bX h.aT hn;simp only[bH,Addr.mk.injEq,and_true] at e1;subst e1;exact ah hg
theorem iI.iN (h:iI w base b own mm xs mv tv ev) (j:Nat) (u:Value) (hu:(#[mv,tv,ev])[j]? =some u):w.cell? ⟨b,j,none⟩=some u:=af h.blk hu
theorem iI.Zf (h:iI w base b own mm xs mv tv ev) (o:Nat):w.frozen? ⟨b,o,none⟩=false:=ah h.blk
theorem iI.aW {tb cap:Nat} (h:iI w base b own mm xs mv (.slice (some ⟨tb,0,none⟩) xs.length cap) ev) {n:Nat} {x:RX} (hx:xs[n]? =some x) (y:RX) (j:Nat) (u:Value) (hj:j<13) (he:sH y=(sH x).set j u)
  (h1:y.cv=x.cv) (h2:y.th.code=x.th.code) (h3:y.wv=x.wv) (h4:y.th.wait=x.th.wait) (h5:y.ov=x.ov) (h6:y.th.out=x.th.out):
  iI (w.setCell ⟨tb,n*13+j,none⟩ u) base b own (mm.put n y.th) (xs.set n y) mv (.slice (some ⟨tb,0,none⟩) (xs.set n y).length cap) ev:=by
 have hk:∀g,own g≠3->(w.setCell ⟨tb,n*13+j,none⟩ u).heap[g]? =w.heap[g]?:=fun g hg=>dm _ _ _ _ fun e=>hg (by rw[e];exact h.fK tb rfl)
 have hk':∀i g,g<base\/own g=6+3*i\/own g=7+3*i->(w.setCell ⟨tb,n*13+j,none⟩ u).heap[g]? =w.heap[g]?:=fun i g hg=>hk g (by
  rcases hg with e|e|e
  ·rw[h.zero e];decide
  ·omega
  ·omega)
 have hr:=(vW xw h.aT hx he hj).2;refine⟨by rw[List.length_set];exact(hk b (by rw[h.bT.2];decide)).trans h.blk,h.bT,aP h.mem fun g hg _=>hk g (by rw[h.memT g hg];decide),h.memT,by rw[List.length_set];exact hr,h.fK,aP h.evs fun g hg _=>hk g (by rw[h.j6 g hg];decide),h.j6,
  by rw[MM.put,List.map_set,h.same],fun i z hz=>?_,fun k hk'=>h.fresh k (by rw[bL] at hk';exact hk'),h.low⟩
 rw[List.getElem?_set] at hz;split at hz
 ·rename_i e;subst e;split at hz
  ·cases hz;have ht:=(h.th n x hx).keep (w':=w.setCell ⟨tb,n*13+j,none⟩ u) (own':=own) (fun _ _=>rfl) fun g hg _=>hk' n g hg
   exact⟨by rw[h1,h2];exact ht.code,by rw[h1,h2];exact ht.mg,by rw[h3,h4];exact ht.wait,by rw[h3];exact ht.BL,by rw[h5,h6];exact ht.out,by rw[h5];exact ht.outT⟩
  ·cases hz
 ·exact(h.th i z hz).keep (fun _ _=>rfl) fun g hg _=>hk' i g hg
theorem iI.word {mb mc:Nat} (h:iI w base b own mm xs (.slice (some ⟨mb,0,none⟩) mm.mem.length mc) tv ev) {a:Nat} (ha:a<mm.mem.length) (v:Int):
  iI (w.setCell ⟨mb,a,none⟩ (.int .i64 v)) base b own {mm with mem:=mm.mem.set a v} xs (.slice (some ⟨mb,0,none⟩) mm.mem.length mc) tv ev:=by
 have hk:∀g,own g≠2->(w.setCell ⟨mb,a,none⟩ (.int .i64 v)).heap[g]? =w.heap[g]?:=fun g hg=>dm _ _ _ _ fun e=>hg (by rw[e];exact h.memT mb rfl)
 have hr:=(vW (j:=0) (y:=v) (u:=.int .i64 v) ko h.mem (eO ha) rfl (by decide)).2;rw[Nat.mul_one,Nat.add_zero] at hr;exact⟨(hk b (by rw[h.bT.2];decide)).trans h.blk,h.bT,by rw[List.length_set];exact hr,h.memT,aP h.aT fun g hg _=>hk g (by rw[h.fK g hg];decide),h.fK,aP h.evs fun g hg _=>hk g (by rw[h.j6 g hg];decide),h.j6,h.same,
  fun i z hz=>(h.th i z hz).keep (fun _ _=>rfl) fun g hg _=>hk g (by
   rcases hg with e|e|e
   ·rw[h.zero e];decide
   ·omega
   ·omega),fun k hk'=>h.fresh k (by rw[bL] at hk';exact hk'),h.low⟩
theorem iI.qA (h:iI w base b own mm xs mv tv ev) (hm:0<mm.mem.length):∃mb cap,mv= .slice (some ⟨mb,0,none⟩) mm.mem.length cap/\own mb=2:=by
 obtain⟨ao,cap,rfl⟩:=aS h.mem;obtain⟨mb,cur,rfl,_⟩:=bX h.mem hm;exact⟨mb,cap,rfl,h.memT mb rfl⟩
theorem iI.Be {mb mc:Nat} (h:iI w base b own mm xs (.slice (some ⟨mb,0,none⟩) mm.mem.length mc) tv ev) {a:Nat} (ha:a<mm.mem.length):w.cell? ⟨mb,a,none⟩=some (.int .i64 (mm.mem.getD a 0)):=by
 obtain⟨b',off,e1,hb,hc⟩:=dH.at (enc:=encI) ko (Rd.gu h.mem) (eO ha);simp only[bH,Addr.mk.injEq,and_true] at e1;obtain⟨rfl,rfl⟩:=e1;have:=hc 0 _ rfl;rw[Nat.zero_add,Nat.mul_one,Nat.add_zero] at this;rw[this];simp[List.getD,ha]
theorem iI.C_ {mb mc:Nat} (h:iI w base b own mm xs (.slice (some ⟨mb,0,none⟩) mm.mem.length mc) tv ev) (hn:0<mm.mem.length) (o:Nat):w.frozen? ⟨mb,o,none⟩=false:=by
 obtain⟨tb',cur,e1,_,hg,_⟩:=bX h.mem hn;simp only[bH,Addr.mk.injEq,and_true] at e1;subst e1;exact ah hg
theorem wW {own:Nat->Nat} {v:Value} {p n base k:Nat} (hb:base<=n) (hl:∀k,own k≠0->base<=k) (h:retag own v p n k≠0):base<=k:=by
 unfold retag at h;split at h
 ·rename_i e;omega
 ·exact hl k h
theorem iI.event (h:iI w base b own mm xs mv tv ev) (es:List Ev) (ev':Value) (hc:bz (fun k=>k=b\/ev.ownBlock=some k) w w') (hb:w'.heap[b]? =some (.cells #[mv,tv,ev'] 55 (0,0)))
  (he:w'.ownsRow base 127 4 ev' es.length (es.flatMap mV)) (hf:∀g,ev'.ownBlock=some g->ev.ownBlock=some g\/w.heap.size<=g):
  iI w' base b (retag own ev' 4 w.heap.size) {mm with evs:=es} xs mv tv ev':=by
 have ho:∀k,k<w.heap.size->retag own ev' 4 w.heap.size k=own k:=fun k hk=>jk hk
 have hk:∀g,own g≠1->own g≠4->g<w.heap.size->w'.heap[g]? =w.heap[g]?:=fun g h1 h4 hl=>hc.block g hl fun e=>by
  rcases e with e|e
  ·exact h1 (by rw[e];exact h.bT.2)
  ·exact h4 (h.j6 g e)
 exact⟨hb,⟨h.bT.1,by rw[ho _ h.lt];exact h.bT.2⟩,aP h.mem fun g hg hl=>hk g (by rw[h.memT g hg];decide) (by rw[h.memT g hg];decide) hl,fun g hg=>by rw[ho _ (bO h.mem hg).2];exact h.memT g hg,
  aP h.aT fun g hg hl=>hk g (by rw[h.fK g hg];decide) (by rw[h.fK g hg];decide) hl,fun g hg=>by rw[ho _ (bO h.aT hg).2];exact h.fK g hg,he,fun g hg=>qO hf h.j6 hg,h.same,
  fun i z hz=>(h.th i z hz).keep ho fun g hg hl=>by
   rcases hg with e|e|e
   ·exact hk g (by rw[h.zero e];decide) (by rw[h.zero e];decide) hl
   ·exact hk g (by omega) (by omega) hl
   ·exact hk g (by omega) (by omega) hl,fun k hk'=>nV (fun g hg=>(bO he hg).2) (h.fresh k (by have:=hc.size;omega)) hk',fun k=>wW h.fQ h.low⟩
theorem iI.told {tb cap:Nat} (h:iI w base b own mm xs mv (.slice (some ⟨tb,0,none⟩) xs.length cap) ev) {n:Nat} {x:RX} (hx:xs[n]? =some x) (os:List Int) (nv:Value) (hc:bz (fun k=>x.ov.ownBlock=some k) w w')
  (he:w'.ownsRow base 2 1 nv os.length (os.flatMap encI)) (hf:∀g,nv.ownBlock=some g->x.ov.ownBlock=some g\/w.heap.size<=g):
  iI (w'.setCell ⟨tb,n*13+11,none⟩ nv) base b (retag own nv (7+3*n) w.heap.size) (mm.put n {x.th with out:=os}) (xs.set n {x with th:={x.th with out:=os},ov:=nv}) mv (.slice (some ⟨tb,0,none⟩) (xs.set n {x with th:={x.th with out:=os},ov:=nv}).length cap) ev:=by
 have ho:∀k,k<w.heap.size->retag own nv (7+3*n) w.heap.size k=own k:=fun k hk=>jk hk
 have hx7:=(h.th n x hx).outT;have hk0:∀g,own g≠7+3*n->g<w.heap.size->w'.heap[g]? =w.heap[g]?:=fun g h1 hl=>hc.block g hl fun e=>h1 (hx7 g e)
 have hk:∀g,own g≠3->own g≠7+3*n->g<w.heap.size->(w'.setCell ⟨tb,n*13+11,none⟩ nv).heap[g]? =w.heap[g]?:=fun g h3 h7 hl=>by
  rw[dm _ _ _ _ fun e=>h3 (by rw[e];exact h.fK tb rfl)];exact hk0 g h7 hl
 have htb:tb<w.heap.size:=(bO h.aT rfl).2;have hr:=(vW (j:=11) (y:={x with th:={x.th with out:=os},ov:=nv}) (u:=nv) xw (aP h.aT fun g hg hl=>hk0 g (by rw[h.fK g hg];omega) hl) hx rfl (by decide)).2;have Wn:∀g,nv.ownBlock=some g->g≠tb:=fun g hg e=>by
  rcases hf g hg with e'|e'
  ·have:=hx7 g e';rw[e,h.fK tb rfl] at this;omega
  ·omega
 refine⟨by rw[List.length_set];exact(hk b (by rw[h.bT.2];decide) (by rw[h.bT.2];omega) h.lt).trans h.blk,⟨h.bT.1,by rw[ho _ h.lt];exact h.bT.2⟩,aP h.mem fun g hg hl=>hk g (by rw[h.memT g hg];decide) (by rw[h.memT g hg];omega) hl,fun g hg=>by rw[ho _ (bO h.mem hg).2];exact h.memT g hg,
  by rw[List.length_set];exact hr,fun g hg=>by rw[ho _ (bO h.aT hg).2];exact h.fK g hg,aP h.evs fun g hg hl=>hk g (by rw[h.j6 g hg];decide) (by rw[h.j6 g hg];omega) hl,fun g hg=>by rw[ho _ (bO h.evs hg).2];exact h.j6 g hg,
  by rw[MM.put,List.map_set,h.same],fun i z hz=>?_,fun k hk'=>by rw[bL] at hk';exact nV (fun g hg=>(bO he hg).2) (h.fresh k (by have:=hc.size;omega)) hk',fun k=>wW h.fQ h.low⟩
 have hkl:∀g,g<base->g<w.heap.size->(w'.setCell ⟨tb,n*13+11,none⟩ nv).heap[g]? =w.heap[g]?:=fun g e hl=>hk g (by rw[h.zero e];decide) (by rw[h.zero e];omega) hl
 rw[List.getElem?_set] at hz;split at hz
 ·rename_i e;subst e;split at hz
  ·cases hz;have ht:=h.th n x hx;exact⟨ht.code.zN fun g hn hg hl=>hkl g (ht.mg g hn hg) hl,ht.mg,ht.wait.keep fun g hg hl=>hk g (by rw[ht.BL g hg];omega) (by rw[ht.BL g hg];omega) hl,fun g hg=>by rw[ho _ (ht.wait.lt hg).2];exact ht.BL g hg,
    aP he fun g hg _=>dm _ _ _ _ (Wn g hg),fun g hg=>qO hf hx7 hg⟩
  ·cases hz
 ·rename_i hne;exact(h.th i z hz).keep ho fun g hg hl=>by
   rcases hg with e|e|e
   ·exact hkl g e hl
   ·exact hk g (by omega) (by omega) hl
   ·exact hk g (by omega) (by omega) hl
theorem iI.waited {tb cap:Nat} (h:iI w base b own mm xs mv (.slice (some ⟨tb,0,none⟩) xs.length cap) ev) {n:Nat} {x:RX} (hx:xs[n]? =some x) (q:List (Int×Int)) (nv:Value) (hc:bz (fun k=>x.wv.ownBlock=some k) w w')
  (he:fu w' base 99 2 nv q.length (q.flatMap dQ)) (hf:∀g,nv.ownBlock=some g->x.wv.ownBlock=some g\/w.heap.size<=g):
  iI (w'.setCell ⟨tb,n*13+10,none⟩ nv) base b (retag own nv (6+3*n) w.heap.size) (mm.put n {x.th with wait:=q}) (xs.set n {x with th:={x.th with wait:=q},wv:=nv}) mv (.slice (some ⟨tb,0,none⟩) (xs.set n {x with th:={x.th with wait:=q},wv:=nv}).length cap) ev:=by
 have ho:∀k,k<w.heap.size->retag own nv (6+3*n) w.heap.size k=own k:=fun k hk=>jk hk
 have hx7:=(h.th n x hx).BL;have hk0:∀g,own g≠6+3*n->g<w.heap.size->w'.heap[g]? =w.heap[g]?:=fun g h1 hl=>hc.block g hl fun e=>h1 (hx7 g e)
 have hk:∀g,own g≠3->own g≠6+3*n->g<w.heap.size->(w'.setCell ⟨tb,n*13+10,none⟩ nv).heap[g]? =w.heap[g]?:=fun g h3 h7 hl=>by
  rw[dm _ _ _ _ fun e=>h3 (by rw[e];exact h.fK tb rfl)];exact hk0 g h7 hl
 have htb:tb<w.heap.size:=(bO h.aT rfl).2;have hr:=(vW (j:=10) (y:={x with th:={x.th with wait:=q},wv:=nv}) (u:=nv) xw (aP h.aT fun g hg hl=>hk0 g (by rw[h.fK g hg];omega) hl) hx rfl (by decide)).2;have Wn:∀g,nv.ownBlock=some g->g≠tb:=fun g hg e=>by
  rcases hf g hg with e'|e'
  ·have:=hx7 g e';rw[e,h.fK tb rfl] at this;omega
  ·omega
 refine⟨by rw[List.length_set];exact(hk b (by rw[h.bT.2];decide) (by rw[h.bT.2];omega) h.lt).trans h.blk,⟨h.bT.1,by rw[ho _ h.lt];exact h.bT.2⟩,aP h.mem fun g hg hl=>hk g (by rw[h.memT g hg];decide) (by rw[h.memT g hg];omega) hl,fun g hg=>by rw[ho _ (bO h.mem hg).2];exact h.memT g hg,
  by rw[List.length_set];exact hr,fun g hg=>by rw[ho _ (bO h.aT hg).2];exact h.fK g hg,aP h.evs fun g hg hl=>hk g (by rw[h.j6 g hg];decide) (by rw[h.j6 g hg];omega) hl,fun g hg=>by rw[ho _ (bO h.evs hg).2];exact h.j6 g hg,
  by rw[MM.put,List.map_set,h.same],fun i z hz=>?_,fun k hk'=>by rw[bL] at hk';exact nV (fun g hg=>(he.lt hg).2) (h.fresh k (by have:=hc.size;omega)) hk',fun k=>wW h.fQ h.low⟩
 have hkl:∀g,g<base->g<w.heap.size->(w'.setCell ⟨tb,n*13+10,none⟩ nv).heap[g]? =w.heap[g]?:=fun g e hl=>hk g (by rw[h.zero e];decide) (by rw[h.zero e];omega) hl
 rw[List.getElem?_set] at hz;split at hz
 ·rename_i e;subst e;split at hz
  ·cases hz;have ht:=h.th n x hx;exact⟨ht.code.zN fun g hn hg hl=>hkl g (ht.mg g hn hg) hl,ht.mg,he.keep fun g hg _=>dm _ _ _ _ (Wn g hg),fun g hg=>qO hf hx7 hg,
    aP ht.out fun g hg hl=>hk g (by rw[ht.outT g hg];omega) (by rw[ht.outT g hg];omega) hl,fun g hg=>by rw[ho _ (bO ht.out hg).2];exact ht.outT g hg⟩
  ·cases hz
 ·rename_i hne;exact(h.th i z hz).keep ho fun g hg hl=>by
   rcases hg with e|e|e
   ·exact hkl g e hl
   ·exact hk g (by omega) (by omega) hl
   ·exact hk g (by omega) (by omega) hl
def dJ (w:World) (base b:Nat) (own:Nat->Nat) (j5:MM) (w':World):Prop:=
 (∃own' xs mv tv ev,iI w' base b own' j5 xs mv tv ev/\∀k,k<w.heap.size->own' k=own k)/\bz (fun k=>own k≠0) w w'
end
section
variable {w w':World} {base b:Nat} {own own':Nat->Nat} {mm:MM} {xs:List RX} {mv tv ev:Value}
def O0 (base b:Nat) (own:Nat->Nat) (mm:MM) (xs:List RX) (mv tv:Value) (w w':World):Prop:=
 (∃own' ev',iI w' base b own' mm xs mv tv ev'/\∀k,k<w.heap.size->own' k=own k)/\bz (fun k=>own k=1\/own k=4) w w'
theorem uj (h:iI w base b own mm xs mv tv ev) (hlen:mm.evs.length<2000000000) (n:Nat) (k a c:Int):
  Calls Tryz.prog 71 #[.pointer (some ⟨b,0,none⟩),.int .i64 (n:Int),.int .u8 k,.int .i64 a,.int .i64 c] w fun r w'=>r= .returned (.tuple #[])/\O0 base b own (mm.tell n k a c) xs mv tv w w':=by
 have c2:=h.iN 2 _ rfl;obtain⟨i0,hi,hz0,hz1,hz2⟩:=info_parts UC;have H:=ag h;have HL:=ag hlen;clear h hlen;go_in;go_wp2_with (at_builtin;refine dD _ rfl _ _ 53 rfl base 127 i0 _ 4 32 Tryz.underlying53 hi hz0 hz1 hz2 rfl (by decide) _ _ _ rfl (aX H.out.evs ((bz.refl (fun _=>False) w).alloc _) (fun _ _=>id)) ⟨w.heap.size,0,none⟩ 1 1 (mV ⟨n,k,a,c⟩) rfl rfl ?c1 ?c2 ?c3 ?c4 ?c5 ?_)
 case c1=>first|exact iP (aj _ _)|exact fun j u h=>h
 case c2=>exact VN _
 case c3=>have:=HL.out;unfold maxLen;omega
 case c4=>have:=HL.out;omega
 case c5=>have:=H.out.fQ;simp;omega
 intro ao cp w1 hown jh eU;have hc:=bz.grown (S:=fun k=>ev.ownBlock=some k) ((bz.refl _ w).alloc (.cells (mV ⟨n,k,a,c⟩).toArray 127)) eU (fun k hk=>.inl hk);have hb1:=dG hc H.out.blk (fun hk=>by have h1:=H.out.j6 _ hk;rw[H.out.bT.2] at h1;exact absurd h1 (by decide));have f1:=ah (o:=2) hb1;have f2:w1.cell? ⟨b,2,none⟩=some ev:=af hb1 rfl;have HB:=ag hb1;have HC:=ag hc;have HO:=ag hown;have HF:=ag jh;clear hb1 hc hown jh eU hi hz0 hz1 hz2;go_wp2_with fail;have hset:=ai (o:=2) (.slice ao (mm.evs.length+1) cp) HB.out;have hne:∀g,(Value.slice ao (mm.evs.length+1) cp).ownBlock=some g->ev.ownBlock=some g\/w.heap.size<=g:=fun g hg=>by
  rcases HF.out g hg with e|e
  ·exact .inl e
  ·exact .inr (by omega)
 have WE:bz (fun k=>k=b\/ev.ownBlock=some k) w (w1.setCell ⟨b,2,none⟩ (.slice ao (mm.evs.length+1) cp)):=
  (bz.dY (S:=fun k=>k=b\/ev.ownBlock=some k) (bz.refl _ w) HC.out (fun k _ hk=>.inr hk)).setCell (p:=⟨b,2,none⟩) (.inl (.inl rfl)) _
 have hm:=H.out.event (mm.evs++[⟨n,k,a,c⟩]) (.slice ao (mm.evs.length+1) cp) WE hset (by
  rw[List.length_append,mJ];exact aP HO.out fun g hg hlt=>dm _ _ _ _ (fun e=>by
   rcases hne g hg with h1|h1
   ·have h2:=H.out.j6 _ h1;rw[e,H.out.bT.2] at h2;exact absurd h2 (by decide)
   ·have:=H.out.lt;simp only at e;omega)) hne
 go_end0;exact⟨rfl,⟨_,_,hm,fun k hk=>jk hk⟩,WE.imp fun k _ hk=>by
  rcases hk with rfl|hk
  ·exact .inl H.out.bT.2
  ·exact .inr (H.out.j6 k hk)⟩
theorem dJ.ZF {w1:World} {j5:MM} (hc:bz (fun k=>own k≠0) w w1) (hp:O0 base b own j5 xs mv tv w1 w'):dJ w base b own j5 w':=by
 obtain⟨⟨own',ev',hm,ho⟩,hc2⟩:=hp;exact⟨⟨own',xs,mv,tv,ev',hm,fun k hk=>ho k (Nat.lt_of_lt_of_le hk hc.size)⟩,bz.dY hc hc2 (fun k _ hk=>by omega)⟩
theorem iI.afo {tb cap:Nat} (h:iI w base b own mm xs mv (.slice (some ⟨tb,0,none⟩) xs.length cap) ev) (o:Nat) (u:Value):bz (fun k=>own k≠0) w (w.setCell ⟨tb,o,none⟩ u):=
 (bz.refl _ w).setCell (p:=⟨tb,o,none⟩) (.inl (by rw[h.fK tb rfl];decide)) u
theorem iI.goes (h:iI w' base b own mm xs mv tv ev) (hc:bz (fun k=>own k≠0) w w'):dJ w base b own mm w':=⟨⟨own,xs,mv,tv,ev,h,fun _ _=>rfl⟩,hc⟩
theorem wM {tb cap n:Nat} {x:RX} (h:iI w base b own mm xs mv (.slice (some ⟨tb,0,none⟩) xs.length cap) ev) (hx:xs[n]? =some x) (hlen:mm.evs.length<2000000000) (h4:xs.length<=4) (k:Int) (hk:0<=k/\k<256):
  Calls Tryz.prog 35 #[.pointer (some ⟨b,0,none⟩),.int .i64 (n:Int),.int .u8 k] w fun r w'=>r= .returned (.tuple #[])/\dJ w base b own (mm.stop n x.th k) w':=by
 have hn:n<xs.length:=(bu.1 hx).1;have c1:=h.iN 1 _ rfl;have e12:=h.cell hx 12 _ rfl;have f12:=h.free (by omega) (n*13+12);have hp:=h.aW hx {x with th:={x.th with fin:=k}} 12 (.int .u8 k) (by decide) rfl rfl rfl rfl rfl rfl rfl;have hc:=h.afo (n*13+12) (.int .u8 k);have HP:=ag hp;have HC:=ag hc;have HL:Hid ((mm.put n {x.th with fin:=k}).evs.length<2000000000):=ag hlen;clear h hx hp hc hlen;by_cases h1:k=1
 ·subst h1;go_in;go_wp2_with fail;refine(uj HP.out HL.out n 10 0 0).mono ?_;rintro r w1 ⟨rfl,hp⟩;have HQ:=ag hp;clear hp;go_wp2_with fail;go_end0;exact⟨rfl,dJ.ZF HC.out HQ.out⟩
 ·have h1':(k==1)=false:=by rw[cz];exact h1
  have e1:IntKind.i64.wrap k=k:=IntWalk.i64_in _ (by omega);go_in;go_wp2_with fail;refine(uj HP.out HL.out n 11 k 0).mono ?_;rintro r w1 ⟨rfl,hp⟩;have HQ:=ag hp;clear hp;go_wp2_with fail;go_end0;refine⟨rfl,?_⟩;unfold MM.stop;rw[if_neg h1,if_neg h1];exact dJ.ZF HC.out HQ.out
theorem Ni (h:iI w base b own mm xs mv tv ev) (a:Int) (hl:mm.mem.length<=262144):
  Calls Tryz.prog 37 #[.pointer (some ⟨b,0,none⟩),.int .i64 a] w fun r w'=>r= .returned (.bool (mm.has a))/\w'=w:=by
 obtain⟨ao,cp,rfl⟩:=aS h.mem;have c0:=h.iN 0 _ rfl;have e1:IntKind.i64.wrap (mm.mem.length:Int)=mm.mem.length:=IntWalk.i64_in _ (by omega);clear h;unfold MM.has;by_cases h0:a<0
 ·have hv:decide (0<=a/\a<(mm.mem.length:Int))=false:=by simp;omega
  rw[hv];have h0':¬a>=0:=by omega
  clear hv;go_in;go_wp2_with fail;go_ret;exact⟨rfl,rfl⟩
 ·have h0':a>=0:=by omega
  by_cases h1:a<(mm.mem.length:Int)
  ·have hv:decide (0<=a/\a<(mm.mem.length:Int))=true:=by simp;omega
   rw[hv];clear hv;go_in;go_wp2_with fail;go_ret;exact⟨rfl,rfl⟩
  ·have hv:decide (0<=a/\a<(mm.mem.length:Int))=false:=by simp;omega
   rw[hv];clear hv;go_in;go_wp2_with fail;go_ret;exact⟨rfl,rfl⟩
end
section
variable {w w':World} {base b:Nat} {own own':Nat->Nat} {mm:MM} {xs:List RX} {mv tv ev:Value} {tb cap n:Nat} {x:RX}
theorem dJ.at_ {w1:World} {dM:Nat->Nat} {Gs:MM} {Ec:List RX} {mv1 ev1:Value} {y:RX} {nx:Int} (h:iI w1 base b dM Gs Ec mv1 (.slice (some ⟨tb,0,none⟩) Ec.length cap) ev1) (hy:Ec[n]? =some y)
  (ho:∀k,k<w.heap.size->dM k=own k) (hc:bz (fun k=>own k≠0) w w1):dJ w base b own (Gs.put n {y.th with at_:=nx}) (w1.setCell ⟨tb,n*13+9,none⟩ (.int .i64 nx)):=by
 have hp:=h.aW hy {y with th:={y.th with at_:=nx}} 9 (.int .i64 nx) (by decide) rfl rfl rfl rfl rfl rfl rfl;refine⟨⟨dM,_,_,_,_,hp,ho⟩,hc.setCell (p:=⟨tb,n*13+9,none⟩) ?_ _⟩;have h3:=h.fK tb rfl;by_cases hl:tb<w.heap.size
 ·exact .inl (by show own tb≠0;rw[<-ho tb hl,h3];decide)
 ·exact .inr (Nat.le_of_not_lt hl)
theorem F_ (h:iI w base b own mm xs mv (.slice (some ⟨tb,0,none⟩) xs.length cap) ev) (hx:xs[n]? =some x) (hw:x.th.wait.length<=64) {a:Nat} (ha:a<mm.mem.length) (hok:∀c∈x.th.wait,0<=c.1/\c.1<262144):
  Calls Tryz.prog 73 #[.pointer (some ⟨b,0,none⟩),.pointer (some ⟨tb,n*13,none⟩),.int .i64 (a:Int)] w fun r w'=>r= .returned (.int .i64 (mm.found x.th a))/\∃d,w'=w.drewN d:=by
 have hn:n<xs.length:=(bu.1 hx).1;obtain⟨mb,mc,rfl,hmb⟩:=h.qA (by omega);have c0:=h.iN 0 _ rfl;obtain⟨M0,hM0⟩:∃M0,mm.mem.getD a 0=M0:=⟨_,rfl⟩;have cM:w.cell? ⟨mb,a,none⟩=some (.int .i64 M0):=by rw[<-hM0];exact h.Be ha
 have c10:=h.cell hx 10 _ rfl;have hcut:=(h.th n x hx).wait;obtain⟨wo,wc,hwv⟩:=hcut.shape;rw[hwv] at c10 hcut;have HC:=ag hcut.rd;have HW:=ag hw;have tF:=ag hok;have HM:=ag (show mm.at (a:Int)=M0 from hM0);clear h hx hok hcut hwv hM0;go_in;go_wp2_with fail;go_loopw [7] (fun i wr=>∃k:Nat,k<=x.th.wait.length/\i= .int .i64 ((k:Int) - 1)/\(∃d,wr=w.drewN d)/\∀j y,k<=j->x.th.wait[j]? =some y->y.1≠(a:Int)) (fun i _=>(intOf i+1).toNat)
 case atStart=>exact⟨x.th.wait.length,aB _,rfl,⟨0,rfl⟩,fun j y hj hy=>by have:=(bu.1 hy).1;omega⟩
 case round=>
  obtain⟨k,hk,rfl,⟨d,rfl⟩,hall⟩:=hrel;have HA:=ag hall;clear hall;by_cases h0:k=0
  ·subst h0;go_wp2_with fail;go_ret;refine⟨?_,d,rfl⟩;unfold MM.found;rw[EG (fun i x hx=>HA.out i x (by omega) hx),HM.out];rfl
  ·obtain⟨m,rfl⟩:∃m,k=m+1:=⟨k - 1,by omega⟩;obtain⟨y,hy⟩:=bE (l:=x.th.wait) (k:=m) (by omega);obtain⟨b1,o1,rfl,hs1,hc1⟩:=dH.at iM HC.out hy;have x0:=hc1 0 _ rfl;have x1:=hc1 1 _ rfl;simp only[Nat.add_zero] at x0;have HX:=ag hy;have hb:=tF.out y (bC hy);have e0:IntKind.i64.wrap y.1=y.1:=IntWalk.i64_in _ (by omega);have e1:(((m+1:Nat):Int) - 1)=m:=by omega
   have aiC:m<64:=by omega
   rw[e1];clear hy hc1 hs1 e1 h0 hb;by_cases ha:y.1=(a:Int)
   ·have ta:((y.1:Int)==(a:Int))=true:=by rw[ha];simp
    go_wp2_with fail;go_ret;refine⟨?_,d,rfl⟩;unfold MM.found;rw[DZ HX.out ha (fun i y hi hy=>HA.out i y (by omega) hy)];rfl
   ·have ta:((y.1:Int)==(a:Int))=false:=by rw[cz];exact ha
    go_wp2_with fail;refine⟨⟨m,by omega,rfl,⟨d,rfl⟩,fun j z hj hz=>?_⟩,by simp[intOf]⟩;rcases Nat.lt_or_ge m j with h|h
    ·exact HA.out j z h hz
    ·obtain rfl:j=m:=by omega
     have:=HX.out;rw[hz] at this;simp only[bH] at this;subst this;exact ha
theorem RS (h:iI w base b own mm xs mv (.slice (some ⟨tb,0,none⟩) xs.length cap) ev) (hx:xs[n]? =some x) (o:bR) (ho:xU o):
  Calls Tryz.prog 36 #[.pointer (some ⟨tb,n*13,none⟩),.agg (b_ o).toArray] w fun r w'=>r= .returned (.tuple #[.int .i64 ((x.th.word o).getD 0),.bool (x.th.word o).isSome])/\Below w.heap.size w w':=by
 obtain⟨kind,bD,ra,rb,rc,num⟩:=o;obtain⟨Ex,rfl⟩:∃q:Nat,rb=q:=⟨rb.toNat,by have:=ho.rb;simp only at this;omega⟩;obtain⟨EM,rfl⟩:∃q:Nat,ra=q:=⟨ra.toNat,by have:=ho.ra;simp only at this;omega⟩;have hB8:Ex<8:=by have:=ho.rb;simp only at this;omega
 have hA8:EM<8:=by have:=ho.ra;simp only at this;omega
 have yX:(Ex:Int)<8:=by omega
 have yT:(EM:Int)<8:=by omega
 obtain⟨w0,hw0⟩:∃w0,w0=w.alloc (.cells #[.int .u8 kind,.int .u8 bD,.int .u8 (EM:Int),.int .u8 (Ex:Int),.int .u8 rc,.int .i64 num] 107):=⟨_,rfl⟩;have hb0:Below w.heap.size w w0:=by rw[hw0];exact(au _ _).alloc (aB _) _
 have h0:=h.below hb0;have rA:w0.cell? ⟨tb,n*13+1+EM,none⟩=some (.int .i64 (x.th.reg EM)):=by rw[Nat.add_assoc];exact h0.cell hx _ _ (wL x EM hA8)
 have rB:w0.cell? ⟨tb,n*13+1+Ex,none⟩=some (.int .i64 (x.th.reg Ex)):=by rw[Nat.add_assoc];exact h0.cell hx _ _ (wL x Ex hB8)
 have gQ:=aj w (.cells #[.int .u8 kind,.int .u8 bD,.int .u8 (EM:Int),.int .u8 (Ex:Int),.int .u8 rc,.int .i64 num] 107);rw[<-hw0] at gQ;have d0:w0.cell? ⟨w.heap.size,0,none⟩=some (.int .u8 kind):=af gQ rfl;have d2:w0.cell? ⟨w.heap.size,2,none⟩=some (.int .u8 (EM:Int)):=af gQ rfl;have d3:w0.cell? ⟨w.heap.size,3,none⟩=some (.int .u8 (Ex:Int)):=af gQ rfl;have d5:w0.cell? ⟨w.heap.size,5,none⟩=some (.int .i64 num):=af gQ rfl;have HB:=ag hb0;have hkind:=ho.kind;simp only at hkind;clear h h0 hx ho gQ hb0;unfold b_;by_cases hk:kind=4\/kind=15
 ·have hw:x.th.word ⟨kind,bD,EM,Ex,rc,num⟩=some (fV (x.th.reg Ex+num)):=by unfold MT.word;rw[if_pos hk];rfl
  rw[hw];clear hw hkind;rcases hk with rfl|rfl;all_goals (
   go_in;go_wp2_with fail;simp only[<-hw0];clear hw0;try go_quiet (fail)
   go_wp2_with fail
   go_ret2
   refine⟨?_,(by first|exact HB.out|exact below_drewN HB.out _|exact HB.out.drew)⟩;first|rfl|simp[fV])
 ·by_cases hk2:kind=5\/kind=8\/kind=9
  ·have hw:x.th.word ⟨kind,bD,EM,Ex,rc,num⟩=some (fV (x.th.reg EM+num)):=by unfold MT.word;rw[if_neg hk,if_pos hk2];rfl
   rw[hw];clear hw hkind hk;rcases hk2 with rfl|rfl|rfl;all_goals (
    go_in;go_wp2_with fail;simp only[<-hw0];clear hw0;try go_quiet (fail)
    go_wp2_with fail
    go_ret2
    refine⟨?_,(by first|exact HB.out|exact below_drewN HB.out _|exact HB.out.drew)⟩;first|rfl|simp[fV])
  ·have hw:x.th.word ⟨kind,bD,EM,Ex,rc,num⟩=none:=by unfold MT.word;rw[if_neg hk,if_neg hk2]
   rw[hw];have k4:(kind==4)=false:=by rw[cz];omega
   have k15:(kind==15)=false:=by rw[cz];omega
   have k5:(kind==5)=false:=by rw[cz];omega
   have k8:(kind==8)=false:=by rw[cz];omega
   have k9:(kind==9)=false:=by rw[cz];omega
   clear hw hk hk2 hkind;go_in;go_wp2_with fail;simp only[<-hw0];clear hw0;go_wp2_with fail
   go_ret2
   exact⟨rfl,HB.out⟩
end
section
variable {w w':World} {base b:Nat} {own own':Nat->Nat} {mm:MM} {xs:List RX} {mv tv ev:Value} {tb cap n N:Nat} {x:RX}
theorem dJ.same (h:iI w base b own mm xs mv tv ev) (hb:Below w.heap.size w w'):dJ w base b own mm w':=⟨⟨own,xs,mv,tv,ev,h.below hb,fun _ _=>rfl⟩,bz.of_below hb⟩
theorem uy (h:iI w base b own mm xs mv tv ev):mm.aT.length=xs.length:=by rw[h.same];simp
theorem Gq (h:iI w base b own mm xs mv tv ev) {z:Int} (hz:z<0\/(xs.length:Int)<=z):mm.Cn z=none:=by
 unfold MM.Cn;split
 ·rfl
 ·rw[List.getElem?_eq_none_iff,uy h];omega
theorem xI (h:iI w base b own mm xs mv tv ev) (hx:xs[n]? =some x):mm.Cn (n:Int)=some x.th:=by
 unfold MM.Cn;rw[if_neg (by omega),Int.toNat_natCast];exact h.Bg hx
theorem JV (h:iI w base b own mm xs mv tv ev) {z:Int} (hz:z<0\/(xs.length:Int)<=z):
  Calls Tryz.prog 17 #[.pointer (some ⟨b,0,none⟩),.int .i64 z] w fun r w'=>r= .returned (.bool false)/\w'=w:=by
 obtain⟨ao,cp,rfl⟩:=aS h.aT;have c1:=h.iN 1 _ rfl;clear h;by_cases h0:z<0
 ·clear hz;go_in;go_wp2_with fail;go_ret;exact⟨rfl,rfl⟩
 ·have h1:z>=(xs.length:Int):=by omega
  clear hz;go_in;go_wp2_with fail;go_ret;exact⟨rfl,rfl⟩
theorem Ij (h:iI w base b own mm xs mv (.slice (some ⟨tb,0,none⟩) xs.length cap) ev) (hx:xs[n]? =some x) (h4:xs.length<=4) (hw:x.th.wait=[]):
  Calls Tryz.prog 17 #[.pointer (some ⟨b,0,none⟩),.int .i64 (n:Int)] w fun r w'=>r= .returned (.bool false)/\w'=w:=by
 have hn:n<xs.length:=(bu.1 hx).1;have c1:=h.iN 1 _ rfl;have c10:=h.cell hx 10 _ rfl;obtain⟨wo,wc,hwv⟩:=(h.th n x hx).wait.shape;rw[hwv,hw] at c10;simp only[List.length_nil] at c10;clear h hx;go_in;go_wp2_with fail;go_ret;exact⟨rfl,rfl⟩
theorem Jl (h:iI w base b own mm xs mv (.slice (some ⟨tb,0,none⟩) xs.length cap) ev) (hx:xs[n]? =some x) (h4:xs.length<=4) {a:Nat} {v:Int} {q:List (Int×Int)} (hw:x.th.wait=((a:Int),v)::q) (ha:a<mm.mem.length) (hl:mm.mem.length<=262144):
  Calls Tryz.prog 17 #[.pointer (some ⟨b,0,none⟩),.int .i64 (n:Int)] w fun r w'=>r= .returned (.bool true)/\dJ w base b own ({mm with mem:=mm.mem.set a v}.put n {x.th with wait:=q}) w':=by
 have hn:n<xs.length:=(bu.1 hx).1;obtain⟨mb,mc,rfl,hmb⟩:=h.qA (by omega);have c1:=h.iN 1 _ rfl;have c10:=h.cell hx 10 _ rfl;have hcut:=(h.th n x hx).wait;obtain⟨wo,wc,hwv⟩:=hcut.shape;rw[hwv,hw] at hcut c10;obtain⟨g,off,rfl,hcc⟩:=hcut.first;have k0:w.cell? ⟨g,off,none⟩=some (.int .i64 (a:Int)):=by have:=hcc 0 _ rfl;simpa using this
 have k1:w.cell? ⟨g,off+1,none⟩=some (.int .i64 v):=hcc 1 _ rfl;have hb0:Below w.heap.size w (w.alloc (.cells #[.int .i64 (a:Int),.int .i64 v] 99)):=(au _ _).alloc (aB _) _;have h0:=h.below hb0;have gQ:=aj w (.cells #[.int .i64 (a:Int),.int .i64 v] 99);have d0:(w.alloc (.cells #[.int .i64 (a:Int),.int .i64 v] 99)).cell? ⟨w.heap.size,0,none⟩=some (.int .i64 (a:Int)):=af gQ rfl;have d1:(w.alloc (.cells #[.int .i64 (a:Int),.int .i64 v] 99)).cell? ⟨w.heap.size,1,none⟩=some (.int .i64 v):=af gQ rfl;have c0:=h0.iN 0 _ rfl;obtain⟨M0,hM0⟩:∃M0,mm.mem.getD a 0=M0:=⟨_,rfl⟩;have cM:=h0.Be ha;rw[hM0] at cM;have fM:=h0.C_ (by omega:0<mm.mem.length) a;have HX:=ag hx;have H:=ag h;have H0:=ag h0;have HB:=ag hb0;have H3:=ag (h.fK tb rfl);have Gc:=ag hwv;have HWQ:=ag hw;have hq1:((q.length:Int)+1==0)=false:=by rw[cz];omega
 simp only[List.length_cons] at c10;clear h h0 hx hcut hcc hwv hw hb0 gQ hM0;go_in;go_wp2_with fail;generalize(w.alloc (.cells #[.int .i64 (a:Int),.int .i64 v] 99))=w0 at H0 HB d0 d1 c0 cM fM⊢;go_region;have h1:=(H0.out.word ha v).drew;have hcut:=(h1.th n x HX.out).wait;rw[Gc.out,HWQ.out] at hcut;have d10:=h1.cell HX.out 10 _ rfl;rw[Gc.out,HWQ.out] at d10;simp only[List.length_cons] at d10;have f10:=h1.free (by omega) (n*13+10);have Ls:=ag (bz.dY (S:=fun k=>own k≠0) (bz.of_below HB.out) (((bz.refl (fun k=>k=mb) w0).setCell (p:=⟨mb,a,none⟩) (.inl rfl) (.int .i64 v)).drew) (fun k _ e=>by rw[e];show own mb≠0;rw[hmb];decide));have H1:=ag h1;have Z7:=ag (show fu _ base 99 2 (.slice (some ⟨g,off,none⟩) (q.length+1) wc) (q.length+1) (dQ ((a:Int),v)++q.flatMap dQ) from hcut);clear h1 hcut d0 d1 c0 cM fM k0 k1 c1 c10;generalize(w0.setCell ⟨mb,a,none⟩ (.int .i64 v)).drew=w1 at H1 Ls Z7 d10 f10⊢;have hwc:q.length+1<=wc:=by
  rcases Z7.out.2 with⟨_,h0⟩|⟨g',off',cap',cur,hv,_,_,hc,_⟩
  ·omega
  ·simp only[Value.slice.injEq,true_and] at hv;omega
 have HT:=ag (Z7.out.tail (by decide));have hfin:∀nv:Value,nv=(.slice (if wc=1 then some ⟨g,off,none⟩ else(some (⟨g,off,none⟩:Addr)).map (·.add 2)) q.length (wc - 1))->
   dJ w base b own ({mm with mem:=mm.mem.set a v}.put n {x.th with wait:=q}) (w1.setCell ⟨tb,n*13+10,none⟩ nv):=by
  rintro nv rfl;have hd:(dQ ((a:Int),v)++q.flatMap dQ).drop 2=q.flatMap dQ:=rfl;have ht:=HT.out;rw[hd] at ht;have hne:∀k,(Value.slice (if wc=1 then some ⟨g,off,none⟩ else(some (⟨g,off,none⟩:Addr)).map (·.add 2)) q.length (wc - 1)).ownBlock=some k->x.wv.ownBlock=some k\/w1.heap.size<=k:=fun k hk=>by
   left
   rw[Gc.out];split at hk<;>simpa [Value.ownBlock,Addr.add] using hk
  have h2:=H1.out.waited HX.out q _ (bz.refl _ w1) ht hne;refine⟨⟨_,_,_,_,_,h2,fun k hk=>jk (Nat.lt_of_lt_of_le hk Ls.out.size)⟩,Ls.out.setCell (p:=⟨tb,n*13+10,none⟩) (.inl (by show own tb≠0;rw[H3.out];decide)) _⟩
 have acr:=ag hfin;clear hfin;by_cases h1:wc=1
 ·subst h1;go_wp2_with fail;go_ret;refine⟨rfl,acr.out _ ?_⟩;simp;try omega
 ·go_wp2_with fail;go_ret;refine⟨rfl,acr.out _ ?_⟩;simp[h1,Addr.add]
theorem LZ (h:iI w base b own mm xs mv tv ev) (hk:qz N mm) (z:Int):
  Calls Tryz.prog 17 #[.pointer (some ⟨b,0,none⟩),.int .i64 z] w fun r w'=>r= .returned (.bool (mm.flush z).1)/\dJ w base b own (mm.flush z).2 w':=by
 by_cases hz:0<=z/\z<(xs.length:Int)
 ·obtain⟨n,rfl⟩:∃n:Nat,z=(n:Int):=⟨z.toNat,by omega⟩;obtain⟨x,hx⟩:=bE (show n<xs.length by omega);obtain⟨tb,cap,rfl, -⟩:=h.yw hx;have h4:xs.length<=4:=by rw[<-uy h];exact hk.four
  have ht:=hk.th x.th (bC (h.Bg hx));cases hw:x.th.wait with
  |nil=>
   refine(Ij h hx h4 hw).mono ?_;rintro r w' ⟨rfl,rfl⟩;unfold MM.flush;rw[xI h hx];simp only[hw];exact⟨(by first|rfl|trivial),dJ.same h (au _ _)⟩
  |cons c q=>
   obtain⟨a,ha⟩:∃a:Nat,c.1=(a:Int):=⟨c.1.toNat,by have:=(ht.wait c (by rw[hw];simp)).1;omega⟩;have hc:=(ht.wait c (by rw[hw];simp)).2;refine(Jl h hx h4 (a:=a) (v:=c.2) (q:=q) (by rw[hw,<-ha]) (by omega) hk.mem.2).mono ?_;rintro r w' ⟨rfl,hg⟩;unfold MM.flush;rw[xI h hx];simp only[hw];rw[ha,Int.toNat_natCast,Int.toNat_natCast];exact⟨(by first|rfl|trivial),hg⟩
 ·refine(JV h (by omega)).mono ?_;rintro r w' ⟨rfl,rfl⟩;unfold MM.flush;rw[Gq h (by omega)];exact⟨(by first|rfl|trivial),dJ.same h (au _ _)⟩
end
theorem vB (w:World) (x:Bool):Calls Tryz.prog 160 #[.bool x] w fun r w'=>r= .returned (.int .i64 (wQ x))/\w'=w:=by
 cases x with
 |true=>
  go_in;go_wp2_with fail;go_ret;exact⟨rfl,rfl⟩
 |false=>
  go_in;go_wp2_with fail;go_ret;exact⟨rfl,rfl⟩
theorem wI (x:Int):IntKind.u64.wrap x=x%18446744073709551616:=by
 have h1:IntKind.u64.signed=false:=rfl;have h2:IntKind.u64.bits=64:=rfl;unfold IntKind.wrap;simp only[h1,h2];simp
theorem zX (x:Int):wrap64 (IntKind.u64.wrap x)=wrap64 x:=by
 rw[wI];unfold wrap64;omega
theorem uN {x y:Int} (h:x%18446744073709551616=y%18446744073709551616):wrap64 x=wrap64 y:=by
 unfold wrap64;omega
theorem Y5 (a b:Int):wrap64 (IntKind.u64.wrap (IntKind.u64.wrap a+IntKind.u64.wrap b))=wrap64 (a+b):=by
 rw[zX,wI,wI];exact uN (by rw[<-Int.add_emod])
theorem Yp (a b:Int):wrap64 (IntKind.u64.wrap (IntKind.u64.wrap a - IntKind.u64.wrap b))=wrap64 (a - b):=by
 rw[zX,wI,wI];exact uN (by rw[<-Int.sub_emod])
theorem Yo (a b:Int):wrap64 (IntKind.u64.wrap (IntKind.u64.wrap a*IntKind.u64.wrap b))=wrap64 (a*b):=by
 rw[zX,wI,wI];exact uN (by rw[<-Int.mul_emod])
theorem Y4 (a c:Int):wrap64 (IntKind.u64.wrap (IntKind.u64.wrap a*c))=wrap64 (a*c):=by
 rw[zX,wI];exact uN (by rw[Int.mul_emod,Int.emod_emod_of_dvd _ (Int.dvd_refl _),<-Int.mul_emod])
theorem UD (w:World) (a b:Int):Calls Tryz.prog 111 #[.int .u8 6,.int .i64 a,.int .i64 b] w (dL 6 a b w):=by
 go_in;go_wp2_with fail
 go_ret2
 exact .some rfl rfl rfl
theorem TC (w:World) (a b:Int):Calls Tryz.prog 111 #[.int .u8 7,.int .i64 a,.int .i64 b] w (dL 7 a b w):=by
 go_in;go_wp2_with fail
 go_ret2
 exact .some rfl rfl rfl
theorem UO (w:World) (a b:Int):Calls Tryz.prog 111 #[.int .u8 8,.int .i64 a,.int .i64 b] w (dL 8 a b w):=by
 go_in;go_wp2_with fail
 go_ret2
 exact .some rfl rfl rfl
theorem QL (w:World) (a b:Int):Calls Tryz.prog 111 #[.int .u8 10,.int .i64 a,.int .i64 b] w (dL 10 a b w):=by
 go_in;go_wp2_with fail
 go_ret2
 exact .some rfl rfl rfl
theorem TU (w:World) (a b:Int):Calls Tryz.prog 111 #[.int .u8 9,.int .i64 a,.int .i64 b] w (dL 9 a b w):=by
 go_in;go_wp2_with fail
 go_ret2
 refine .some (v:=fV (a*2 ^ min (IntKind.u64.wrap (bits BinOp.and IntKind.i64 b 63)).toNat 64)) rfl ?_ rfl;simp only[Y4];rfl
theorem RG (w:World) (a b:Int):Calls Tryz.prog 111 #[.int .u8 11,.int .i64 a,.int .i64 b] w (dL 11 a b w):=by
 go_in;go_wp2_with fail;refine(vB w _).mono ?_;rintro r w1 ⟨rfl,rfl⟩;go_wp2_with fail
 go_ret2
 exact .some rfl rfl rfl
theorem RP (w:World) (a b:Int):Calls Tryz.prog 111 #[.int .u8 12,.int .i64 a,.int .i64 b] w (dL 12 a b w):=by
 go_in;go_wp2_with fail;refine(vB w _).mono ?_;rintro r w1 ⟨rfl,rfl⟩;go_wp2_with fail
 go_ret2
 exact .some rfl rfl rfl
theorem RZ (w:World) (a b:Int):Calls Tryz.prog 111 #[.int .u8 13,.int .i64 a,.int .i64 b] w (dL 13 a b w):=by
 go_in;go_wp2_with fail;refine(vB w _).mono ?_;rintro r w1 ⟨rfl,rfl⟩;go_wp2_with fail
 go_ret2
 exact .some rfl rfl rfl
theorem Py (w:World) (a b:Int):Calls Tryz.prog 111 #[.int .u8 14,.int .i64 a,.int .i64 b] w (dL 14 a b w):=by
 go_in;go_wp2_with fail;refine(vB w _).mono ?_;rintro r w1 ⟨rfl,rfl⟩;go_wp2_with fail
 go_ret2
 exact .some rfl rfl rfl
theorem QY (w:World) (c a b:Int) (h:¬(1<=c/\c<=14)):Calls Tryz.prog 111 #[.int .u8 c,.int .i64 a,.int .i64 b] w (dL c a b w):=by
 have k1:(c==1)=false:=by rw[cz];omega
 have k2:(c==2)=false:=by rw[cz];omega
 have k3:(c==3)=false:=by rw[cz];omega
 have k4:(c==4)=false:=by rw[cz];omega
 have k5:(c==5)=false:=by rw[cz];omega
 have k6:(c==6)=false:=by rw[cz];omega
 have k7:(c==7)=false:=by rw[cz];omega
 have k8:(c==8)=false:=by rw[cz];omega
 have k9:(c==9)=false:=by rw[cz];omega
 have k10:(c==10)=false:=by rw[cz];omega
 have k11:(c==11)=false:=by rw[cz];omega
 have k12:(c==12)=false:=by rw[cz];omega
 have k13:(c==13)=false:=by rw[cz];omega
 have k14:(c==14)=false:=by rw[cz];omega
 have hn:gX c a b=none:=by
  unfold gX;rw[if_neg (by omega),if_neg (by omega),if_neg (by omega),if_neg (by omega),if_neg (by omega),if_neg (by omega),if_neg (by omega),if_neg (by omega),if_neg (by omega),if_neg (by omega),if_neg (by omega),if_neg (by omega),if_neg (by omega),if_neg (by omega)]
 clear h;go_in;go_wp2_with fail
 go_ret2
 exact .none hn (by rw[if_neg (by rw[cz] at k4 k5;omega)];rfl) rfl
theorem LK (w:World) (c a b:Int) (h:¬(1<=c/\c<=5)):Calls Tryz.prog 111 #[.int .u8 c,.int .i64 a,.int .i64 b] w (dL c a b w):=by
 by_cases h':6<=c/\c<=14
 ·rcases(by omega:c=6\/c=7\/c=8\/c=9\/c=10\/c=11\/c=12\/c=13\/c=14) with rfl|rfl|rfl|rfl|rfl|rfl|rfl|rfl|rfl
  ·exact UD w a b
  ·exact TC w a b
  ·exact UO w a b
  ·exact TU w a b
  ·exact QL w a b
  ·exact RG w a b
  ·exact RP w a b
  ·exact RZ w a b
  ·exact Py w a b
 ·exact QY w c a b (by omega)
theorem acy (w:World) (a b:Int):Calls Tryz.prog 72 #[.int .u8 1,.int .i64 a,.int .i64 b] w (dL 1 a b w):=by
 go_in;go_wp2_with fail
 go_ret2
 refine .some (v:=fV (a+b)) rfl ?_ rfl;simp only[Y5];rfl
theorem acu (w:World) (a b:Int):Calls Tryz.prog 72 #[.int .u8 2,.int .i64 a,.int .i64 b] w (dL 2 a b w):=by
 go_in;go_wp2_with fail
 go_ret2
 refine .some (v:=fV (a - b)) rfl ?_ rfl;simp only[Yp];rfl
theorem adn (w:World) (a b:Int):Calls Tryz.prog 72 #[.int .u8 3,.int .i64 a,.int .i64 b] w (dL 3 a b w):=by
 go_in;go_wp2_with fail
 go_ret2
 refine .some (v:=fV (a*b)) rfl ?_ rfl;simp only[Yo];rfl
theorem aec (w:World) (a b:Int) (h:b≠0):Calls Tryz.prog 72 #[.int .u8 4,.int .i64 a,.int .i64 b] w (dL 4 a b w):=by
 have hb:(b==0)=false:=by rw[cz];exact h
 by_cases ha:a= -9223372036854775808
 ·subst ha;by_cases h1:b= -1
  ·subst h1;clear h hb;go_in;go_wp2_with fail
   go_ret2
   exact .some (by decide+kernel) rfl rfl
  ·have h2:(b== -1)=false:=by rw[cz];exact h1
   go_in;go_wp2_with fail
   go_ret2
   refine .some ?_ rfl rfl;unfold gX;simp[h,fV,IntWalk.i64_left]
 ·have h2:(a== -9223372036854775808)=false:=by rw[cz];exact ha
  go_in;go_wp2_with fail
  go_ret2
  refine .some ?_ rfl rfl;unfold gX;simp[h,fV,IntWalk.i64_left]
theorem ZW (w:World) (a b:Int) (h:b=0):Calls Tryz.prog 72 #[.int .u8 4,.int .i64 a,.int .i64 b] w (dL 4 a b w):=by
 subst h;go_in;go_wp2_with fail
 go_ret2
 exact .none rfl rfl rfl
theorem adD (w:World) (a b:Int) (h:b≠0):Calls Tryz.prog 72 #[.int .u8 5,.int .i64 a,.int .i64 b] w (dL 5 a b w):=by
 have hb:(b==0)=false:=by rw[cz];exact h
 by_cases ha:a= -9223372036854775808
 ·subst ha;by_cases h1:b= -1
  ·subst h1;clear h hb;go_in;go_wp2_with fail
   go_ret2
   exact .some (by decide+kernel) rfl rfl
  ·have h2:(b== -1)=false:=by rw[cz];exact h1
   go_in;go_wp2_with fail
   go_ret2
   refine .some ?_ rfl rfl;unfold gX;simp[h,fV,IntWalk.i64_left];exact Int.tmod_eq_emod_of_nonneg (by decide)
 ·have h2:(a== -9223372036854775808)=false:=by rw[cz];exact ha
  go_in;go_wp2_with fail
  go_ret2
  refine .some ?_ rfl rfl;unfold gX;simp[h,fV,IntWalk.i64_left]
theorem abV (w:World) (a b:Int) (h:b=0):Calls Tryz.prog 72 #[.int .u8 5,.int .i64 a,.int .i64 b] w (dL 5 a b w):=by
 subst h;go_in;go_wp2_with fail
 go_ret2
 exact .none rfl rfl rfl
theorem TN (w:World) (c a b:Int) (h:¬(1<=c/\c<=5)):Calls Tryz.prog 72 #[.int .u8 c,.int .i64 a,.int .i64 b] w (dL c a b w):=by
 have k1:(c==1)=false:=by rw[cz];omega
 have k2:(c==2)=false:=by rw[cz];omega
 have k3:(c==3)=false:=by rw[cz];omega
 have k4:(c==4)=false:=by rw[cz];omega
 have k5:(c==5)=false:=by rw[cz];omega
 go_in;go_wp2_with fail;refine(LK w c a b h).mono ?_;rintro r w1 ⟨rfl,rfl⟩;go_wp2_with fail
 go_ret2
 exact⟨rfl,rfl⟩
theorem W_ (w:World) (c a b:Int):Calls Tryz.prog 72 #[.int .u8 c,.int .i64 a,.int .i64 b] w (dL c a b w):=by
 by_cases h:1<=c/\c<=5
 ·rcases(by omega:c=1\/c=2\/c=3\/c=4\/c=5) with rfl|rfl|rfl|rfl|rfl
  ·exact acy w a b
  ·exact acu w a b
  ·exact adn w a b
  ·by_cases hb:b=0
   ·exact ZW w a b hb
   ·exact aec w a b hb
  ·by_cases hb:b=0
   ·exact abV w a b hb
   ·exact adD w a b hb
 ·exact TN w c a b h
end Go.Proofs.YtopdcjimpdalpaaGreat

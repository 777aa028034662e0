import Derived.Test.YtopdcjimpdalpaaGreatP45
namespace Go.Proofs.YtopdcjimpdalpaaGreat
set_option linter.all false
variable {evs:List Ev} {s:HS} {cw:List bJ} {W:Int} {m:Nat} {ps:List (bJ×Value)}
theorem d_.Pm (h:d_ evs s cw W m):s.aU.length+iV s.aU<=evs.length:=by
 have:=YQ evs yV.init h.eF;simpa [HS.init,iV] using this
theorem d_.fine (h:d_ evs s cw W m) (hm:m<=262144) (hl:evs.length<=1048576):∀a∈s.aU,xm a:=fun a ha=>by
 have ok:=h.nY a ha;obtain⟨j,hj⟩:=List.getElem?_of_mem ha;obtain⟨a1,a2,a3,a4,a5,a6⟩:=h.hok.nY j a hj;have hs:a.done.length<=evs.length:=by
  obtain⟨l1,l2,e⟩:=List.append_of_mem ha;have:=h.Pm;rw[e,rM,xA] at this;omega
 refine⟨⟨a1,a2⟩,?_,a3,ok.u7,ok.plain,fun e he=>?_,by omega⟩
 ·rcases a6 with⟨q1,q2, -⟩|⟨q1,q2,q3⟩
  ·exact .inl ⟨q2,q1⟩
  ·exact .inr ⟨by rcases ok.kind with e|e;exact absurd e q3;exact e,q1⟩
 ·obtain⟨e1,e2,e3⟩:=ok.evs e he;exact⟨a5 e he,by omega,by omega,e1⟩
structure ZA (ps:List (bJ×Value)):Prop where
 fine:∀p∈ps,xm p.1
 inc:∀(j:Nat) a b,ps[j]? =some a->ps[j+1]? =some b->a.1.dN<b.1.dN
 len:ps.length<=1048576
 sum:ps.length+vD ps<=1048576
 ser:SY (ps.map Prod.fst)
 snap:LM (ps.map Prod.fst)
theorem d_.got (h:d_ evs s cw W m) (hm:m<=262144) (hl:evs.length<=1048576) (he:ps.map Prod.fst=s.aU):ZA ps:=by
 have hmem:∀p∈ps,p.1∈s.aU:=fun p hp=>by rw[<-he];exact List.mem_map_of_mem hp
 have hat:∀(j:Nat) p,ps[j]? =some p->s.aU[j]? =some p.1:=fun j p hp=>by rw[<-he,List.getElem?_map,hp];rfl
 have hlen:ps.length=s.aU.length:=by rw[<-he,List.length_map]
 have hd:vD ps=iV s.aU:=by rw[<-he];unfold iV vD;rw[List.map_map];rfl
 have h1:=h.Pm;refine⟨fun p hp=>h.fine hm hl _ (hmem p hp),fun j a b ha hb=>(h.hok.order j (j+1) _ _ (by omega) (hat j a ha) (hat (j+1) b hb)).1,by omega,by omega,?_,?_⟩
 ·rw[he];exact h.ad5 (by omega)
 ·rw[he];exact h.aaH
theorem BB.got {words:Int} {ts:xJ} {sc:List dB} (h:BB words ts sc) {s:HS} (hs:jK (vF words ts sc).1.evs 0 HS.init= .inl s) (he:ps.map Prod.fst=s.aU):ZA ps:=by
 obtain⟨⟨m,ks,s',cw,h1,h2,h3, -, -⟩,h5⟩:=h.stands;have h4:=h3.eF;rw[<-h1.evs] at h4;have e:s'=s:=by
  have:=h4.eF;rw[hs] at this;exact(Sum.inl.inj this).symm
 subst e;obtain⟨w0,hsz,hle, -⟩:=IC h.plan;exact h4.got (by omega) h5 he
end Go.Proofs.YtopdcjimpdalpaaGreat

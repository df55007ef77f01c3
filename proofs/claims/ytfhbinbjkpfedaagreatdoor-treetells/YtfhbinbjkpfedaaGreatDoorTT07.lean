/-
  Programs in old memory. No condition.
-/
import Derived.Test.YtfhbinbjkpfedaaGreatDoorTT06
set_option linter.unusedVariables false
set_option linter.unusedSimpArgs false
namespace Go.Proofs.YtfhbinbjkpfedaaGreatDoor
open Go.RowKit
set_option maxHeartbeats 20000000
set_option maxRecDepth 100000
theorem fus_of {D:Nat→Prop}{w:World}{base:Nat}{ps:List FuV}{v:Value}(h:w.ownsRow base 47 4 v ps.length (ps.flatMap Bq))(hD:∀k,v.ownBlock=some k→D k)(hp:∀p,p∈ps→Ct D w p)(hf:Ci ps.length):Bk D w (ps.map (·.x)) v:=by
 have hl:(ps.map (·.x)).length=ps.length:=List.length_map _;rcases h.2 with⟨rfl,hz⟩|⟨g,cap,cur,rfl,hb,hg,hc,hm,hs,ht⟩
 ·have:ps=[]:=List.length_eq_zero_iff.1 hz
  subst this;exact Bk.zero
 ·let z:FuV:=⟨Fu.nil,undef,undef,undef⟩
  refine⟨some ⟨g,0,none⟩,cap,g,0,(fun i=>(ps.getD i z).p),(fun i=>(ps.getD i z).l),(fun i=>(ps.getD i z).b),by rw[hl],by rw[hl];exact hc,by rw[hl];exact hf,.inr ⟨rfl,hD g rfl⟩,fun i hi=>?_⟩;rw[hl]at hi;obtain⟨p,hp1,hx,hm⟩:∃p,ps[i]? =some p∧Bc (ps.map (·.x)) i=p.x∧p∈ps:=⟨ps[i],List.getElem?_eq_getElem hi,by simp [Bc,List.getElem?_eq_getElem hi],List.getElem_mem hi⟩;have sv:ps.getD i z=p:=by rw[List.getD_eq_getElem?_getD,hp1];rfl
  rw[hx];dsimp only;rw[sv];have cell:∀q u,q<4→(Bq p)[q]? =some u→w.cell? ⟨g,0+i*4+q,none⟩=some u:=by
   intro q u hq hu;have h1:=Es h (i*4+q) u (by rw[Ia Bq 4 (fun _=>rfl) ps i q p hp1 hq];exact hu)
   rwa[show 0+(i*4+q)=0+i*4+q by omega]at h1
  obtain⟨h1,h2,ls,h3,h4,h5⟩:=hp p hm;have h6:=h5.sts (show ls.length≤140737488355328 by omega);rw[h3]at h6;exact⟨⟨cell 0 _ (by decide) rfl,cell 1 _ (by decide) rfl,cell 2 _ (by decide) rfl,cell 3 _ (by decide) rfl⟩,h1,h2,h6⟩
structure Wi (w:World)(p:Pr)(n:Nat)(va vf:Value)(ds:List FuV):Prop where
 ars:Bp (· <n) w p.arrays va
 own:w.ownsRow 0 47 4 vf ds.length (ds.flatMap Bq)
 eq:ds.map (·.x)=p.funcs
 len:ds.length≤3
 lt:∀q,q∈ds→Ct (fun b=>b<n∧vf.ownBlock≠some b) w q
 row:∀k,vf.ownBlock=some k→k<n
theorem Wi.fus {w:World}{p:Pr}{n:Nat}{va vf:Value}{ds:List FuV}(h:Wi w p n va vf ds):Bk (· <n) w p.funcs vf:=by
 have q:=fus_of h.own h.row (fun q hq=>(h.lt q hq).mono (fun b hb _=>hb.1)) (show ds.length≤140737488355328 by have:=h.len;omega)
 rwa[h.eq]at q
theorem Wi.of {w w':World}{p:Pr}{va vf:Value}{ds:List FuV}(ha:Bp (w.heap.size≤ ·) w' p.arrays va)(hds:ds.map (·.x)=p.funcs)(hl:ds.length≤3)(hf:Dg w' w.heap.size ds vf):Wi w' p w'.heap.size va vf ds:=
 ⟨ha.strong.mono (fun b hb=>hb.2),Ie hf.1 (fun _ _=>Nat.zero_le _),hds,hl,fun q hq=>(hf.2 q hq).mono (fun b hb hl=>⟨hl,hb.2⟩),fun k e=>(hf.ge e).2⟩
end Go.Proofs.YtfhbinbjkpfedaaGreatDoor

/-
  A list of statements that is being appended to: its own block. No condition.
-/
import Derived.Test.YtcfpfnoldgnloaaGreatDoorPb00
import Derived.Deep.AppendLies
set_option linter.unusedVariables false
set_option linter.unusedSimpArgs false
namespace Go.Proofs.YtcfpfnoldgnloaaGreatDoor
open Go.RowKit
set_option maxHeartbeats 20000000
set_option maxRecDepth 100000
open World renaming cell?_of_block→Za,block_lt_of_cell?→Zb
open Below renaming heap_setCell→Zc
open List renaming flatMap_cons→Zd,getElem?_eq_getElem→Ze
structure SFr (s:Nat)(w w':World):Prop where
 os:w'.os=w.os
 tape:w'.tape=w.tape
 output:w'.output=w.output
 size:w.heap.size≤w'.heap.size
 block:∀k,k<w.heap.size→k≠s→w'.heap[k]? =w.heap[k]?
theorem SFr.refl(s:Nat)(w:World):SFr s w w:=⟨rfl,rfl,rfl,Nat.le_refl _,fun _ _ _=>rfl⟩
theorem SFr.trans {s:Nat}{u v w:World}(h:SFr s u v)(k:SFr s v w):SFr s u w:=
 ⟨k.os.trans h.os,k.tape.trans h.tape,k.output.trans h.output,Nat.le_trans h.size k.size,fun i hi hb=>(k.block i (Nat.lt_of_lt_of_le hi h.size) hb).trans (h.block i hi hb)⟩
theorem SFr.of_below {s:Nat}{w w':World}(h:Below w.heap.size w w'):SFr s w w':=⟨h.os,h.tape,h.output,h.size,fun k hk _=>h.block k hk⟩
theorem SFr.below {s:Nat}{w w':World}(h:SFr s w w')(hs:s≤w.heap.size):Below s w w':=
 ⟨h.os,h.tape,h.output,h.size,fun k hk=>h.block k (by omega) (by omega)⟩
theorem SFr.cell {s:Nat}{w w':World}(h:SFr s w w'){b off:Nat}{x:Value}(hb:b≠s)(hx:w.cell? ⟨b,off,none⟩=some x):w'.cell? ⟨b,off,none⟩=some x:=by
 rw[Za (w:=w) (h.block b (Zb _ _ hx) hb)];exact hx
theorem SFr.keeps {s:Nat}{w w':World}(h:SFr s w w'):Ed (· ≠s) w w':=fun _ _ _ hD hx=>h.cell hD hx
theorem SFr.keepsD {s:Nat}{w w':World}(h:SFr s w w'){D:Nat→Prop}(hD:∀b,D b→b≠s):Ed D w w':=fun _ _ _ hd hx=>h.cell (hD _ hd) hx
theorem SFr.drewN {s n:Nat}{w w1:World}(h:SFr s w w1):SFr s w (w1.drewN n):=⟨h.os,h.tape,h.output,h.size,h.block⟩
def Ae(w:World)(b:Nat)(cs:List Value)(T:TypeId):Prop:=w.heap[b]? =some (.cells cs.toArray T (0,0))
theorem Ae.new(w:World)(cs:List Value)(T:TypeId):Ae (w.alloc (.cells cs.toArray T)) w.heap.size cs T:=Array.getElem?_push_size
theorem Ae.lt {w:World}{b:Nat}{cs:List Value}{T:TypeId}(h:Ae w b cs T):b<w.heap.size:=by
 rcases Nat.lt_or_ge b w.heap.size with h'|h'
 ·exact h'
 ·unfold Ae at h;simp [Array.getElem?_eq_none h']at h
theorem Ae.at {w:World}{b:Nat}{cs:List Value}{T:TypeId}(h:Ae w b cs T)(i:Nat)(v:Value)(hi:cs[i]? =some v):w.cell? ⟨b,i,none⟩=some v:=by
 rw[Lib.cell_of_heap h];simpa using hi
theorem Ae.fz {w:World}{b:Nat}{cs:List Value}{T:TypeId}(h:Ae w b cs T)(i:Nat):w.frozen? ⟨b,i,none⟩=false:=Lib.frozen_of_heap h i
theorem Ae.old {w w':World}{b:Nat}{cs:List Value}{T:TypeId}(h:Ae w b cs T)(hb:Below w.heap.size w w'):Ae w' b cs T:=(hb.block b h.lt).trans h
theorem Ae.alloc {w:World}{b:Nat}{cs:List Value}{T:TypeId}(h:Ae w b cs T)(o:Obj):Ae (w.alloc o) b cs T:=h.old (bA)
theorem Ae.sfr {s:Nat}{w w':World}{b:Nat}{cs:List Value}{T:TypeId}(h:Ae w b cs T)(hf:SFr s w w')(hb:b≠s):Ae w' b cs T:=(hf.block b h.lt hb).trans h
theorem Ae.set {w:World}{b:Nat}{cs:List Value}{T:TypeId}(h:Ae w b cs T)(i:Nat)(v:Value):Ae (w.setCell ⟨b,i,none⟩ v) b (cs.set i v) T:=by
 unfold Ae at*;simp [World.setCell,Array.getElem?_modify,h]
theorem Ae.other {w:World}{b:Nat}{cs:List Value}{T:TypeId}(h:Ae w b cs T){k:Nat}(hk:b≠k)(i:Nat)(v:Value):Ae (w.setCell ⟨k,i,none⟩ v) b cs T:=by
 unfold Ae at*;rw[Zc _ _ _ _ hk];exact h
theorem Ai {D:Nat→Prop}(w:World){k:Nat}(hD:¬D k)(i:Nat)(v:Value):Ed D w (w.setCell ⟨k,i,none⟩ v):=fun b off x hb hx=>by
 rw[Za (w:=w) (Zc _ _ _ _ (by rintro rfl;exact hD hb))];exact hx
theorem Ve(w:World){b c i j:Nat}{v:Value}(h:c≠b):(w.setCell ⟨b,i,none⟩ v).cell? ⟨c,j,none⟩=w.cell? ⟨c,j,none⟩:=
 Za (w:=w) (Zc _ _ _ _ h)
theorem SFr.setNew {s:Nat}{w w1:World}(h:SFr s w w1){b:Nat}(hb:w.heap.size≤b)(i:Nat)(v:Value):SFr s w (w1.setCell ⟨b,i,none⟩ v):=
 ⟨h.os,h.tape,h.output,by simpa [World.setCell]using h.size,fun k hk hs=>(Zc _ _ _ _ (by show k≠b;omega)).trans (h.block k hk hs)⟩
theorem Qu {D D':Nat→Prop}{w w':World}(h:Ed D' w w')(hD:∀b,D b→D' b):Ed D w w':=fun b off x hb hx=>h b off x (hD b hb) hx
theorem SFr.fresh {s:Nat}{w w':World}(h:SFr s w w'){B:Nat}(hB:s<B):Ed (B≤ ·) w w':=h.keepsD (fun b hb=>by show b≠s;have:B≤b:=hb;omega)
theorem Bi(w:World){B k:Nat}(hk:k<B)(i:Nat)(v:Value):Ed (B≤ ·) w (w.setCell ⟨k,i,none⟩ v):=Ai w (by omega) i v
theorem Ag.strong {D:Nat→Prop}{w:World}{l:List Ex}{v:Value}(h:Ag D w l v):Ag (fun b=>D b∧b<w.heap.size) w l v:=by
 induction h with
 |mk l a cap b off sv hcap hfit ha h0 h1 h2 h3 h4 _ hn ih=>
  refine .mk l a cap b off sv hcap hfit ?_ h0 h1 h2 h3 h4 ih hn;rcases ha with ha|⟨ha,hD⟩
  ·exact .inl ha
  ·rcases Nat.eq_zero_or_pos l.length with hz|hz
   ·exact .inl hz
   ·exact .inr ⟨ha,hD,Zb _ _ (h0 0 hz)⟩
def Ej(ps:List (Ex ×Value)):List Value:=ps.flatMap fun p=>Bg p.1 p.2
theorem Rd:∀ps,(Ej ps).length=ps.length*5
 |[]=>rfl
 |p::ps=>by
  have:=Rd ps;unfold Ej at*;simp only[Zd,List.length_append,List.length_cons];rw[this];simp [Bg];omega
theorem bX:∀(ps:List (Ex ×Value)) (i q:Nat) (p:Ex ×Value),ps[i]? =some p→q<5→(Ej ps)[i*5+q]? =(Bg p.1 p.2)[q]?
 |[],i,q,p,h,_=>by simp at h
 |x::ps,0,q,p,h,hq=>by
  simp at h;subst h;unfold Ej;rw[Zd,List.getElem?_append_left (by simp [Bg];omega)];simp
 |x::ps,i+1,q,p,h,hq=>by
  simp at h;have:=bX ps i q p h hq;unfold Ej at*;rw[Zd,List.getElem?_append_right (by simp [Bg];omega)];rw[←this];congr 1;simp [Bg];omega
theorem Qv(a c:List (Ex ×Value)):Ej (a++c)=Ej a++Ej c:=by unfold Ej;rw[List.flatMap_append]
def Cb(w:World)(base:Nat)(ps:List (Ex ×Value))(v:Value):Prop:=
 w.ownsRow base 27 5 v ps.length (Ej ps)∧∀p,p∈ps→Ag (fun b=>base≤b∧v.ownBlock≠some b) w p.1.args p.2∧I64 p.1.n
theorem Cb.zero(w:World)(base:Nat):Cb w base [] (.slice none 0 0):=⟨⟨rfl,.inl ⟨rfl,rfl⟩⟩,fun p hp=>by cases hp⟩
theorem Cb.keep {w w':World}{base:Nat}{ps:List (Ex ×Value)}{v:Value}(h:Cb w base ps v)(hk:∀k,k<w.heap.size→base≤k→w'.heap[k]? =w.heap[k]?):Cb w' base ps v:=by
 refine⟨⟨h.1.1,?_⟩,fun p hp=>⟨(h.2 p hp).1.keep (fun b off x hb hx=>by rw[Za (w:=w) (hk b (Zb _ _ hx) hb.1)];exact hx),(h.2 p hp).2⟩⟩;rcases h.1.2 with hn|⟨g,cap,cur,rfl,hb,hg,r⟩
 ·exact .inl hn
 ·refine .inr ⟨g,cap,cur,rfl,hb,?_,r⟩
  rw[hk g (by
   rcases Nat.lt_or_ge g w.heap.size with h'|h'
   ·exact h'
   ·simp [Array.getElem?_eq_none h']at hg) hb]
  exact hg
theorem Cb.exs {w:World}{base:Nat}{ps:List (Ex ×Value)}{v:Value}(h:Cb w base ps v)(hf:Ct ps.length):Ag (base≤ ·) w (ps.map (·.1)) v:=by
 have hl:(ps.map (·.1)).length=ps.length:=List.length_map _;rcases h.1.2 with⟨rfl,h0⟩|⟨g,cap,cur,rfl,hb,hg,hc,hm,hs,ht⟩
 ·have:ps=[]:=List.length_eq_zero_iff.1 h0
  subst this;exact Ag.zero
 ·have cell:∀i q p u,ps[i]? =some p→q<5→(Bg p.1 p.2)[q]? =some u→w.cell? ⟨g,0+i*5+q,none⟩=some u:=by
   intro i q p u hp hq hu;have h1:=h.1.cells (g:=g) rfl (i*5+q) u (by rw[bX ps i q p hp hq];exact hu);have h2:(⟨g,0,none⟩:Addr).add (i*5+q)=⟨g,0+i*5+q,none⟩:=by unfold Addr.add;split<;>simp_all<;>omega
   rwa[h2]at h1
  have get:∀i,i<(ps.map (·.1)).length→∃p,ps[i]? =some p∧Bx (ps.map (·.1)) i=p.1∧p∈ps:=by
   intro i hi;rw[hl]at hi;refine⟨ps[i],Ze hi,?_,List.getElem_mem hi⟩;simp [Bx,Ze hi]
  have e:=Ag.mk (D:=(base≤ ·)) (w:=w) (ps.map (·.1)) (some ⟨g,0,none⟩) cap g 0 (fun i=>(ps.getD i (Ex.nil,undef)).2) (by rw[hl];exact hc) (by rw[hl];exact hf) (.inr ⟨rfl,hb⟩);rw[hl]at e;have sv:∀i p,ps[i]? =some p→(ps.getD i (Ex.nil,undef)).2=p.2:=fun i p hp=>by rw[List.getD_eq_getElem?_getD,hp];rfl
  have gp:∀i,i<ps.length→∃p,ps[i]? =some p∧Bx (ps.map (·.1)) i=p.1∧p∈ps:=fun i hi=>get i (by rw[hl];exact hi)
  refine e (fun i hi=>?_) (fun i hi=>?_) (fun i hi=>?_) (fun i hi=>?_) (fun i hi=>?_) (fun i hi=>?_) (fun i hi=>?_)
  all_goals
   obtain⟨p,hp,hx,hm⟩:=gp i hi
   try rw[hx]
   try rw[sv i p hp]
  ·exact cell i 0 p _ hp (by omega) rfl
  ·exact cell i 1 p _ hp (by omega) rfl
  ·exact cell i 2 p _ hp (by omega) rfl
  ·exact cell i 3 p _ hp (by omega) rfl
  ·exact cell i 4 p _ hp (by omega) rfl
  ·exact(h.2 p hm).1.mono (fun b hb=>hb.1)
  ·exact(h.2 p hm).2
theorem Cb.snoc {w w':World}{base:Nat}{ps:List (Ex ×Value)}{v:Value}(h:Cb w base ps v)(x:Ex)(xv:Value)(hx:Ag (fun b=>base≤b∧v.ownBlock≠some b) w x.args xv)(hn:I64 x.n){g cap:Nat}
  (hown:w'.ownsRow base 27 5 (.slice (some ⟨g,0,none⟩) (ps.length+1) cap) (ps.length+1) (Ej ps++Bg x xv)) (hgrow:w.grownBy w' v.ownBlock) (hg:v.ownBlock=some g∨g=w.heap.size):
  Cb w' base (ps++[(x,xv)]) (.slice (some ⟨g,0,none⟩) (ps.length+1) cap):=by
 have hl:(ps++[(x,xv)]).length=ps.length+1:=by simp
 have hfl:Ej (ps++[(x,xv)])=Ej ps++Bg x xv:=by rw[Qv];simp [Ej]
 have keep:∀(l:List Ex) (u:Value),Ag (fun b=>base≤b∧v.ownBlock≠some b) w l u→Ag (fun b=>base≤b∧(Value.slice (some ⟨g,0,none⟩) (ps.length+1) cap).ownBlock≠some b) w' l u:=by
  intro l u hu;have h1:Ag (fun b=>(base≤b∧v.ownBlock≠some b)∧b<w.heap.size) w l u:=hu.strong;have h2:Ag (fun b=>(base≤b∧v.ownBlock≠some b)∧b<w.heap.size) w' l u:=h1.keep (fun b off y hb hy=>hgrow.cell hy (fun e=>hb.1.2 e.symm));refine h2.mono (fun b hb=>⟨hb.1.1,?_⟩);show some g≠some b
  intro e
  cases e
  rcases hg with hg|hg
  ·exact hb.1.2 hg
  ·omega
 refine⟨by rw[hl,hfl];exact hown,fun p hp=>?_⟩;rcases List.mem_append.1 hp with hp|hp
 ·exact⟨keep _ _ (h.2 p hp).1,(h.2 p hp).2⟩
 ·rw[List.mem_singleton.1 hp];exact⟨keep _ _ hx,hn⟩
def Lz:List Bool→Nat
 |[]=>0
 |b::l=>(if b then 0 else 1)+Lz l
theorem Wz:∀(l:List Bool) (i:Nat),l[i]? =some false→Lz (l.set i true)+1=Lz l
 |[],i,h=>by simp at h
 |b::l,0,h=>by simp at h;subst h;simp [Lz];omega
 |b::l,i+1,h=>by
  simp at h;have:=Wz l i h;simp only[List.set_cons_succ,Lz];omega
theorem Ye:∀(l:List Bool) (i:Nat),l[i]? =some false→0<Lz l
 |[],i,h=>by simp at h
 |b::l,0,h=>by simp at h;subst h;simp [Lz];omega
 |b::l,i+1,h=>by
  simp at h;have:=Ye l i h;simp only[Lz];omega
theorem bB {md:Region.Mode}{ops:Array Oper}{listed:Array Bool}{i:Nat}(h:i∈Region.ready md ops listed):i<ops.size∧listed.toList[i]? =some false∧∀o,ops[i]? =some o→∀e,e∈o.after→Region.binds md e=true→listed.getD e.on false=true:=by
 unfold Region.ready at h;rw[List.mem_filter]at h;obtain⟨h1,h2⟩:=h;simp only[Bool.and_eq_true,Bool.not_eq_true']at h2;refine⟨List.mem_range.1 h1,?_,fun o ho e he hb=>?_⟩
 ·have h3:=h2.1
  rw[Array.getD_eq_getD_getElem?]at h3;rw[Array.getElem?_toList]
  cases hl:listed[i]? with
  |none=>rw[hl]at h3;simp at h3
  |some b=>rw[hl]at h3;simp at h3;rw[h3]
 ·have h3:=h2.2
  rw[ho]at h3;simp only[Option.map_some,Option.getD_some]at h3;have h4:=Array.all_eq_true_iff_forall_mem.1 h3 e he;simpa [hb]using h4
theorem nA {P:Program}{ops:Array Oper}{Q:Exit→Act→World→Prop}(I:Array Bool→Act→World→Prop)
  (step:∀listed a w i,I listed a w→i<ops.size→listed.toList[i]? =some false→(∀o,ops[i]? =some o→∀e,e∈o.after→Region.binds .any e=true→listed.getD e.on false=true)→wpOp P ops Q i (I (listed.setIfInBounds i true)) a w)
  (fin:∀listed a w,I listed a w→Region.ready .any ops listed=[]→Q .normal a w):∀(fuel:Nat) (listed:Array Bool) (a:Act) (w:World),Lz listed.toList≤fuel→I listed a w→wpAny P .any ops Q fuel listed a w
 |0,listed,a,w,hu,hI=>by
  have hr:Region.ready .any ops listed=[]:=by
   cases hl:Region.ready .any ops listed with
   |nil=>rfl
   |cons i l=>
    have:=Ye _ _ (bB (show i∈Region.ready .any ops listed by rw[hl];exact List.mem_cons_self)).2.1;omega
  exact⟨hr,fin _ _ _ hI hr⟩
 |fuel+1,listed,a,w,hu,hI=>by
  refine⟨fin _ _ _ hI,fun i hi=>?_⟩;obtain⟨h1,h2,h3⟩:=bB hi;refine wpOp_mono (fun a' w' hI'=>nA I step fin fuel _ a' w' ?_ hI') (step listed a w i hI h1 h2 h3);have:=Wz _ _ h2;rw[Array.toList_setIfInBounds];omega
theorem Xi:∀n,Lz (List.replicate n false)=n
 |0=>rfl
 |n+1=>by rw[List.replicate_succ,Lz,Xi n];simp;omega
theorem lC {P:Program}{id:Nat}{ops:Array Oper}{Q:Exit→Act→World→Prop}{a:Act}{w:World}(hm:P.follows .mixedOrders=true)(I:Array Bool→Act→World→Prop)(h0:I (Array.replicate ops.size false) a w.drew)
  (step:∀listed a w i,I listed a w→i<ops.size→listed.toList[i]? =some false→(∀o,ops[i]? =some o→∀e,e∈o.after→Region.binds .any e=true→listed.getD e.on false=true)→wpOp P ops Q i (I (listed.setIfInBounds i true)) a w)
  (fin:∀listed a w,I listed a w→Region.ready .any ops listed=[]→Q .normal a w):(Code.region id ops true).wp P Q a w:=
 wp_region_any hm (nA I step fin _ _ _ _ (by rw[Array.toList_replicate,Xi];exact Nat.le_refl _) h0)
def upd(L:Nat→Bool)(i:Nat):Nat→Bool:=fun j=>if j=i then true else L j
theorem Bb(L:Nat→Bool)(i:Nat):upd L i i=true:=if_pos rfl
theorem Ab(L:Nat→Bool){i j:Nat}(h:j≠i):upd L i j=L j:=if_neg h
def Kd(listed:Array Bool):Nat→Bool:=fun j=>listed.getD j false
theorem kE(listed:Array Bool)(i:Nat)(h:i<listed.size):Kd (listed.setIfInBounds i true)=upd (Kd listed) i:=by
 funext j
 unfold Kd upd
 by_cases hj:j=i
 ·subst hj;simp [Array.getD_eq_getD_getElem?,h]
 ·have:¬i=j:=fun e=>hj e.symm
  simp [Array.getD_eq_getD_getElem?,Array.getElem?_setIfInBounds,hj,this]
def lowOk(ops:Array Oper):Bool:=(List.range ops.size).all fun i=>((ops[i]?).map (fun o=>o.after.all fun e=> !(Region.binds .any e)||decide (e.on<i))).getD true
theorem sL {ops:Array Oper}{listed:Array Bool}(hlow:lowOk ops=true)(hs:listed.size=ops.size)(h:Region.ready .any ops listed=[]):∀i,i<ops.size→Kd listed i=true:=by
 intro i
 induction i using Nat.strongRecOn with
 |_ i ih=>
  intro hi
  cases hd:Kd listed i with
  |true=>rfl
  |false=>
   exfalso
   have hm:i∈Region.ready .any ops listed:=by
    unfold Region.ready;rw[List.mem_filter];refine⟨List.mem_range.2 hi,?_⟩;rw[Bool.and_eq_true];constructor
    ·have hli:i<listed.size:=by omega
     unfold Kd at hd;simp only[Array.getD_eq_getD_getElem?,Array.getElem?_eq_getElem hli,Option.getD_some]at hd ⊢;rw[hd];rfl
    ·have ho:ops[i]? =some ops[i]:=Array.getElem?_eq_getElem hi
     rw[ho];simp only[Option.map_some,Option.getD_some];rw[Array.all_eq_true_iff_forall_mem];intro e he;have h1:=List.all_eq_true.1 hlow i (List.mem_range.2 hi);rw[ho]at h1;simp only[Option.map_some,Option.getD_some]at h1;have h2:=Array.all_eq_true_iff_forall_mem.1 h1 e he
     cases hb:Region.binds .any e with
     |false=>rfl
     |true=>
      rw[hb]at h2;have h4:e.on<i:=by simpa using h2
      have h3:=ih e.on h4 (by omega);unfold Kd at h3;rw[h3,Bool.or_true]
   rw[h]at hm;cases hm
theorem Fp {P:Program}{id:Nat}{ops:Array Oper}{Q:Exit→Act→World→Prop}{a:Act}{w:World}(hm:P.follows .mixedOrders=true)(hlow:lowOk ops=true)(I:(Nat→Bool)→Act→World→Prop)(h0:I (fun _=>false) a w.drew)
  (step:∀L a w i,I L a w→i<ops.size→L i=false→(∀o,ops[i]? =some o→∀e,e∈o.after→Region.binds .any e=true→L e.on=true)→wpOp P ops Q i (I (upd L i)) a w)
  (fin:∀L a w,I L a w→(∀i,i<ops.size→L i=true)→Q .normal a w):(Code.region id ops true).wp P Q a w:=by
 refine lC hm (fun listed a w=>listed.size=ops.size∧I (Kd listed) a w) ⟨by simp,?_⟩ ?_ ?_
 ·have:Kd (Array.replicate ops.size false)=fun _=>false:=by
   funext j;unfold Kd
   rw[Array.getD_eq_getD_getElem?,Array.getElem?_replicate];split<;>rfl
  rw[this];exact h0
 ·intro listed a w i hI hi hl hd
  have hli:Kd listed i=false:=by
   unfold Kd;rw[Array.getElem?_toList]at hl;rw[Array.getD_eq_getD_getElem?,hl];rfl
  refine wpOp_mono (fun a' w' h=>⟨by rw[Array.size_setIfInBounds];exact hI.1,?_⟩) (step (Kd listed) a w i hI.2 hi hli hd);rw[kE _ _ (by rw[hI.1];exact hi)];exact h
 ·intro listed a w hI hr
  exact fin _ _ _ hI.2 (sL hlow hI.1 hr)
theorem Bc {P:Program}{ops:Array Oper}{Q:Exit→Act→World→Prop}{i:Nat}{K:Act→World→Prop}{a:Act}{w:World}(o:Oper)(ho:ops[i]? =some o)(hg:o.guard=none)(h:∀K':Act→World→Prop,(∀a w,K a w→K' a w)→o.wp P a w K' Q):wpOp P ops Q i K a w:=by
 unfold wpOp;rw[ho];simp only[Region.wanted,hg,if_true];exact .inl (h K (fun _ _ q=>q))
theorem kb {L:Nat→Bool}{j k:Nat}{b:Bool}(h:upd L k j=b)(hn:j≠k:=by decide):L j=b:=by rwa[Ab L hn]at h
theorem kc {L:Nat→Bool}{j k:Nat}{P:Prop}(h:L j=true→P)(hn:j≠k:=by decide):upd L k j=true→P:=fun e=>h (kb e hn)
theorem kq {L:Nat→Bool}{j i k:Nat}(h:L j=true→L i=true)(hn:j≠k:=by decide)(hm:i≠k:=by decide):upd L k j=true→upd L k i=true:=fun e=>by rw[Ab L hm];exact h (kb e hn)
theorem kn {L:Nat→Bool}{j k:Nat}{P:Prop}(h:L j=true→L k=true)(hl:L k=false)(hn:j≠k:=by decide):upd L k j=true→P:=fun e=>by
 have:=h (kb e hn);rw[hl]at this;cases this
theorem kl {L:Nat→Bool}{j k:Nat}{P:Prop}(h:L j=false)(hn:j≠k:=by decide):upd L k j=true→P:=fun e=>by
 have:=kb e hn;rw[h]at this;cases this
theorem kf {L:Nat→Bool}{n k:Nat}(h:L n=true→∀j,j<n→L j=true)(hl:L k=false)(hk:k<n:=by decide):L n=false:=by
 cases e:L n with
 |false=>rfl
 |true=>have:=h e k hk;rw[hl]at this;cases this
theorem ks {L:Nat→Bool}{k:Nat}{P:Prop}:upd L k k=false→P:=fun e=>by rw[Bb]at e;cases e
theorem kd {L:Nat→Bool}{j i k:Nat}(h:L i=true)(hm:i≠k:=by decide):upd L k j=true→upd L k i=true:=fun _=>by rw[Ab L hm];exact h
def Ld(n:Nat):Code→Option Code
 |.region k o b=>if k==n then some (.region k o b)else none
 |.loop c=>Ld n c
 |.seq a b=>match Ld n a with
  |some c=>some c
  |none=>Ld n b
 |.block _ c=>Ld n c
 |.scope c=>Ld n c
 |.cond _ a b=>match Ld n a with
  |some c=>some c
  |none=>Ld n b
 |_=>none
theorem tU:(Tryz.prog.info? 60).map (fun i=>(i.zero,i.size,i.bytes))=some (some (.agg #[.int .i64 0,.string ⟨#[]⟩,.slice none 0 0,.slice none 0 0,.slice none 0 0]),5,96):=by kernel_rfl
theorem Ax.strong {D:Nat→Prop}{w:World}{l:List St}{v:Value}(h:Ax D w l v):Ax (fun b=>D b∧b<w.heap.size) w l v:=by
 induction h with
 |mk l a cap b off sa st se hcap hfit ha h0 h1 h2 h3 h4 ea _ _ ih1 ih2=>
  refine .mk l a cap b off sa st se hcap hfit ?_ h0 h1 h2 h3 h4 (fun i hi=>(ea i hi).strong) ih1 ih2;rcases ha with ha|⟨ha,hD⟩
  ·exact .inl ha
  ·rcases Nat.eq_zero_or_pos l.length with hz|hz
   ·exact .inl hz
   ·exact .inr ⟨ha,hD,Zb _ _ (h0 0 hz)⟩
structure StV where
 x:St
 a:Value
 t:Value
 e:Value
def Jd(ps:List StV):List Value:=ps.flatMap fun p=>Hc p.x p.a p.t p.e
theorem Ti:∀(ps:List StV) (i q:Nat) (p:StV),ps[i]? =some p→q<5→(Jd ps)[i*5+q]? =(Hc p.x p.a p.t p.e)[q]?
 |[],i,q,p,h,_=>by simp at h
 |x::ps,0,q,p,h,hq=>by
  simp at h;subst h;unfold Jd;rw[Zd,List.getElem?_append_left (by simp [Hc];omega)];simp
 |x::ps,i+1,q,p,h,hq=>by
  simp at h;have:=Ti ps i q p h hq;unfold Jd at*;rw[Zd,List.getElem?_append_right (by simp [Hc];omega)];rw[←this];congr 1;simp [Hc];omega
theorem kZ(a c:List StV):Jd (a++c)=Jd a++Jd c:=by unfold Jd;rw[List.flatMap_append]
def Fi(D:Nat→Prop)(w:World)(p:StV):Prop:=Ag D w p.x.args p.a∧Ax D w p.x.thn p.t∧Ax D w p.x.els p.e
theorem Fi.keep {D:Nat→Prop}{w w':World}(hk:Ed D w w'){p:StV}(h:Fi D w p):Fi D w' p:=⟨h.1.keep hk,h.2.1.keep hk,h.2.2.keep hk⟩
theorem Fi.mono {D D':Nat→Prop}{w:World}(hD:∀b,D b→D' b){p:StV}(h:Fi D w p):Fi D' w p:=⟨h.1.mono hD,h.2.1.mono hD,h.2.2.mono hD⟩
theorem Fi.strong {D:Nat→Prop}{w:World}{p:StV}(h:Fi D w p):Fi (fun b=>D b∧b<w.heap.size) w p:=⟨h.1.strong,h.2.1.strong,h.2.2.strong⟩
def Dq(w:World)(base:Nat)(ps:List StV)(v:Value):Prop:=
 w.ownsRow base 60 5 v ps.length (Jd ps)∧∀p,p∈ps→Fi (fun b=>base≤b∧v.ownBlock≠some b) w p
theorem Dq.zero(w:World)(base:Nat):Dq w base [] (.slice none 0 0):=⟨⟨rfl,.inl ⟨rfl,rfl⟩⟩,fun p hp=>by cases hp⟩
theorem Dq.keep {w w':World}{base:Nat}{ps:List StV}{v:Value}(h:Dq w base ps v)(hk:∀k,k<w.heap.size→base≤k→w'.heap[k]? =w.heap[k]?):Dq w' base ps v:=by
 refine⟨⟨h.1.1,?_⟩,fun p hp=>(h.2 p hp).keep (fun b off x hb hx=>by rw[Za (w:=w) (hk b (Zb _ _ hx) hb.1)];exact hx)⟩;rcases h.1.2 with hn|⟨g,cap,cur,rfl,hb,hg,r⟩
 ·exact .inl hn
 ·refine .inr ⟨g,cap,cur,rfl,hb,?_,r⟩
  rw[hk g (by
   rcases Nat.lt_or_ge g w.heap.size with h'|h'
   ·exact h'
   ·simp [Array.getElem?_eq_none h']at hg) hb]
  exact hg
theorem Dq.sfr {s:Nat}{w w':World}{base:Nat}{ps:List StV}{v:Value}(h:Dq w base ps v)(hf:SFr s w w')(hs:s<base):Dq w' base ps v:=h.keep (fun k h1 h2=>hf.block k h1 (by omega))
theorem Cb.sfr {s:Nat}{w w':World}{base:Nat}{ps:List (Ex ×Value)}{v:Value}(h:Cb w base ps v)(hf:SFr s w w')(hs:s<base):Cb w' base ps v:=h.keep (fun k h1 h2=>hf.block k h1 (by omega))
theorem Cb.other {w:World}{base:Nat}{ps:List (Ex ×Value)}{v:Value}(h:Cb w base ps v){k:Nat}(hk:k<base)(i:Nat)(u:Value):Cb (w.setCell ⟨k,i,none⟩ u) base ps v:=h.keep (fun b h1 h2=>Zc _ _ _ _ (by show b≠k;omega))
theorem Dq.shape {w:World}{base:Nat}{ps:List StV}{v:Value}(h:Dq w base ps v):∃a cap,v=.slice a ps.length cap:=by
 rcases h.1.2 with⟨rfl,h0⟩|⟨g,cap,cur,rfl,_⟩
 ·exact⟨none,0,by rw[h0]⟩
 ·exact⟨_,_,rfl⟩
theorem Dq.ge {w:World}{base:Nat}{ps:List StV}{v:Value}(h:Dq w base ps v){k:Nat}(hk:v.ownBlock=some k):base≤k∧k<w.heap.size:=h.1.lt k hk
theorem Dq.sts {w:World}{base:Nat}{ps:List StV}{v:Value}(h:Dq w base ps v)(hf:Ct ps.length):Ax (base≤ ·) w (ps.map (·.x)) v:=by
 have hl:(ps.map (·.x)).length=ps.length:=List.length_map _;rcases h.1.2 with⟨rfl,h0⟩|⟨g,cap,cur,rfl,hb,hg,hc,hm,hs,ht⟩
 ·have:ps=[]:=List.length_eq_zero_iff.1 h0
  subst this;exact Ax.zero
 ·have cell:∀i q p u,ps[i]? =some p→q<5→(Hc p.x p.a p.t p.e)[q]? =some u→w.cell? ⟨g,0+i*5+q,none⟩=some u:=by
   intro i q p u hp hq hu;have h1:=h.1.cells (g:=g) rfl (i*5+q) u (by rw[Ti ps i q p hp hq];exact hu);have h2:(⟨g,0,none⟩:Addr).add (i*5+q)=⟨g,0+i*5+q,none⟩:=by unfold Addr.add;split<;>simp_all<;>omega
   rwa[h2]at h1
  have gp:∀i,i<ps.length→∃p,ps[i]? =some p∧Ht (ps.map (·.x)) i=p.x∧p∈ps:=by
   intro i hi;refine⟨ps[i],Ze hi,?_,List.getElem_mem hi⟩;simp [Ht,Ze hi]
  let z:StV:=⟨St.nil,undef,undef,undef⟩
  have e:=Ax.mk (D:=(base≤ ·)) (w:=w) (ps.map (·.x)) (some ⟨g,0,none⟩) cap g 0 (fun i=>(ps.getD i z).a) (fun i=>(ps.getD i z).t) (fun i=>(ps.getD i z).e) (by rw[hl];exact hc) (by rw[hl];exact hf) (.inr ⟨rfl,hb⟩);rw[hl]at e;have sv:∀i p,ps[i]? =some p→ps.getD i z=p:=fun i p hp=>by rw[List.getD_eq_getElem?_getD,hp];rfl
  refine e (fun i hi=>?_) (fun i hi=>?_) (fun i hi=>?_) (fun i hi=>?_) (fun i hi=>?_) (fun i hi=>?_) (fun i hi=>?_) (fun i hi=>?_)
  all_goals
   obtain⟨p,hp,hx,hm⟩:=gp i hi
   try rw[hx]
   try rw[sv i p hp]
  ·exact cell i 0 p _ hp (by omega) rfl
  ·exact cell i 1 p _ hp (by omega) rfl
  ·exact cell i 2 p _ hp (by omega) rfl
  ·exact cell i 3 p _ hp (by omega) rfl
  ·exact cell i 4 p _ hp (by omega) rfl
  ·exact(h.2 p hm).1.mono (fun b hb=>hb.1)
  ·exact(h.2 p hm).2.1.mono (fun b hb=>hb.1)
  ·exact(h.2 p hm).2.2.mono (fun b hb=>hb.1)
theorem Dq.snoc {w w':World}{base:Nat}{ps:List StV}{v:Value}(h:Dq w base ps v)(p:StV)(hx:Fi (fun b=>base≤b∧v.ownBlock≠some b) w p){g cap:Nat}
  (hown:w'.ownsRow base 60 5 (.slice (some ⟨g,0,none⟩) (ps.length+1) cap) (ps.length+1) (Jd ps++Hc p.x p.a p.t p.e)) (hgrow:w.grownBy w' v.ownBlock) (hg:v.ownBlock=some g∨g=w.heap.size):
  Dq w' base (ps++[p]) (.slice (some ⟨g,0,none⟩) (ps.length+1) cap):=by
 have hl:(ps++[p]).length=ps.length+1:=by simp
 have hfl:Jd (ps++[p])=Jd ps++Hc p.x p.a p.t p.e:=by rw[kZ];simp [Jd]
 have keep:∀q:StV,Fi (fun b=>base≤b∧v.ownBlock≠some b) w q→Fi (fun b=>base≤b∧(Value.slice (some ⟨g,0,none⟩) (ps.length+1) cap).ownBlock≠some b) w' q:=by
  intro q hu;have h1:Fi (fun b=>(base≤b∧v.ownBlock≠some b)∧b<w.heap.size) w q:=hu.strong;have h2:Fi (fun b=>(base≤b∧v.ownBlock≠some b)∧b<w.heap.size) w' q:=h1.keep (fun b off y hb hy=>hgrow.cell hy (fun e=>hb.1.2 e.symm));refine h2.mono (fun b hb=>⟨hb.1.1,?_⟩);show some g≠some b
  intro e
  cases e
  rcases hg with hg|hg
  ·exact hb.1.2 hg
  ·omega
 refine⟨by rw[hl,hfl];exact hown,fun q hq=>?_⟩;rcases List.mem_append.1 hq with hq|hq
 ·exact keep _ (h.2 q hq)
 ·rw[List.mem_singleton.1 hq];exact keep _ hx
theorem tV(x:St)(a b c:Option Addr)(n m k i j l:Nat):∀u,u∈Hc x (.slice a n i) (.slice b m j) (.slice c k l)→u.oneCell'=true:=by
 intro u hu;simp only[Hc,List.mem_cons,List.not_mem_nil,or_false]at hu;rcases hu with rfl|rfl|rfl|rfl|rfl<;>rfl
end Go.Proofs.YtcfpfnoldgnloaaGreatDoor

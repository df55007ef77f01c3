/-
  A list of expressions that is being appended to: its own block. No condition.
-/
import Derived.Test.YthcpopmmlneneaaGreatDoorPt00
import Derived.Deep.AppendLies
set_option linter.unusedVariables false
set_option linter.unusedSimpArgs false
namespace Go.Proofs.YthcpopmmlneneaaGreatDoor
open Go.RowKit
set_option maxHeartbeats 20000000
set_option maxRecDepth 100000
open Go renaming World→Zd,TypeId→Ze
open World renaming cell?_of_block→Za,block_lt_of_cell?→Zc
open Go.RowKit.Below renaming heap_setCell→Zb
structure SFr (s:Nat)(w w':Zd):Prop where
 os:w'.os=w.os
 tape:w'.tape=w.tape
 output:w'.output=w.output
 size:w.heap.size≤w'.heap.size
 block:∀k,k<w.heap.size→k≠s→w'.heap[k]? =w.heap[k]?
theorem SFr.refl(s:Nat)(w:Zd):SFr s w w:=⟨rfl,rfl,rfl,Nat.le_refl _,fun _ _ _=>rfl⟩
theorem SFr.trans {s:Nat}{u v w:Zd}(a:SFr s u v)(k:SFr s v w):SFr s u w:=
 ⟨k.os.trans a.os,k.tape.trans a.tape,k.output.trans a.output,Nat.le_trans a.size k.size,fun i c b=>(k.block i (Nat.lt_of_lt_of_le c a.size) b).trans (a.block i c b)⟩
theorem SFr.of_below {s:Nat}{w w':Zd}(a:Below w.heap.size w w'):SFr s w w':=⟨a.os,a.tape,a.output,a.size,fun k b _=>a.block k b⟩
theorem SFr.below {s:Nat}{w w':Zd}(a:SFr s w w')(c:s≤w.heap.size):Below s w w':=
 ⟨a.os,a.tape,a.output,a.size,fun k b=>a.block k (by omega) (by omega)⟩
theorem SFr.cell {s:Nat}{w w':Zd}(c:SFr s w w'){b a:Nat}{x:Value}(d:b≠s)(hx:w.cell? ⟨b,a,none⟩=some x):w'.cell? ⟨b,a,none⟩=some x:=by
 rw[Za (w:=w) (c.block b (Zc _ _ hx) d)];exact hx
theorem SFr.keeps {s:Nat}{w w':Zd}(a:SFr s w w'):Db (· ≠s) w w':=fun _ _ _ b hx=>a.cell b hx
theorem SFr.keepsD {s:Nat}{w w':Zd}(a:SFr s w w'){D:Nat→Prop}(c:∀b,D b→b≠s):Db D w w':=fun _ _ _ d hx=>a.cell (c _ d) hx
theorem SFr.drewN {s n:Nat}{w b:Zd}(a:SFr s w b):SFr s w (b.drewN n):=⟨a.os,a.tape,a.output,a.size,a.block⟩
def Ad(w:Zd)(b:Nat)(c:List Value)(a:Ze):Prop:=w.heap[b]? =some (.cells c.toArray a (0,0))
theorem Ad.new(w:Zd)(b:List Value)(a:Ze):Ad (w.alloc (.cells b.toArray a)) w.heap.size b a:=Array.getElem?_push_size
theorem Ad.lt {w:Zd}{b:Nat}{e:List Value}{d:Ze}(c:Ad w b e d):b<w.heap.size:=by
 rcases Nat.lt_or_ge b w.heap.size with a|a
 ·exact a
 ·unfold Ad at c;simp [Array.getElem?_eq_none a]at c
theorem Ad.at {w:Zd}{b:Nat}{a:List Value}{c:Ze}(d:Ad w b a c)(i:Nat)(v:Value)(e:a[i]? =some v):w.cell? ⟨b,i,none⟩=some v:=by
 rw[Lib.cell_of_heap d];simpa using e
theorem τ2{w:World}{b:Nat}{a c:Value}{f:List Value}{e:TypeId}(d:Ad w b (a::c::f) e):w.cell? ⟨b,0,none⟩=some a∧w.cell? ⟨b,1,none⟩=some c:=⟨d.at 0 _ rfl,d.at 1 _ rfl⟩
theorem τ3{w:World}{b:Nat}{c d e:Value}{g:List Value}{f:TypeId}(a:Ad w b (c::d::e::g) f):w.cell? ⟨b,0,none⟩=some c∧w.cell? ⟨b,1,none⟩=some d∧w.cell? ⟨b,2,none⟩=some e:=⟨a.at 0 _ rfl,a.at 1 _ rfl,a.at 2 _ rfl⟩
theorem τ4{w:World}{b:Nat}{c d e f:Value}{h:List Value}{g:TypeId}(a:Ad w b (c::d::e::f::h) g):w.cell? ⟨b,0,none⟩=some c∧w.cell? ⟨b,1,none⟩=some d∧w.cell? ⟨b,2,none⟩=some e∧w.cell? ⟨b,3,none⟩=some f:=⟨a.at 0 _ rfl,a.at 1 _ rfl,a.at 2 _ rfl,a.at 3 _ rfl⟩
theorem τ5{w:World}{b:Nat}{c d e f g:Value}{i:List Value}{h:TypeId}(a:Ad w b (c::d::e::f::g::i) h):w.cell? ⟨b,0,none⟩=some c∧w.cell? ⟨b,1,none⟩=some d∧w.cell? ⟨b,2,none⟩=some e∧w.cell? ⟨b,3,none⟩=some f∧w.cell? ⟨b,4,none⟩=some g:=⟨a.at 0 _ rfl,a.at 1 _ rfl,a.at 2 _ rfl,a.at 3 _ rfl,a.at 4 _ rfl⟩
theorem Ad.fz {w:Zd}{b:Nat}{c:List Value}{a:Ze}(d:Ad w b c a)(i:Nat):w.frozen? ⟨b,i,none⟩=false:=Lib.frozen_of_heap d i
theorem Ad.old {w w':Zd}{b:Nat}{c:List Value}{a:Ze}(d:Ad w b c a)(e:Below w.heap.size w w'):Ad w' b c a:=(e.block b d.lt).trans d
theorem Ad.alloc {w:Zd}{b:Nat}{c:List Value}{a:Ze}(d:Ad w b c a)(e:Obj):Ad (w.alloc e) b c a:=d.old (bA)
theorem Ad.sfr {s:Nat}{w w':Zd}{b:Nat}{c:List Value}{a:Ze}(d:Ad w b c a)(f:SFr s w w')(e:b≠s):Ad w' b c a:=(f.block b d.lt e).trans d
theorem Ad.set {w:Zd}{b:Nat}{c:List Value}{a:Ze}(d:Ad w b c a)(i:Nat)(v:Value):Ad (w.setCell ⟨b,i,none⟩ v) b (c.set i v) a:=by
 unfold Ad at*;simp [World.setCell,Array.getElem?_modify,d]
theorem Ad.other {w:Zd}{b:Nat}{c:List Value}{a:Ze}(d:Ad w b c a){k:Nat}(e:b≠k)(i:Nat)(v:Value):Ad (w.setCell ⟨k,i,none⟩ v) b c a:=by
 unfold Ad at*;rw[Zb _ _ _ _ e];exact d
theorem Al {D:Nat→Prop}(w:Zd){k:Nat}(a:¬D k)(i:Nat)(v:Value):Db D w (w.setCell ⟨k,i,none⟩ v):=fun b d x c hx=>by
 rw[Za (w:=w) (Zb _ _ _ _ (by rintro rfl;exact a c))];exact hx
theorem Ue(w:Zd){b c i j:Nat}{v:Value}(a:c≠b):(w.setCell ⟨b,i,none⟩ v).cell? ⟨c,j,none⟩=w.cell? ⟨c,j,none⟩:=
 Za (w:=w) (Zb _ _ _ _ a)
theorem SFr.setNew {s:Nat}{w c:Zd}(a:SFr s w c){b:Nat}(f:w.heap.size≤b)(i:Nat)(v:Value):SFr s w (c.setCell ⟨b,i,none⟩ v):=
 ⟨a.os,a.tape,a.output,by simpa [World.setCell]using a.size,fun k d e=>(Zb _ _ _ _ (by show k≠b;omega)).trans (a.block k d e)⟩
theorem Pz {D D':Nat→Prop}{w w':Zd}(a:Db D' w w')(c:∀b,D b→D' b):Db D w w':=fun b e x d hx=>a b e x (c b d) hx
theorem SFr.fresh {s:Nat}{w w':Zd}(a:SFr s w w'){B:Nat}(d:s<B):Db (B≤ ·) w w':=a.keepsD (fun b c=>by show b≠s;have:B≤b:=c;omega)
theorem Av(w:Zd){B k:Nat}(a:k<B)(i:Nat)(v:Value):Db (B≤ ·) w (w.setCell ⟨k,i,none⟩ v):=Al w (by omega) i v
theorem Ag.strong {D:Nat→Prop}{w:Zd}{l:List Ex}{v:Value}(e:Ag D w l v):Ag (fun b=>D b∧b<w.heap.size) w l v:=by
 induction e with
 |mk l a cap b off sv hcap hfit c h0 h1 h2 h3 h4 _ hn ih=>
  refine .mk l a cap b off sv hcap hfit ?_ h0 h1 h2 h3 h4 ih hn;rcases c with c|⟨c,f⟩
  ·exact .inl c
  ·rcases Nat.eq_zero_or_pos l.length with d|d
   ·exact .inl d
   ·exact .inr ⟨c,f,Zc _ _ (h0 0 d)⟩
def Dl(a:List (Ex ×Value)):List Value:=a.flatMap fun p=>Ba p.1 p.2
theorem Qc:∀a,(Dl a).length=a.length*5
 |[]=>rfl
 |p::a=>by
  have:=Qc a;unfold Dl at*;simp only[List.flatMap_cons,List.length_append,List.length_cons];rw[this];simp [Ba];omega
theorem bK:∀(a:List (Ex ×Value)) (i q:Nat) (p:Ex ×Value),a[i]? =some p→q<5→(Dl a)[i*5+q]? =(Ba p.1 p.2)[q]?
 |[],i,q,p,h,_=>by simp at h
 |x::a,0,q,p,h,hq=>by
  simp at h;subst h;unfold Dl;rw[List.flatMap_cons,List.getElem?_append_left (by simp [Ba];omega)];simp
 |x::a,i+1,q,p,h,hq=>by
  simp at h;have:=bK a i q p h hq;unfold Dl at*;rw[List.flatMap_cons,List.getElem?_append_right (by simp [Ba];omega)];rw[←this];congr 1;simp [Ba];omega
theorem Qe(a c:List (Ex ×Value)):Dl (a++c)=Dl a++Dl c:=by unfold Dl;rw[List.flatMap_append]
def Br(w:Zd)(c:Nat)(a:List (Ex ×Value))(v:Value):Prop:=
 w.ownsRow c 35 5 v a.length (Dl a)∧∀p,p∈a→Ag (fun b=>c≤b∧v.ownBlock≠some b) w p.1.args p.2∧I64 p.1.n
theorem Br.zero(w:Zd)(a:Nat):Br w a [] (.slice none 0 0):=⟨⟨rfl,.inl ⟨rfl,rfl⟩⟩,fun p b=>by cases b⟩
theorem Br.keep {w w':Zd}{d:Nat}{j:List (Ex ×Value)}{v:Value}(a:Br w d j v)(h:∀k,k<w.heap.size→d≤k→w'.heap[k]? =w.heap[k]?):Br w' d j v:=by
 refine⟨⟨a.1.1,?_⟩,fun p i=>⟨(a.2 p i).1.keep (fun b o x c hx=>by rw[Za (w:=w) (h b (Zc _ _ hx) c.1)];exact hx),(a.2 p i).2⟩⟩;rcases a.1.2 with m|⟨g,cap,l,rfl,c,f,n⟩
 ·exact .inl m
 ·refine .inr ⟨g,cap,l,rfl,c,?_,n⟩
  rw[h g (by
   rcases Nat.lt_or_ge g w.heap.size with e|e
   ·exact e
   ·simp [Array.getElem?_eq_none e]at f) c]
  exact f
theorem Br.exs {w:Zd}{k:Nat}{a:List (Ex ×Value)}{v:Value}(j:Br w k a v)(y:Cv a.length):Ag (k≤ ·) w (a.map (·.1)) v:=by
 have h:(a.map (·.1)).length=a.length:=List.length_map _;rcases j.1.2 with⟨rfl,r⟩|⟨g,cap,C,rfl,l,E,x,m,F,G⟩
 ·have:a=[]:=List.length_eq_zero_iff.1 r
  subst this;exact Ag.zero
 ·have f:∀i q p u,a[i]? =some p→q<5→(Ba p.1 p.2)[q]? =some u→w.cell? ⟨g,0+i*5+q,none⟩=some u:=by
   intro i q p u d z A;have s:=j.1.cells (g:=g) rfl (i*5+q) u (by rw[bK a i q p d z];exact A);have t:(⟨g,0,none⟩:Addr).add (i*5+q)=⟨g,0+i*5+q,none⟩:=by unfold Addr.add;split<;>simp_all<;>omega
   rwa[t]at s
  have n:∀i,i<(a.map (·.1)).length→∃p,a[i]? =some p∧Bx (a.map (·.1)) i=p.1∧p∈a:=by
   intro i c;rw[h]at c;refine⟨a[i],List.getElem?_eq_getElem c,?_,List.getElem_mem c⟩;simp [Bx,List.getElem?_eq_getElem c]
  have e:=Ag.mk (D:=(k≤ ·)) (w:=w) (a.map (·.1)) (some ⟨g,0,none⟩) cap g 0 (fun i=>(a.getD i (Ex.nil,undef)).2) (by rw[h];exact x) (by rw[h];exact y) (.inr ⟨rfl,l⟩);rw[h]at e;have B:∀i p,a[i]? =some p→(a.getD i (Ex.nil,undef)).2=p.2:=fun i p d=>by rw[List.getD_eq_getElem?_getD,d];rfl
  have o:∀i,i<a.length→∃p,a[i]? =some p∧Bx (a.map (·.1)) i=p.1∧p∈a:=fun i c=>n i (by rw[h];exact c)
  refine e (fun i c=>?_) (fun i c=>?_) (fun i c=>?_) (fun i c=>?_) (fun i c=>?_) (fun i c=>?_) (fun i c=>?_)
  all_goals
   obtain⟨p,d,hx,m⟩:=o i c
   try rw[hx]
   try rw[B i p d]
  ·exact f i 0 p _ d (by omega) rfl
  ·exact f i 1 p _ d (by omega) rfl
  ·exact f i 2 p _ d (by omega) rfl
  ·exact f i 3 p _ d (by omega) rfl
  ·exact f i 4 p _ d (by omega) rfl
  ·exact(j.2 p m).1.mono (fun b l=>l.1)
  ·exact(j.2 p m).2
theorem Br.snoc {w w':Zd}{c:Nat}{a:List (Ex ×Value)}{v:Value}(j:Br w c a v)(x:Ex)(f:Value)(hx:Ag (fun b=>c≤b∧v.ownBlock≠some b) w x.args f)(t:I64 x.n){g cap:Nat}
  (z:w'.ownsRow c 35 5 (.slice (some ⟨g,0,none⟩) (a.length+1) cap) (a.length+1) (Dl a++Ba x f)) (r:w.grownBy w' v.ownBlock) (i:v.ownBlock=some g∨g=w.heap.size):
  Br w' c (a++[(x,f)]) (.slice (some ⟨g,0,none⟩) (a.length+1) cap):=by
 have s:(a++[(x,f)]).length=a.length+1:=by simp
 have q:Dl (a++[(x,f)])=Dl a++Ba x f:=by rw[Qe];simp [Dl]
 have k:∀(l:List Ex) (u:Value),Ag (fun b=>c≤b∧v.ownBlock≠some b) w l u→Ag (fun b=>c≤b∧(Value.slice (some ⟨g,0,none⟩) (a.length+1) cap).ownBlock≠some b) w' l u:=by
  intro l u A;have m:Ag (fun b=>(c≤b∧v.ownBlock≠some b)∧b<w.heap.size) w l u:=A.strong;have o:Ag (fun b=>(c≤b∧v.ownBlock≠some b)∧b<w.heap.size) w' l u:=m.keep (fun b C y h B=>r.cell B (fun e=>h.1.2 e.symm));refine o.mono (fun b h=>⟨h.1.1,?_⟩);show some g≠some b
  intro e
  cases e
  rcases i with i|i
  ·exact h.1.2 i
  ·omega
 refine⟨by rw[s,q];exact z,fun p d=>?_⟩;rcases List.mem_append.1 d with d|d
 ·exact⟨k _ _ (j.2 p d).1,(j.2 p d).2⟩
 ·rw[List.mem_singleton.1 d];exact⟨k _ _ hx,t⟩
end Go.Proofs.YthcpopmmlneneaaGreatDoor

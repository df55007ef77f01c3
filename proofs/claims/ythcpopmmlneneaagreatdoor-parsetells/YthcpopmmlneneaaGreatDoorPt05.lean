/-
  A list of statements that is being appended to: its own block. No condition.
-/
import Derived.Test.YthcpopmmlneneaaGreatDoorPt02
set_option linter.unusedVariables false
set_option linter.unusedSimpArgs false
namespace Go.Proofs.YthcpopmmlneneaaGreatDoor
open Go.RowKit
set_option maxHeartbeats 20000000
set_option maxRecDepth 100000
open Go renaming World→Za
def Lk:List Bool→Nat
 |[]=>0
 |b::l=>(if b then 0 else 1)+Lk l
theorem Vu:∀(l:List Bool) (i:Nat),l[i]? =some false→Lk (l.set i true)+1=Lk l
 |[],i,h=>by simp at h
 |b::l,0,h=>by simp at h;subst h;simp [Lk];omega
 |b::l,i+1,h=>by
  simp at h;have:=Vu l i h;simp only[List.set_cons_succ,Lk];omega
theorem Xe:∀(l:List Bool) (i:Nat),l[i]? =some false→0<Lk l
 |[],i,h=>by simp at h
 |b::l,0,h=>by simp at h;subst h;simp [Lk];omega
 |b::l,i+1,h=>by
  simp at h;have:=Xe l i h;simp only[Lk];omega
theorem bF {h:Region.Mode}{ops:Array Oper}{c:Array Bool}{i:Nat}(d:i∈Region.ready h ops c):i<ops.size∧c.toList[i]? =some false∧∀g,ops[i]? =some g→∀e,e∈g.after→Region.binds h e=true→c.getD e.on false=true:=by
 unfold Region.ready at d;rw[List.mem_filter]at d;obtain⟨j,f⟩:=d;simp only[Bool.and_eq_true,Bool.not_eq_true']at f;refine⟨List.mem_range.1 j,?_,fun g n e m l=>?_⟩
 ·have a:=f.1
  rw[Array.getD_eq_getD_getElem?]at a;rw[Array.getElem?_toList]
  cases hl:c[i]? with
  |none=>rw[hl]at a;simp at a
  |some b=>rw[hl]at a;simp at a;rw[a]
 ·have a:=f.2
  rw[n]at a;simp only[Option.map_some,Option.getD_some]at a;have k:=Array.all_eq_true_iff_forall_mem.1 a e m;simpa [l]using k
theorem mF {P:Program}{ops:Array Oper}{Q:Exit→Act→Za→Prop}(c:Array Bool→Act→Za→Prop)
  (k:∀b a w i,c b a w→i<ops.size→b.toList[i]? =some false→(∀j,ops[i]? =some j→∀e,e∈j.after→Region.binds .any e=true→b.getD e.on false=true)→wpOp P ops Q i (c (b.setIfInBounds i true)) a w)
  (f:∀b a w,c b a w→Region.ready .any ops b=[]→Q .normal a w):∀(d:Nat) (b:Array Bool) (a:Act) (w:Za),Lk b.toList≤d→c b a w→wpAny P .any ops Q d b a w
 |0,b,a,w,hu,hI=>by
  have h:Region.ready .any ops b=[]:=by
   cases hl:Region.ready .any ops b with
   |nil=>rfl
   |cons i l=>
    have:=Xe _ _ (bF (show i∈Region.ready .any ops b by rw[hl];exact List.mem_cons_self)).2.1;omega
  exact⟨h,f _ _ _ hI h⟩
 |d+1,b,a,w,hu,hI=>by
  refine⟨f _ _ _ hI,fun i q=>?_⟩;obtain⟨n,g,o⟩:=bF q;refine wpOp_mono (fun m w' p=>mF c k f d _ m w' ?_ p) (k b a w i hI n g o);have:=Vu _ _ g;rw[Array.toList_setIfInBounds];omega
theorem Xd:∀n,Lk (List.replicate n false)=n
 |0=>rfl
 |n+1=>by rw[List.replicate_succ,Lk,Xd n];simp;omega
theorem iR {P:Program}{id:Nat}{ops:Array Oper}{Q:Exit→Act→Za→Prop}{a:Act}{w:Za}(h:P.follows .mixedOrders=true)(c:Array Bool→Act→Za→Prop)(g:c (Array.replicate ops.size false) a w.drew)
  (j:∀b a w i,c b a w→i<ops.size→b.toList[i]? =some false→(∀d,ops[i]? =some d→∀e,e∈d.after→Region.binds .any e=true→b.getD e.on false=true)→wpOp P ops Q i (c (b.setIfInBounds i true)) a w)
  (f:∀b a w,c b a w→Region.ready .any ops b=[]→Q .normal a w):(Code.region id ops true).wp P Q a w:=
 wp_region_any h (mF c j f _ _ _ _ (by rw[Array.toList_replicate,Xd];exact Nat.le_refl _) g)
def upd(L:Nat→Bool)(i:Nat):Nat→Bool:=fun j=>if j=i then true else L j
theorem Bo(L:Nat→Bool)(i:Nat):upd L i i=true:=if_pos rfl
theorem Ay(L:Nat→Bool){i j:Nat}(a:j≠i):upd L i j=L j:=if_neg a
def Kl(a:Array Bool):Nat→Bool:=fun j=>a.getD j false
theorem lZ{a:Array Bool}{i:Nat}(b:i<a.size):Kl (a.setIfInBounds i true)=upd (Kl a) i:=by
 funext j
 unfold Kl upd
 by_cases hj:j=i
 ·subst hj;simp [Array.getD_eq_getD_getElem?,b]
 ·have:¬i=j:=fun e=>hj e.symm
  simp [Array.getD_eq_getD_getElem?,Array.getElem?_setIfInBounds,hj,this]
def lowOk(ops:Array Oper):Bool:=(List.range ops.size).all fun i=>((ops[i]?).map (fun a=>a.after.all fun e=> !(Region.binds .any e)||decide (e.on<i))).getD true
theorem vJ {ops:Array Oper}{a:Array Bool}(n:lowOk ops=true)(o:a.size=ops.size)(j:Region.ready .any ops a=[]):∀i,i<ops.size→Kl a i=true:=by
 intro i
 induction i using Nat.strongRecOn with
 |_ i ih=>
  intro c
  cases hd:Kl a i with
  |true=>rfl
  |false=>
   exfalso
   have g:i∈Region.ready .any ops a:=by
    unfold Region.ready;rw[List.mem_filter];refine⟨List.mem_range.2 c,?_⟩;rw[Bool.and_eq_true];constructor
    ·have m:i<a.size:=by omega
     unfold Kl at hd;simp only[Array.getD_eq_getD_getElem?,Array.getElem?_eq_getElem m,Option.getD_some]at hd ⊢;rw[hd];rfl
    ·have h:ops[i]? =some ops[i]:=Array.getElem?_eq_getElem c
     rw[h];simp only[Option.map_some,Option.getD_some];rw[Array.all_eq_true_iff_forall_mem];intro e l;have b:=List.all_eq_true.1 n i (List.mem_range.2 c);rw[h]at b;simp only[Option.map_some,Option.getD_some]at b;have d:=Array.all_eq_true_iff_forall_mem.1 b e l
     cases hb:Region.binds .any e with
     |false=>rfl
     |true=>
      rw[hb]at d;have k:e.on<i:=by simpa using d
      have f:=ih e.on k (by omega);unfold Kl at f;rw[f,Bool.or_true]
   rw[j]at g;cases g
theorem Fv {P:Program}{id:Nat}{ops:Array Oper}{Q:Exit→Act→Za→Prop}{a:Act}{w:Za}(q:P.follows .mixedOrders=true)(p:lowOk ops=true)(d:(Nat→Bool)→Act→Za→Prop)(m:d (fun _=>false) a w.drew)
  (s:∀L a w i,d L a w→i<ops.size→L i=false→(∀h,ops[i]? =some h→∀e,e∈h.after→Region.binds .any e=true→L e.on=true)→wpOp P ops Q i (d (upd L i)) a w)
  (k:∀L a w,d L a w→(∀i,i<ops.size→L i=true)→Q .normal a w):(Code.region id ops true).wp P Q a w:=by
 refine iR q (fun c a w=>c.size=ops.size∧d (Kl c) a w) ⟨by simp,?_⟩ ?_ ?_
 ·have:Kl (Array.replicate ops.size false)=fun _=>false:=by
   funext j;unfold Kl
   rw[Array.getD_eq_getD_getElem?,Array.getElem?_replicate];split<;>rfl
  rw[this];exact m
 ·intro c a w i b f g n
  have o:Kl c i=false:=by
   unfold Kl;rw[Array.getElem?_toList]at g;rw[Array.getD_eq_getD_getElem?,g];rfl
  refine wpOp_mono (fun t w' l=>⟨by rw[Array.size_setIfInBounds];exact b.1,?_⟩) (s (Kl c) a w i b.2 f o n);rw[lZ (by rw[b.1];exact f)];exact l
 ·intro c a w b r
  exact k _ _ _ b.2 (vJ p b.1 r)
theorem Bh {P:Program}{ops:Array Oper}{Q:Exit→Act→Za→Prop}{i:Nat}{b:Act→Za→Prop}{a:Act}{w:Za}{c:Oper}(g:ops[i]? =some c)(f:c.guard=none)(e:∀d:Act→Za→Prop,(∀a w,b a w→d a w)→c.wp P a w d Q):wpOp P ops Q i b a w:=by
 unfold wpOp;rw[g];simp only[Region.wanted,f,if_true];exact .inl (e b (fun _ _ q=>q))
theorem kb {L:Nat→Bool}{j k:Nat}{b:Bool}(a:upd L k j=b)(c:j≠k:=by decide):L j=b:=by rwa[Ay L c]at a
theorem kc {L:Nat→Bool}{j k:Nat}{P:Prop}(a:L j=true→P)(b:j≠k:=by decide):upd L k j=true→P:=fun e=>a (kb e b)
theorem kq {L:Nat→Bool}{j i k:Nat}(a:L j=true→L i=true)(c:j≠k:=by decide)(b:i≠k:=by decide):upd L k j=true→upd L k i=true:=fun e=>by rw[Ay L b];exact a (kb e c)
theorem kn {L:Nat→Bool}{j k:Nat}{P:Prop}(a:L j=true→L k=true)(b:L k=false)(c:j≠k:=by decide):upd L k j=true→P:=fun e=>by
 have:=a (kb e c);rw[b]at this;cases this
theorem kl {L:Nat→Bool}{j k:Nat}{P:Prop}(a:L j=false)(b:j≠k:=by decide):upd L k j=true→P:=fun e=>by
 have:=kb e b;rw[a]at this;cases this
theorem kf {L:Nat→Bool}{n k:Nat}(a:L n=true→∀j,j<n→L j=true)(c:L k=false)(b:k<n:=by decide):L n=false:=by
 cases e:L n with
 |false=>rfl
 |true=>have:=a e k b;rw[c]at this;cases this
theorem ks {L:Nat→Bool}{k:Nat}{P:Prop}:upd L k k=false→P:=fun e=>by rw[Bo]at e;cases e
theorem kd {L:Nat→Bool}{j i k:Nat}(a:L i=true)(b:i≠k:=by decide):upd L k j=true→upd L k i=true:=fun _=>by rw[Ay L b];exact a
def La(n:Nat):Code→Option Code
 |.region k o b=>if k==n then some (.region k o b)else none
 |.loop c=>La n c
 |.seq a b=>match La n a with
  |some c=>some c
  |none=>La n b
 |.block _ c=>La n c
 |.scope c=>La n c
 |.cond _ a b=>match La n a with
  |some c=>some c
  |none=>La n b
 |_=>none
theorem kX:(Tryz.prog.info? 50).map (fun i=>(i.zero,i.size,i.bytes))=some (some (.agg #[.int .i64 0,.string ⟨#[]⟩,.slice none 0 0,.slice none 0 0,.slice none 0 0]),5,96):=by kernel_rfl
theorem Au.strong {D:Nat→Prop}{w:Za}{l:List St}{v:Value}(e:Au D w l v):Au (fun b=>D b∧b<w.heap.size) w l v:=by
 induction e with
 |mk l a cap b off sa st se hcap hfit c h0 h1 h2 h3 h4 ea _ _ ih1 ih2=>
  refine .mk l a cap b off sa st se hcap hfit ?_ h0 h1 h2 h3 h4 (fun i g=>(ea i g).strong) ih1 ih2;rcases c with c|⟨c,f⟩
  ·exact .inl c
  ·rcases Nat.eq_zero_or_pos l.length with d|d
   ·exact .inl d
   ·exact .inr ⟨c,f,World.block_lt_of_cell? _ _ (h0 0 d)⟩
structure StV where
 x:St
 a:Value
 t:Value
 e:Value
def Ip(b:List StV):List Value:=b.flatMap fun p=>Fo p.x p.a p.t p.e
theorem Tj:∀(b:List StV) (i q:Nat) (p:StV),b[i]? =some p→q<5→(Ip b)[i*5+q]? =(Fo p.x p.a p.t p.e)[q]?
 |[],i,q,p,h,_=>by simp at h
 |x::b,0,q,p,h,hq=>by
  simp at h;subst h;unfold Ip;rw[List.flatMap_cons,List.getElem?_append_left (by simp [Fo];omega)];simp
 |x::b,i+1,q,p,h,hq=>by
  simp at h;have:=Tj b i q p h hq;unfold Ip at*;rw[List.flatMap_cons,List.getElem?_append_right (by simp [Fo];omega)];rw[←this];congr 1;simp [Fo];omega
theorem jF(a c:List StV):Ip (a++c)=Ip a++Ip c:=by unfold Ip;rw[List.flatMap_append]
def Fc(D:Nat→Prop)(w:Za)(p:StV):Prop:=Ag D w p.x.args p.a∧Au D w p.x.thn p.t∧Au D w p.x.els p.e
theorem Fc.keep {D:Nat→Prop}{w w':Za}(b:Db D w w'){p:StV}(a:Fc D w p):Fc D w' p:=⟨a.1.keep b,a.2.1.keep b,a.2.2.keep b⟩
theorem Fc.mono {D D':Nat→Prop}{w:Za}(c:∀b,D b→D' b){p:StV}(a:Fc D w p):Fc D' w p:=⟨a.1.mono c,a.2.1.mono c,a.2.2.mono c⟩
theorem Fc.strong {D:Nat→Prop}{w:Za}{p:StV}(a:Fc D w p):Fc (fun b=>D b∧b<w.heap.size) w p:=⟨a.1.strong,a.2.1.strong,a.2.2.strong⟩
def Dm(w:Za)(c:Nat)(a:List StV)(v:Value):Prop:=
 w.ownsRow c 50 5 v a.length (Ip a)∧∀p,p∈a→Fc (fun b=>c≤b∧v.ownBlock≠some b) w p
theorem Dm.zero(w:Za)(a:Nat):Dm w a [] (.slice none 0 0):=⟨⟨rfl,.inl ⟨rfl,rfl⟩⟩,fun p b=>by cases b⟩
theorem Dm.keep {w w':Za}{c:Nat}{i:List StV}{v:Value}(d:Dm w c i v)(h:∀k,k<w.heap.size→c≤k→w'.heap[k]? =w.heap[k]?):Dm w' c i v:=by
 refine⟨⟨d.1.1,?_⟩,fun p m=>(d.2 p m).keep (fun b o x a hx=>by rw[World.cell?_of_block (w:=w) (h b (World.block_lt_of_cell? _ _ hx) a.1)];exact hx)⟩;rcases d.1.2 with l|⟨g,cap,j,rfl,a,f,n⟩
 ·exact .inl l
 ·refine .inr ⟨g,cap,j,rfl,a,?_,n⟩
  rw[h g (by
   rcases Nat.lt_or_ge g w.heap.size with e|e
   ·exact e
   ·simp [Array.getElem?_eq_none e]at f) a]
  exact f
theorem Dm.sfr {s:Nat}{w w':Za}{a:Nat}{b:List StV}{v:Value}(c:Dm w a b v)(e:SFr s w w')(g:s<a):Dm w' a b v:=c.keep (fun k d f=>e.block k d (by omega))
theorem Br.sfr {s:Nat}{w w':Za}{a:Nat}{b:List (Ex ×Value)}{v:Value}(c:Br w a b v)(e:SFr s w w')(g:s<a):Br w' a b v:=c.keep (fun k d f=>e.block k d (by omega))
theorem Br.below {w w':Za}{a:Nat}{b:List (Ex ×Value)}{v:Value}(c:Br w a b v)(e:Below w.heap.size w w'):Br w' a b v:=c.keep (fun k d f=>e.block k d)
theorem Br.other {w:Za}{a:Nat}{c:List (Ex ×Value)}{v:Value}(d:Br w a c v){k:Nat}(g:k<a)(i:Nat)(u:Value):Br (w.setCell ⟨k,i,none⟩ u) a c v:=d.keep (fun b e f=>Below.heap_setCell _ _ _ _ (by show b≠k;omega))
theorem Dm.shape {w:Za}{c:Nat}{b:List StV}{v:Value}(d:Dm w c b v):∃a cap,v=.slice a b.length cap:=by
 rcases d.1.2 with⟨rfl,e⟩|⟨g,cap,f,rfl,_⟩
 ·exact⟨none,0,by rw[e]⟩
 ·exact⟨_,_,rfl⟩
theorem Dm.ge {w:Za}{a:Nat}{d:List StV}{v:Value}(b:Dm w a d v){k:Nat}(c:v.ownBlock=some k):a≤k∧k<w.heap.size:=b.1.lt k c
theorem Dm.sts {w:Za}{m:Nat}{c:List StV}{v:Value}(k:Dm w m c v)(B:Cv c.length):Au (m≤ ·) w (c.map (·.x)) v:=by
 have n:(c.map (·.x)).length=c.length:=List.length_map _;rcases k.1.2 with⟨rfl,r⟩|⟨g,cap,G,rfl,h,H,A,l,I,J⟩
 ·have:c=[]:=List.length_eq_zero_iff.1 r
  subst this;exact Au.zero
 ·have j:∀i q p u,c[i]? =some p→q<5→(Fo p.x p.a p.t p.e)[q]? =some u→w.cell? ⟨g,0+i*5+q,none⟩=some u:=by
   intro i q p u f C E;have s:=k.1.cells (g:=g) rfl (i*5+q) u (by rw[Tj c i q p f C];exact E);have y:(⟨g,0,none⟩:Addr).add (i*5+q)=⟨g,0+i*5+q,none⟩:=by unfold Addr.add;split<;>simp_all<;>omega
   rwa[y]at s
  have o:∀i,i<c.length→∃p,c[i]? =some p∧Fk (c.map (·.x)) i=p.x∧p∈c:=by
   intro i d;refine⟨c[i],List.getElem?_eq_getElem d,?_,List.getElem_mem d⟩;simp [Fk,List.getElem?_eq_getElem d]
  let z:StV:=⟨St.nil,undef,undef,undef⟩
  have e:=Au.mk (D:=(m≤ ·)) (w:=w) (c.map (·.x)) (some ⟨g,0,none⟩) cap g 0 (fun i=>(c.getD i z).a) (fun i=>(c.getD i z).t) (fun i=>(c.getD i z).e) (by rw[n];exact A) (by rw[n];exact B) (.inr ⟨rfl,h⟩);rw[n]at e;have F:∀i p,c[i]? =some p→c.getD i z=p:=fun i p f=>by rw[List.getD_eq_getElem?_getD,f];rfl
  refine e (fun i d=>?_) (fun i d=>?_) (fun i d=>?_) (fun i d=>?_) (fun i d=>?_) (fun i d=>?_) (fun i d=>?_) (fun i d=>?_)
  all_goals
   obtain⟨p,f,hx,l⟩:=o i d
   try rw[hx]
   try rw[F i p f]
  ·exact j i 0 p _ f (by omega) rfl
  ·exact j i 1 p _ f (by omega) rfl
  ·exact j i 2 p _ f (by omega) rfl
  ·exact j i 3 p _ f (by omega) rfl
  ·exact j i 4 p _ f (by omega) rfl
  ·exact(k.2 p l).1.mono (fun b h=>h.1)
  ·exact(k.2 p l).2.1.mono (fun b h=>h.1)
  ·exact(k.2 p l).2.2.mono (fun b h=>h.1)
theorem Dm.snoc {w w':Za}{d:Nat}{c:List StV}{v:Value}(k:Dm w d c v)(p:StV)(hx:Fc (fun b=>d≤b∧v.ownBlock≠some b) w p){g cap:Nat}
  (s:w'.ownsRow d 50 5 (.slice (some ⟨g,0,none⟩) (c.length+1) cap) (c.length+1) (Ip c++Fo p.x p.a p.t p.e)) (o:w.grownBy w' v.ownBlock) (i:v.ownBlock=some g∨g=w.heap.size):
  Dm w' d (c++[p]) (.slice (some ⟨g,0,none⟩) (c.length+1) cap):=by
 have r:(c++[p]).length=c.length+1:=by simp
 have n:Ip (c++[p])=Ip c++Fo p.x p.a p.t p.e:=by rw[jF];simp [Ip]
 have j:∀q:StV,Fc (fun b=>d≤b∧v.ownBlock≠some b) w q→Fc (fun b=>d≤b∧(Value.slice (some ⟨g,0,none⟩) (c.length+1) cap).ownBlock≠some b) w' q:=by
  intro q u;have l:Fc (fun b=>(d≤b∧v.ownBlock≠some b)∧b<w.heap.size) w q:=u.strong;have m:Fc (fun b=>(d≤b∧v.ownBlock≠some b)∧b<w.heap.size) w' q:=l.keep (fun b A y h z=>o.cell z (fun e=>h.1.2 e.symm));refine m.mono (fun b h=>⟨h.1.1,?_⟩);show some g≠some b
  intro e
  cases e
  rcases i with i|i
  ·exact h.1.2 i
  ·omega
 refine⟨by rw[r,n];exact s,fun q f=>?_⟩;rcases List.mem_append.1 f with f|f
 ·exact j _ (k.2 q f)
 ·rw[List.mem_singleton.1 f];exact j _ hx
theorem kQ{x:St}{a b c:Option Addr}{n e k i j l:Nat}:∀u,u∈Fo x (.slice a n i) (.slice b e j) (.slice c k l)→u.oneCell'=true:=by
 intro u d;simp only[Fo,List.mem_cons,List.not_mem_nil,or_false]at d;rcases d with rfl|rfl|rfl|rfl|rfl<;>rfl
end Go.Proofs.YthcpopmmlneneaaGreatDoor

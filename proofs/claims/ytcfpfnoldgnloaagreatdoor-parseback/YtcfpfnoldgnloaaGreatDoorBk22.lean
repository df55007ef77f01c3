/-
  Lists of arrays and of functions that are appended to: their own blocks.
-/
import Derived.Test.YtcfpfnoldgnloaaGreatDoorBk21
set_option linter.unusedVariables false
set_option linter.unusedSimpArgs false
namespace Go.Proofs.YtcfpfnoldgnloaaGreatDoor
open Go.RowKit
set_option maxHeartbeats 20000000
set_option maxRecDepth 100000
open Go.Lib renaming hid→Za
open List renaming getElem?_eq_getElem→Zb,length_eq_zero_iff→Zc
theorem infoAr:(Tryz.prog.info? 85).map (fun i=>(i.zero,i.size,i.bytes))=some (some (.agg #[.string ⟨#[]⟩,.int .i64 0]),2,24):=by kernel_rfl
theorem tK:(Tryz.prog.info? 58).map (fun i=>(i.zero,i.size,i.bytes))=some (some (.agg #[.string ⟨#[]⟩,.slice none 0 0,.slice none 0 0,.slice none 0 0]),4,88):=by kernel_rfl
theorem infoStr:(Tryz.prog.info? 9).map (fun i=>(i.zero,i.size,i.bytes))=some (some (.string ⟨#[]⟩),1,16):=by kernel_rfl
def bB(D:Nat→Prop)(w w':World):Prop:= ∀k,D k→k<w.heap.size→w'.heap[k]? =w.heap[k]?
theorem bB.keeps {D:Nat→Prop}{w w':World}(h:bB D w w'):cd D w w':=fun b off x hD hx=>by
 rw[World.cell?_of_block (w:=w) (h b hD (World.block_lt_of_cell? _ _ hx))];exact hx
theorem bB.mono {D D':Nat→Prop}{w w':World}(h:bB D' w w')(hD:∀b,D b→D' b):bB D w w':=fun k hk hl=>h k (hD k hk) hl
theorem bB.below {D:Nat→Prop}{w w':World}(h:Below w.heap.size w w'):bB D w w':=fun k _ hl=>h.block k hl
theorem bB.sfr {s:Nat}{D:Nat→Prop}{w w':World}(h:SFr s w w')(hD:∀b,D b→b≠s):bB D w w':=fun k hk hl=>h.block k hl (hD k hk)
theorem bB.set {D:Nat→Prop}(w:World){k:Nat}(hD:¬D k)(i:Nat)(v:Value):bB D w (w.setCell ⟨k,i,none⟩ v):=fun b hb hl=>Below.heap_setCell _ _ _ _ (by rintro rfl;exact hD hb)
theorem fl {D:Nat→Prop}{w w':World}{base size n:Nat}{e:TypeId}{v:Value}{xs:List Value}(h:w.ownsRow base e size v n xs)(hD:∀k,v.ownBlock=some k→D k)(hk:bB D w w'):w'.ownsRow base e size v n xs:=by
 refine⟨h.1,?_⟩;rcases h.2 with hn|⟨g,cap,cur,rfl,hb,hg,r⟩
 ·exact .inl hn
 ·refine .inr ⟨g,cap,cur,rfl,hb,?_,r⟩
  rw[hk g (hD g rfl) (by
   rcases Nat.lt_or_ge g w.heap.size with h'|h'
   ·exact h'
   ·simp [Array.getElem?_eq_none h']at hg)]
  exact hg
theorem go {w:World}{base size n g:Nat}{e:TypeId}{cap:Nat}{xs:List Value}(h:w.ownsRow base e size (.slice (some ⟨g,0,none⟩) n cap) n xs)(j:Nat)(u:Value)(hu:xs[j]? =some u):w.cell? ⟨g,0+j,none⟩=some u:=by
 have h1:=h.cells (g:=g) rfl j u hu;have h2:(⟨g,0,none⟩:Addr).add j=⟨g,0+j,none⟩:=by unfold Addr.add;split<;>simp_all
 rwa[h2]at h1
theorem lF {α:Type}(f:α→List Value)(k:Nat)(hf:∀x,(f x).length=k):∀(l:List α) (i q:Nat) (p:α),l[i]? =some p→q<k→(l.flatMap f)[i*k+q]? =(f p)[q]?
 |[],i,q,p,h,_=>by simp at h
 |x::l,0,q,p,h,hq=>by
  simp at h;subst h;rw[List.flatMap_cons,List.getElem?_append_left (by rw[hf];omega)];simp
 |x::l,i+1,q,p,h,hq=>by
  simp at h;have:=lF f k hf l i q p h hq;rw[List.flatMap_cons,List.getElem?_append_right (by rw[hf,Nat.add_mul];omega),←this];congr 1;rw[hf,Nat.add_mul];omega
def fA(a:Ar):List Value:=[.string (aB a.name),.int .i64 a.size]
def cL(w:World)(base:Nat)(l:List Ar)(v:Value):Prop:=w.ownsRow base 85 2 v l.length (l.flatMap fA)
theorem cL.zero(w:World)(base:Nat):cL w base [] (.slice none 0 0):=⟨rfl,.inl ⟨rfl,rfl⟩⟩
theorem cL.shape {w:World}{base:Nat}{l:List Ar}{v:Value}(h:cL w base l v):∃a cap,v= .slice a l.length cap:=by
 rcases h.2 with⟨rfl,h0⟩|⟨g,cap,cur,rfl,_⟩
 ·exact⟨none,0,by rw[h0]⟩
 ·exact⟨_,_,rfl⟩
theorem cL.ge {w:World}{base:Nat}{l:List Ar}{v:Value}(h:cL w base l v){k:Nat}(hk:v.ownBlock=some k):base≤k∧k<w.heap.size:=World.ownsRow.lt h k hk
theorem cL.keep {w w':World}{base:Nat}{l:List Ar}{v:Value}(h:cL w base l v)(hk:bB (base≤ ·) w w'):cL w' base l v:=fl h (fun k e=>(h.ge e).1) hk
theorem cL.ars {w:World}{base:Nat}{l:List Ar}{v:Value}(h:cL w base l v)(hf:br l.length):bK (base≤ ·) w l v:=by
 have h0:=h;rcases h.2 with⟨rfl,hz⟩|⟨g,cap,cur,rfl,hb,hg,hc,hm,hs,ht⟩
 ·have:l=[]:=Zc.1 hz
  subst this;exact bK.zero
 ·refine⟨_,cap,g,0,rfl,hc,hf,.inr ⟨rfl,hb⟩,fun i hi=> ?_⟩
  have hp:l[i]? =some (gV l i):=by simp [gV,Zb hi]
  have f0:=lF fA 2 (fun _=>rfl) l i 0 _ hp (by decide);have f1:=lF fA 2 (fun _=>rfl) l i 1 _ hp (by decide);have c0:=go h0 (i*2+0) _ f0;have c1:=go h0 (i*2+1) _ f1;rw[show 0+(i*2+0)=0+i*2 by omega]at c0;rw[show 0+(i*2+1)=0+i*2+1 by omega]at c1;exact⟨c0,c1⟩
theorem cL.snoc {w':World}{base:Nat}{l:List Ar}(a:Ar){g cap:Nat}(hown:w'.ownsRow base 85 2 (.slice (some ⟨g,0,none⟩) (l.length+1) cap) (l.length+1) (l.flatMap fA++fA a)):
  cL w' base (l++[a]) (.slice (some ⟨g,0,none⟩) (l.length+1) cap):=by
 unfold cL;rw[List.length_append,List.flatMap_append];simpa using hown
theorem mg(a:Ar):∀u,u∈fA a→u.oneCell'=true:=by
 intro u hu;simp only[fA,List.mem_cons,List.not_mem_nil,or_false]at hu;rcases hu with rfl|rfl<;>rfl
def dt(w:World)(D:Nat→Prop)(ls:List StV)(v:Value):Prop:=
 w.ownsRow 0 60 5 v ls.length (fP ls)∧(∀k,v.ownBlock=some k→D k∧k<w.heap.size)∧∀p,p∈ls→dV (fun k=>D k∧v.ownBlock≠some k) w p
theorem nY {w:World}{base size n:Nat}{e:TypeId}{v:Value}{xs:List Value}(h:w.ownsRow base e size v n xs){b':Nat}(hb:∀k,v.ownBlock=some k→b'≤k):w.ownsRow b' e size v n xs:=by
 refine⟨h.1,?_⟩;rcases h.2 with hn|⟨g,cap,cur,rfl,_,r⟩
 ·exact .inl hn
 ·exact .inr ⟨g,cap,cur,rfl,hb g rfl,r⟩
theorem cS.toD {w:World}{base:Nat}{ls:List StV}{v:Value}(h:cS w base ls v):dt w (base≤ ·) ls v:=
 ⟨nY h.1 (fun _ _=>Nat.zero_le _),fun k e=>h.ge e,h.2⟩
theorem dt.zero(w:World)(D:Nat→Prop):dt w D [] (.slice none 0 0):=⟨⟨rfl,.inl ⟨rfl,rfl⟩⟩,fun k e=>(by cases e),fun p hp=>(by cases hp)⟩
theorem dt.keep {D:Nat→Prop}{w w':World}{ls:List StV}{v:Value}(h:dt w D ls v)(hk:bB D w w')(hz:w.heap.size≤w'.heap.size):dt w' D ls v:=
 ⟨fl h.1 (fun k e=>(h.2.1 k e).1) hk,fun k e=>⟨(h.2.1 k e).1,Nat.lt_of_lt_of_le (h.2.1 k e).2 hz⟩,fun p hp=>(h.2.2 p hp).keep (hk.mono (fun b hb=>hb.1)).keeps⟩
theorem dt.mono {D D':Nat→Prop}{w:World}{ls:List StV}{v:Value}(h:dt w D ls v)(hD:∀b,D b→b<w.heap.size→D' b):dt w D' ls v:=
 ⟨h.1,fun k e=>⟨hD k (h.2.1 k e).1 (h.2.1 k e).2,(h.2.1 k e).2⟩,fun p hp=>(h.2.2 p hp).strong.mono (fun b hb=>⟨hD b hb.1.1 hb.2,hb.1.2⟩)⟩
theorem dt.shape {D:Nat→Prop}{w:World}{ps:List StV}{v:Value}(h:dt w D ps v):∃a cap,v= .slice a ps.length cap:=by
 rcases h.1.2 with⟨rfl,h0⟩|⟨g,cap,cur,rfl,_⟩
 ·exact⟨none,0,by rw[h0]⟩
 ·exact⟨_,_,rfl⟩
theorem dt.sts {D:Nat→Prop}{w:World}{ps:List StV}{v:Value}(h:dt w D ps v)(hf:br ps.length):aR D w (ps.map (·.x)) v:=by
 have hl:(ps.map (·.x)).length=ps.length:=List.length_map _;rcases h.1.2 with⟨rfl,h0⟩|⟨g,cap,cur,rfl,hb,hg,hc,hm,hs,ht⟩
 ·have:ps=[]:=Zc.1 h0
  subst this;exact aR.zero
 ·have cell:∀i q p u,ps[i]? =some p→q<5→(dr p.x p.a p.t p.e)[q]? =some u→w.cell? ⟨g,0+i*5+q,none⟩=some u:=by
   intro i q p u hp hq hu;have h1:=go h.1 (i*5+q) u (by rw[lu ps i q p hp hq];exact hu)
   rwa[show 0+(i*5+q)=0+i*5+q by omega]at h1
  have gp:∀i,i<ps.length→∃p,ps[i]? =some p∧ez (ps.map (·.x)) i=p.x∧p∈ps:=by
   intro i hi;refine⟨ps[i],Zb hi,?_,List.getElem_mem hi⟩;simp [ez,Zb hi]
  let z:StV:=⟨St.nil,undef,undef,undef⟩
  have e:=aR.mk (D:=D) (w:=w) (ps.map (·.x)) (some ⟨g,0,none⟩) cap g 0 (fun i=>(ps.getD i z).a) (fun i=>(ps.getD i z).t) (fun i=>(ps.getD i z).e) (by rw[hl];exact hc) (by rw[hl];exact hf) (.inr ⟨rfl,(h.2.1 g rfl).1⟩);rw[hl]at e;have sv:∀i p,ps[i]? =some p→ps.getD i z=p:=fun i p hp=>by rw[List.getD_eq_getElem?_getD,hp];rfl
  refine e (fun i hi=> ?_) (fun i hi=> ?_) (fun i hi=> ?_) (fun i hi=> ?_) (fun i hi=> ?_) (fun i hi=> ?_) (fun i hi=> ?_) (fun i hi=> ?_)
  all_goals
   obtain⟨p,hp,hx,hm⟩:=gp i hi
   try rw[hx]
   try rw[sv i p hp]
  ·exact cell i 0 p _ hp (by omega) rfl
  ·exact cell i 1 p _ hp (by omega) rfl
  ·exact cell i 2 p _ hp (by omega) rfl
  ·exact cell i 3 p _ hp (by omega) rfl
  ·exact cell i 4 p _ hp (by omega) rfl
  ·exact(h.2.2 p hm).1.mono (fun b hb=>hb.1)
  ·exact(h.2.2 p hm).2.1.mono (fun b hb=>hb.1)
  ·exact(h.2.2 p hm).2.2.mono (fun b hb=>hb.1)
theorem ag.strong {D:Nat→Prop}{w:World}{l:List Bs}{v:Value}(h:ag D w l v):ag (fun b=>D b∧b<w.heap.size) w l v:=by
 obtain⟨a,cap,b,off,hv,h1,h2,h3,h4⟩:=h;refine⟨a,cap,b,off,hv,h1,h2,?_,h4⟩;rcases h3 with h3|⟨ha,hD⟩
 ·exact .inl h3
 ·rcases Nat.eq_zero_or_pos l.length with hz|hz
  ·exact .inl hz
  ·exact .inr ⟨ha,hD,World.block_lt_of_cell? _ _ (h4 0 hz)⟩
structure FuV where
 x:Fu
 p:Value
 l:Value
 b:Value
def dF(p:FuV):List Value:=[.string (aB p.x.name),p.p,p.l,p.b]
def cu(D:Nat→Prop)(w:World)(p:FuV):Prop:=ag D w p.x.params p.p∧ag D w p.x.locals p.l∧∃ls,ls.map (·.x)=p.x.body∧ls.length≤4∧dt w D ls p.b
theorem cu.keep {D:Nat→Prop}{w w':World}{p:FuV}(h:cu D w p)(hk:bB D w w')(hz:w.heap.size≤w'.heap.size):cu D w' p:=by
 obtain⟨h1,h2,ls,h3,h4,h5⟩:=h;exact⟨h1.keep hk.keeps,h2.keep hk.keeps,ls,h3,h4,h5.keep hk hz⟩
theorem cu.mono {D D':Nat→Prop}{w:World}{p:FuV}(h:cu D w p)(hD:∀b,D b→b<w.heap.size→D' b):cu D' w p:=by
 obtain⟨h1,h2,ls,h3,h4,h5⟩:=h;exact⟨h1.strong.mono (fun b hb=>hD b hb.1 hb.2),h2.strong.mono (fun b hb=>hD b hb.1 hb.2),ls,h3,h4,h5.mono hD⟩
def cP(w:World)(base:Nat)(ps:List FuV)(v:Value):Prop:=
 w.ownsRow base 58 4 v ps.length (ps.flatMap dF)∧∀p,p∈ps→cu (fun b=>base≤b∧v.ownBlock≠some b) w p
theorem cP.zero(w:World)(base:Nat):cP w base [] (.slice none 0 0):=⟨⟨rfl,.inl ⟨rfl,rfl⟩⟩,fun p hp=>by cases hp⟩
theorem cP.shape {w:World}{base:Nat}{ps:List FuV}{v:Value}(h:cP w base ps v):∃a cap,v= .slice a ps.length cap:=by
 rcases h.1.2 with⟨rfl,h0⟩|⟨g,cap,cur,rfl,_⟩
 ·exact⟨none,0,by rw[h0]⟩
 ·exact⟨_,_,rfl⟩
theorem cP.ge {w:World}{base:Nat}{ps:List FuV}{v:Value}(h:cP w base ps v){k:Nat}(hk:v.ownBlock=some k):base≤k∧k<w.heap.size:=World.ownsRow.lt h.1 k hk
theorem cP.keep {w w':World}{base:Nat}{ps:List FuV}{v:Value}(h:cP w base ps v)(hk:bB (base≤ ·) w w')(hz:w.heap.size≤w'.heap.size):cP w' base ps v:=
 ⟨fl h.1 (fun k e=>(h.ge e).1) hk,fun p hp=>(h.2 p hp).keep (hk.mono (fun b hb=>hb.1)) hz⟩
theorem cP.fus {w:World}{base:Nat}{ps:List FuV}{v:Value}(h:cP w base ps v)(hf:br ps.length):bM (base≤ ·) w (ps.map (·.x)) v:=by
 have hl:(ps.map (·.x)).length=ps.length:=List.length_map _;rcases h.1.2 with⟨rfl,hz⟩|⟨g,cap,cur,rfl,hb,hg,hc,hm,hs,ht⟩
 ·have:ps=[]:=Zc.1 hz
  subst this;exact bM.zero
 ·let z:FuV:=⟨Fu.nil,undef,undef,undef⟩
  refine⟨some ⟨g,0,none⟩,cap,g,0,(fun i=>(ps.getD i z).p),(fun i=>(ps.getD i z).l),(fun i=>(ps.getD i z).b),by rw[hl],by rw[hl];exact hc,by rw[hl];exact hf,.inr ⟨rfl,hb⟩,fun i hi=> ?_⟩;rw[hl]at hi;obtain⟨p,hp,hx,hm⟩:∃p,ps[i]? =some p∧cZ (ps.map (·.x)) i=p.x∧p∈ps:=⟨ps[i],Zb hi,by simp [cZ,Zb hi],List.getElem_mem hi⟩;have sv:ps.getD i z=p:=by rw[List.getD_eq_getElem?_getD,hp];rfl
  rw[hx];dsimp only;rw[sv];have cell:∀q u,q<4→(dF p)[q]? =some u→w.cell? ⟨g,0+i*4+q,none⟩=some u:=by
   intro q u hq hu;have h1:=go h.1 (i*4+q) u (by rw[lF dF 4 (fun _=>rfl) ps i q p hp hq];exact hu)
   rwa[show 0+(i*4+q)=0+i*4+q by omega]at h1
  obtain⟨h1,h2,ls,h3,h4,h5⟩:=h.2 p hm;have h6:=h5.sts (show ls.length≤140737488355328 by omega);rw[h3]at h6;exact⟨⟨cell 0 _ (by decide) rfl,cell 1 _ (by decide) rfl,cell 2 _ (by decide) rfl,cell 3 _ (by decide) rfl⟩,h1.mono (fun b hb=>hb.1),h2.mono (fun b hb=>hb.1),h6.mono (fun b hb=>hb.1)⟩
theorem cP.snoc {w w':World}{base:Nat}{ps:List FuV}{v:Value}(h:cP w base ps v)(p:FuV)(hx:cu (fun b=>base≤b∧v.ownBlock≠some b) w p){g cap:Nat}
  (hown:w'.ownsRow base 58 4 (.slice (some ⟨g,0,none⟩) (ps.length+1) cap) (ps.length+1) (ps.flatMap dF++dF p)) (hgrow:w.grownBy w' v.ownBlock) (hg:v.ownBlock=some g∨g=w.heap.size):
  cP w' base (ps++[p]) (.slice (some ⟨g,0,none⟩) (ps.length+1) cap):=by
 have keep:∀q:FuV,cu (fun b=>base≤b∧v.ownBlock≠some b) w q→cu (fun b=>base≤b∧(Value.slice (some ⟨g,0,none⟩) (ps.length+1) cap).ownBlock≠some b) w' q:=by
  intro q hu;have h1:cu (fun b=>base≤b∧(v.ownBlock≠some b∧b<w.heap.size)) w q:=hu.mono (fun b hb hl=>⟨hb.1,hb.2,hl⟩);have h2:=h1.keep (w':=w') (fun k hk hl=>hgrow.block k hl (fun e=>hk.2.1 e.symm)) hgrow.size;refine h2.mono (fun b hb _=>⟨hb.1,?_⟩);show some g≠some b
  intro e
  cases e
  rcases hg with hg|hg
  ·exact hb.2.1 hg
  ·have:=hb.2.2;omega
 refine⟨?_,fun q hq=> ?_⟩
 ·rw[List.length_append,List.flatMap_append];simpa using hown
 ·rcases List.mem_append.1 hq with hq|hq
  ·exact keep _ (h.2 q hq)
  ·rw[List.mem_singleton.1 hq];exact keep _ hx
theorem pm(n:Bs)(x:Fu)(a b c:Option Addr)(i j k i' j' k':Nat):∀u,u∈dF ⟨x,.slice a i i',.slice b j j',.slice c k k'⟩→u.oneCell'=true:=by
 intro u hu;simp only[dF,List.mem_cons,List.not_mem_nil,or_false]at hu;rcases hu with rfl|rfl|rfl|rfl<;>rfl
noncomputable def zU (n:Nat):Code:=((Tryz.f19.body.bind (gZ n)).getD .skip)
noncomputable def qR (n:Nat):Code:=((Tryz.f19.body.bind (gF (jk n))).getD .skip)
def bT(l:List Bs):List Value:=l.map fun x=> .string (aB x)
def lU(l:List Int):List Value:=l.map fun x=> .int .i64 x
theorem xK:∀j:Fin 3,(bT dj)[j.val]? =some (.string (aB (dj.getD j.val []))):=by
 intro j;match j with
 |⟨0,_⟩=>rfl
 |⟨1,_⟩=>rfl
 |⟨2,_⟩=>rfl
theorem zG:∀j:Fin 4,(lU dp)[j.val]? =some (.int .i64 (dp.getD j.val 0)):=by
 intro j;match j with
 |⟨0,_⟩=>rfl
 |⟨1,_⟩=>rfl
 |⟨2,_⟩=>rfl
 |⟨3,_⟩=>rfl
structure V9 (S i a:Nat)(raw:List Int)(W:World)(L:Nat→Bool)(z9 z34 z35 z36 z37 z38 z39 z40 z41 z42 z43:Value)(wx:World):Prop where
 fr:SFr S W wx
 src:aZ wx S raw (if L 6=true then(aC raw a 4).2 else a)
 ord:L 11=true→∀j,j<11→L j=true
 c0:L 0=true→L 11=false→∃b,z34= .slice (some ⟨b,0,none⟩) 3 3∧W.heap.size≤b∧aG wx b (bT dj) 9
 c1:L 1=true→z35= .int .i64 (i:Int)
 c2:L 2=true→L 11=false→∃b,z36= .pointer (some ⟨b,i,none⟩)∧W.heap.size≤b∧aG wx b (bT dj) 9
 c3:L 3=true→z37= .string (aB (dj.getD i []))
 c4:L 4=true→L 11=false→∃b,z38= .slice (some ⟨b,0,none⟩) 4 4∧W.heap.size≤b∧aG wx b (lU dp) 3
 c5:L 5=true→z39= .pointer (some ⟨S,0,none⟩)
 c6:L 6=true→z40= .int .i64 (aC raw a 4).1
 c7:L 7=true→L 11=false→∃b,z41= .pointer (some ⟨b,(aC raw a 4).1.toNat,none⟩)∧W.heap.size≤b∧aG wx b (lU dp) 3
 c8:L 8=true→z42= .int .i64 (dp.getD (aC raw a 4).1.toNat 0)
 c9:L 9=true→z43= .agg #[.string (aB (dj.getD i [])),.int .i64 (dp.getD (aC raw a 4).1.toNat 0)]
 c10:L 10=true→∃b,z9= .pointer (some ⟨b,0,none⟩)∧W.heap.size≤b∧aG wx b (if L 11=true then [.string (aB (dj.getD i [])),.int .i64 (dp.getD (aC raw a 4).1.toNat 0)]else [.string ⟨#[]⟩,.int .i64 0]) 85
def R9(S i a:Nat)(raw:List Int)(W:World)(q0 q1 q2 q3 q4 q6 q7 q10 q11 q12 q13 q14 q15 q16 q17 q18 q19 q20 q21 q22 q23 q24 q25 q26 q27 q28 q29 q30 q31 q32 q33 q44 q45 q46 q47 q48 q49 q50 q51 q52 q53 q54 q55 q56 q57 q58 q59 q60 q61 q62 q63 q64 q65 q66 q67 q68 q69 q70 q71 q72 q73 q74 q75 q76 q77 q78 q79 q80 q81 q82 q83 q84 q85 q86 q87 q88 q89 q90 q91 q92 q93 q94 q95 q96 q97 q98 q99 q100 q101 q102 q103 q104 q105 q106 q107 q108 q109 q110 q111 q112 q113 q114 q115 q116 q117 q118 q119:Value)(a':Act)(w':World):Prop:=
 ∃z9 z34 z35 z36 z37 z38 z39 z40 z41 z42 z43:Value,(∃b,z9= .pointer (some ⟨b,0,none⟩)∧W.heap.size≤b∧aG w' b [.string (aB (dj.getD i [])),.int .i64 (dp.getD (aC raw a 4).1.toNat 0)] 85∧aZ w' S raw (aC raw a 4).2∧SFr S W w')∧a'=⟨[q0,q1,q2,q3,q4,.pointer (some ⟨S,0,none⟩),q6,q7,.int .i64 (i:Int),z9,q10,q11,q12,q13,q14,q15,q16,q17,q18,q19,q20,q21,q22,q23,q24,q25,q26,q27,q28,q29,q30,q31,q32,q33,z34,z35,z36,z37,z38,z39,z40,z41,z42,z43,q44,q45,q46,q47,q48,q49,q50,q51,q52,q53,q54,q55,q56,q57,q58,q59,q60,q61,q62,q63,q64,q65,q66,q67,q68,q69,q70,q71,q72,q73,q74,q75,q76,q77,q78,q79,q80,q81,q82,q83,q84,q85,q86,q87,q88,q89,q90,q91,q92,q93,q94,q95,q96,q97,q98,q99,q100,q101,q102,q103,q104,q105,q106,q107,q108,q109,q110,q111,q112,q113,q114,q115,q116,q117,q118,q119].toArray,[]⟩
def I9(S i a:Nat)(raw:List Int)(W:World)(q0 q1 q2 q3 q4 q6 q7 q10 q11 q12 q13 q14 q15 q16 q17 q18 q19 q20 q21 q22 q23 q24 q25 q26 q27 q28 q29 q30 q31 q32 q33 q44 q45 q46 q47 q48 q49 q50 q51 q52 q53 q54 q55 q56 q57 q58 q59 q60 q61 q62 q63 q64 q65 q66 q67 q68 q69 q70 q71 q72 q73 q74 q75 q76 q77 q78 q79 q80 q81 q82 q83 q84 q85 q86 q87 q88 q89 q90 q91 q92 q93 q94 q95 q96 q97 q98 q99 q100 q101 q102 q103 q104 q105 q106 q107 q108 q109 q110 q111 q112 q113 q114 q115 q116 q117 q118 q119:Value)(L:Nat→Bool)(a':Act)(w':World):Prop:=
 ∃z9 z34 z35 z36 z37 z38 z39 z40 z41 z42 z43:Value,V9 S i a raw W L z9 z34 z35 z36 z37 z38 z39 z40 z41 z42 z43 w'∧a'=⟨[q0,q1,q2,q3,q4,.pointer (some ⟨S,0,none⟩),q6,q7,.int .i64 (i:Int),z9,q10,q11,q12,q13,q14,q15,q16,q17,q18,q19,q20,q21,q22,q23,q24,q25,q26,q27,q28,q29,q30,q31,q32,q33,z34,z35,z36,z37,z38,z39,z40,z41,z42,z43,q44,q45,q46,q47,q48,q49,q50,q51,q52,q53,q54,q55,q56,q57,q58,q59,q60,q61,q62,q63,q64,q65,q66,q67,q68,q69,q70,q71,q72,q73,q74,q75,q76,q77,q78,q79,q80,q81,q82,q83,q84,q85,q86,q87,q88,q89,q90,q91,q92,q93,q94,q95,q96,q97,q98,q99,q100,q101,q102,q103,q104,q105,q106,q107,q108,q109,q110,q111,q112,q113,q114,q115,q116,q117,q118,q119].toArray,[]⟩
theorem pg_reg9(S i a:Nat)(raw:List Int)(W:World)(hs:aZ W S raw a)(hi:1≤i∧i≤2)(q0 q1 q2 q3 q4 q6 q7 q9 q10 q11 q12 q13 q14 q15 q16 q17 q18 q19 q20 q21 q22 q23 q24 q25 q26 q27 q28 q29 q30 q31 q32 q33 q34 q35 q36 q37 q38 q39 q40 q41 q42 q43 q44 q45 q46 q47 q48 q49 q50 q51 q52 q53 q54 q55 q56 q57 q58 q59 q60 q61 q62 q63 q64 q65 q66 q67 q68 q69 q70 q71 q72 q73 q74 q75 q76 q77 q78 q79 q80 q81 q82 q83 q84 q85 q86 q87 q88 q89 q90 q91 q92 q93 q94 q95 q96 q97 q98 q99 q100 q101 q102 q103 q104 q105 q106 q107 q108 q109 q110 q111 q112 q113 q114 q115 q116 q117 q118 q119:Value)(J K':Act→World→Prop)(hJ:∀a' w',R9 S i a raw W q0 q1 q2 q3 q4 q6 q7 q10 q11 q12 q13 q14 q15 q16 q17 q18 q19 q20 q21 q22 q23 q24 q25 q26 q27 q28 q29 q30 q31 q32 q33 q44 q45 q46 q47 q48 q49 q50 q51 q52 q53 q54 q55 q56 q57 q58 q59 q60 q61 q62 q63 q64 q65 q66 q67 q68 q69 q70 q71 q72 q73 q74 q75 q76 q77 q78 q79 q80 q81 q82 q83 q84 q85 q86 q87 q88 q89 q90 q91 q92 q93 q94 q95 q96 q97 q98 q99 q100 q101 q102 q103 q104 q105 q106 q107 q108 q109 q110 q111 q112 q113 q114 q115 q116 q117 q118 q119 a' w'→J a' w')(hM:∀a' w',Met J a' w'→K' a' w'):
  Code.wp Tryz.prog (zU 9) (Exit.then K' (fun _ _ _=>False)) ⟨[q0,q1,q2,q3,q4,.pointer (some ⟨S,0,none⟩),q6,q7,.int .i64 (i:Int),q9,q10,q11,q12,q13,q14,q15,q16,q17,q18,q19,q20,q21,q22,q23,q24,q25,q26,q27,q28,q29,q30,q31,q32,q33,q34,q35,q36,q37,q38,q39,q40,q41,q42,q43,q44,q45,q46,q47,q48,q49,q50,q51,q52,q53,q54,q55,q56,q57,q58,q59,q60,q61,q62,q63,q64,q65,q66,q67,q68,q69,q70,q71,q72,q73,q74,q75,q76,q77,q78,q79,q80,q81,q82,q83,q84,q85,q86,q87,q88,q89,q90,q91,q92,q93,q94,q95,q96,q97,q98,q99,q100,q101,q102,q103,q104,q105,q106,q107,q108,q109,q110,q111,q112,q113,q114,q115,q116,q117,q118,q119].toArray,[]⟩ W:=by
 conv=>arg 2;whnf
 dsimp only;refine db (by kernel_rfl) (by kernel_rfl) (I9 S i a raw W q0 q1 q2 q3 q4 q6 q7 q10 q11 q12 q13 q14 q15 q16 q17 q18 q19 q20 q21 q22 q23 q24 q25 q26 q27 q28 q29 q30 q31 q32 q33 q44 q45 q46 q47 q48 q49 q50 q51 q52 q53 q54 q55 q56 q57 q58 q59 q60 q61 q62 q63 q64 q65 q66 q67 q68 q69 q70 q71 q72 q73 q74 q75 q76 q77 q78 q79 q80 q81 q82 q83 q84 q85 q86 q87 q88 q89 q90 q91 q92 q93 q94 q95 q96 q97 q98 q99 q100 q101 q102 q103 q104 q105 q106 q107 q108 q109 q110 q111 q112 q113 q114 q115 q116 q117 q118 q119) ?_ ?_ ?_
 ·refine⟨q9,q34,q35,q36,q37,q38,q39,q40,q41,q42,q43,⟨SFr.of_below (Below.refl _ _).drew,by rw[if_neg (by decide)];exact hs.old (Below.refl _ _).drew,fun h=>(by cases h),fun h=>(by cases h),fun h=>(by cases h),fun h=>(by cases h),fun h=>(by cases h),fun h=>(by cases h),fun h=>(by cases h),fun h=>(by cases h),fun h=>(by cases h),fun h=>(by cases h),fun h=>(by cases h),fun h=>(by cases h)⟩,rfl⟩
 ·intro L act wx k hI hk hl hd
  obtain⟨z9,z34,z35,z36,z37,z38,z39,z40,z41,z42,z43,hV,rfl⟩:=hI;have hk:k=0∨k=1∨k=2∨k=3∨k=4∨k=5∨k=6∨k=7∨k=8∨k=9∨k=10∨k=11:=by
   have:k<12:=hk;omega
  rcases hk with rfl|rfl|rfl|rfl|rfl|rfl|rfl|rfl|rfl|rfl|rfl|rfl
  ·have n11:L 11=false:=by
    cases h:L 11 with
    |false=>rfl
    |true=>have:=hV.ord h 0 (by decide);rw[hl]at this;cases this
   have hal:Below wx.heap.size wx (wx.alloc (.cells (bT dj).toArray 9)):=bA;have keep:∀b cs T,W.heap.size≤b→aG wx b cs T→aG (wx.alloc (.cells (bT dj).toArray 9)) b cs T:=fun b cs T _ h=>h.old hal
   have HV:=Za hV;have HD:=Za hd;have HL:=Za hl;refine am _ rfl rfl (fun K' hK=> ?_)
   conv=>arg 2;whnf
   go_wp2_with fail
   exact⟨z9,.slice (some ⟨wx.heap.size,0,none⟩) 3 3,z35,z36,z37,z38,z39,z40,z41,z42,z43,⟨hV.fr.trans (SFr.of_below hal),(by rw[aI L (show 6≠0 by decide)];exact hV.src.old hal),(fun h j hj=>by rw[aI L (show 11≠0 by decide)]at h;have:=hV.ord h 0 (by decide);rw[hl]at this;cases this),(fun _ _=>⟨wx.heap.size,rfl,hV.fr.size,aG.new wx (bT dj) _⟩),(fun h=>hV.c1 (uo h)),(fun h h11=>by obtain⟨b,e1,e2,e3⟩:=hV.c2 (uo h) (uo h11);exact⟨b,e1,e2,keep b _ _ e2 e3⟩),(fun h=>hV.c3 (uo h)),(fun h h11=>by obtain⟨b,e1,e2,e3⟩:=hV.c4 (uo h) (uo h11);exact⟨b,e1,e2,keep b _ _ e2 e3⟩),(fun h=>hV.c5 (uo h)),(fun h=>hV.c6 (uo h)),(fun h h11=>by obtain⟨b,e1,e2,e3⟩:=hV.c7 (uo h) (uo h11);exact⟨b,e1,e2,keep b _ _ e2 e3⟩),(fun h=>hV.c8 (uo h)),(fun h=>hV.c9 (uo h)),(fun h=>by obtain⟨b,e1,e2,e3⟩:=hV.c10 (uo h);rw[aI L (show 11≠0 by decide)];exact⟨b,e1,e2,keep b _ _ e2 e3⟩)⟩,rfl⟩
  ·have n11:L 11=false:=by
    cases h:L 11 with
    |false=>rfl
    |true=>have:=hV.ord h 1 (by decide);rw[hl]at this;cases this
   have HV:=Za hV;have HD:=Za hd;have HL:=Za hl;refine am _ rfl rfl (fun K' hK=> ?_)
   conv=>arg 2;whnf
   go_wp2_with fail
   exact⟨z9,z34,.int .i64 (i:Int),z36,z37,z38,z39,z40,z41,z42,z43,⟨hV.fr,(by rw[aI L (show 6≠1 by decide)];exact hV.src),(fun h j hj=>by rw[aI L (show 11≠1 by decide)]at h;have:=hV.ord h 1 (by decide);rw[hl]at this;cases this),(fun h h11=>by obtain⟨b,e1,e2,e3⟩:=hV.c0 (uo h) (uo h11);exact⟨b,e1,e2,e3⟩),(fun _=>rfl),(fun h h11=>by obtain⟨b,e1,e2,e3⟩:=hV.c2 (uo h) (uo h11);exact⟨b,e1,e2,e3⟩),(fun h=>hV.c3 (uo h)),(fun h h11=>by obtain⟨b,e1,e2,e3⟩:=hV.c4 (uo h) (uo h11);exact⟨b,e1,e2,e3⟩),(fun h=>hV.c5 (uo h)),(fun h=>hV.c6 (uo h)),(fun h h11=>by obtain⟨b,e1,e2,e3⟩:=hV.c7 (uo h) (uo h11);exact⟨b,e1,e2,e3⟩),(fun h=>hV.c8 (uo h)),(fun h=>hV.c9 (uo h)),(fun h=>by obtain⟨b,e1,e2,e3⟩:=hV.c10 (uo h);rw[aI L (show 11≠1 by decide)];exact⟨b,e1,e2,e3⟩)⟩,rfl⟩
  ·have n11:L 11=false:=by
    cases h:L 11 with
    |false=>rfl
    |true=>have:=hV.ord h 2 (by decide);rw[hl]at this;cases this
   have d0:L 0=true:=hd _ rfl ⟨0,.data⟩ (by simp) rfl;have d1:L 1=true:=hd _ rfl ⟨1,.data⟩ (by simp) rfl;obtain⟨b,rfl,hb,ho⟩:=hV.c0 d0 n11;obtain rfl:=hV.c1 d1;have hi3:(i:Int)<3:=by omega
   have HV:=Za hV;have HD:=Za hd;have HL:=Za hl;refine am _ rfl rfl (fun K' hK=> ?_)
   conv=>arg 2;whnf
   go_wp2_with fail
   exact⟨z9,.slice (some ⟨b,0,none⟩) 3 3,.int .i64 (i:Int),.pointer (some ⟨b,i,none⟩),z37,z38,z39,z40,z41,z42,z43,⟨hV.fr,(by rw[aI L (show 6≠2 by decide)];exact hV.src),(fun h j hj=>by rw[aI L (show 11≠2 by decide)]at h;have:=hV.ord h 2 (by decide);rw[hl]at this;cases this),(fun h h11=>by obtain⟨b,e1,e2,e3⟩:=hV.c0 (uo h) (uo h11);exact⟨b,e1,e2,e3⟩),(fun h=>hV.c1 (uo h)),(fun _ _=>⟨b,rfl,hb,ho⟩),(fun h=>hV.c3 (uo h)),(fun h h11=>by obtain⟨b,e1,e2,e3⟩:=hV.c4 (uo h) (uo h11);exact⟨b,e1,e2,e3⟩),(fun h=>hV.c5 (uo h)),(fun h=>hV.c6 (uo h)),(fun h h11=>by obtain⟨b,e1,e2,e3⟩:=hV.c7 (uo h) (uo h11);exact⟨b,e1,e2,e3⟩),(fun h=>hV.c8 (uo h)),(fun h=>hV.c9 (uo h)),(fun h=>by obtain⟨b,e1,e2,e3⟩:=hV.c10 (uo h);rw[aI L (show 11≠2 by decide)];exact⟨b,e1,e2,e3⟩)⟩,rfl⟩
  ·have n11:L 11=false:=by
    cases h:L 11 with
    |false=>rfl
    |true=>have:=hV.ord h 3 (by decide);rw[hl]at this;cases this
   have d2:L 2=true:=hd _ rfl ⟨2,.data⟩ (by simp) rfl;obtain⟨b,rfl,hb,ho⟩:=hV.c2 d2 n11;have hx:=ho.at i _ (xK ⟨i,by omega⟩);have HV:=Za hV;have HD:=Za hd;have HL:=Za hl;refine am _ rfl rfl (fun K' hK=> ?_)
   conv=>arg 2;whnf
   go_wp2_with fail
   exact⟨z9,z34,z35,.pointer (some ⟨b,i,none⟩),.string (aB (dj.getD i [])),z38,z39,z40,z41,z42,z43,⟨hV.fr,(by rw[aI L (show 6≠3 by decide)];exact hV.src),(fun h j hj=>by rw[aI L (show 11≠3 by decide)]at h;have:=hV.ord h 3 (by decide);rw[hl]at this;cases this),(fun h h11=>by obtain⟨b,e1,e2,e3⟩:=hV.c0 (uo h) (uo h11);exact⟨b,e1,e2,e3⟩),(fun h=>hV.c1 (uo h)),(fun h h11=>by obtain⟨b,e1,e2,e3⟩:=hV.c2 (uo h) (uo h11);exact⟨b,e1,e2,e3⟩),(fun _=>rfl),(fun h h11=>by obtain⟨b,e1,e2,e3⟩:=hV.c4 (uo h) (uo h11);exact⟨b,e1,e2,e3⟩),(fun h=>hV.c5 (uo h)),(fun h=>hV.c6 (uo h)),(fun h h11=>by obtain⟨b,e1,e2,e3⟩:=hV.c7 (uo h) (uo h11);exact⟨b,e1,e2,e3⟩),(fun h=>hV.c8 (uo h)),(fun h=>hV.c9 (uo h)),(fun h=>by obtain⟨b,e1,e2,e3⟩:=hV.c10 (uo h);rw[aI L (show 11≠3 by decide)];exact⟨b,e1,e2,e3⟩)⟩,rfl⟩
  ·have n11:L 11=false:=by
    cases h:L 11 with
    |false=>rfl
    |true=>have:=hV.ord h 4 (by decide);rw[hl]at this;cases this
   have hal:Below wx.heap.size wx (wx.alloc (.cells (lU dp).toArray 3)):=bA;have keep:∀b cs T,W.heap.size≤b→aG wx b cs T→aG (wx.alloc (.cells (lU dp).toArray 3)) b cs T:=fun b cs T _ h=>h.old hal
   have HV:=Za hV;have HD:=Za hd;have HL:=Za hl;refine am _ rfl rfl (fun K' hK=> ?_)
   conv=>arg 2;whnf
   go_wp2_with fail
   exact⟨z9,z34,z35,z36,z37,.slice (some ⟨wx.heap.size,0,none⟩) 4 4,z39,z40,z41,z42,z43,⟨hV.fr.trans (SFr.of_below hal),(by rw[aI L (show 6≠4 by decide)];exact hV.src.old hal),(fun h j hj=>by rw[aI L (show 11≠4 by decide)]at h;have:=hV.ord h 4 (by decide);rw[hl]at this;cases this),(fun h h11=>by obtain⟨b,e1,e2,e3⟩:=hV.c0 (uo h) (uo h11);exact⟨b,e1,e2,keep b _ _ e2 e3⟩),(fun h=>hV.c1 (uo h)),(fun h h11=>by obtain⟨b,e1,e2,e3⟩:=hV.c2 (uo h) (uo h11);exact⟨b,e1,e2,keep b _ _ e2 e3⟩),(fun h=>hV.c3 (uo h)),(fun _ _=>⟨wx.heap.size,rfl,hV.fr.size,aG.new wx (lU dp) _⟩),(fun h=>hV.c5 (uo h)),(fun h=>hV.c6 (uo h)),(fun h h11=>by obtain⟨b,e1,e2,e3⟩:=hV.c7 (uo h) (uo h11);exact⟨b,e1,e2,keep b _ _ e2 e3⟩),(fun h=>hV.c8 (uo h)),(fun h=>hV.c9 (uo h)),(fun h=>by obtain⟨b,e1,e2,e3⟩:=hV.c10 (uo h);rw[aI L (show 11≠4 by decide)];exact⟨b,e1,e2,keep b _ _ e2 e3⟩)⟩,rfl⟩
  ·have n11:L 11=false:=by
    cases h:L 11 with
    |false=>rfl
    |true=>have:=hV.ord h 5 (by decide);rw[hl]at this;cases this
   have HV:=Za hV;have HD:=Za hd;have HL:=Za hl;refine am _ rfl rfl (fun K' hK=> ?_)
   conv=>arg 2;whnf
   go_wp2_with fail
   exact⟨z9,z34,z35,z36,z37,z38,.pointer (some ⟨S,0,none⟩),z40,z41,z42,z43,⟨hV.fr,(by rw[aI L (show 6≠5 by decide)];exact hV.src),(fun h j hj=>by rw[aI L (show 11≠5 by decide)]at h;have:=hV.ord h 5 (by decide);rw[hl]at this;cases this),(fun h h11=>by obtain⟨b,e1,e2,e3⟩:=hV.c0 (uo h) (uo h11);exact⟨b,e1,e2,e3⟩),(fun h=>hV.c1 (uo h)),(fun h h11=>by obtain⟨b,e1,e2,e3⟩:=hV.c2 (uo h) (uo h11);exact⟨b,e1,e2,e3⟩),(fun h=>hV.c3 (uo h)),(fun h h11=>by obtain⟨b,e1,e2,e3⟩:=hV.c4 (uo h) (uo h11);exact⟨b,e1,e2,e3⟩),(fun _=>rfl),(fun h=>hV.c6 (uo h)),(fun h h11=>by obtain⟨b,e1,e2,e3⟩:=hV.c7 (uo h) (uo h11);exact⟨b,e1,e2,e3⟩),(fun h=>hV.c8 (uo h)),(fun h=>hV.c9 (uo h)),(fun h=>by obtain⟨b,e1,e2,e3⟩:=hV.c10 (uo h);rw[aI L (show 11≠5 by decide)];exact⟨b,e1,e2,e3⟩)⟩,rfl⟩
  ·have n11:L 11=false:=by
    cases h:L 11 with
    |false=>rfl
    |true=>have:=hV.ord h 6 (by decide);rw[hl]at this;cases this
   have d5:L 5=true:=hd _ rfl ⟨5,.data⟩ (by simp) rfl;obtain rfl:=hV.c5 d5;have hsrc:=hV.src;rw[if_neg (by rw[hl];decide)]at hsrc;have hsS:=hs.lt;have HV:=Za hV;have HD:=Za hd;have HL:=Za hl;refine am _ rfl rfl (fun K' hK=> ?_)
   conv=>arg 2;whnf
   go_wp2_with fail
   refine(bQ S raw a 4 wx hsrc (by decide) (by decide)).mono ?_;rintro r w2 ⟨rfl,hs2,hf2⟩;have keep:∀b cs T,W.heap.size≤b→aG wx b cs T→aG w2 b cs T:=fun b cs T hb h=>h.sfr hf2 (by omega)
   go_wp2_with fail
   exact⟨z9,z34,z35,z36,z37,z38,.pointer (some ⟨S,0,none⟩),.int .i64 (aC raw a 4).1,z41,z42,z43,⟨hV.fr.trans hf2,(by rw[ak,if_pos rfl];exact hs2),(fun h j hj=>by rw[aI L (show 11≠6 by decide)]at h;have:=hV.ord h 6 (by decide);rw[hl]at this;cases this),(fun h h11=>by obtain⟨b,e1,e2,e3⟩:=hV.c0 (uo h) (uo h11);exact⟨b,e1,e2,keep b _ _ e2 e3⟩),(fun h=>hV.c1 (uo h)),(fun h h11=>by obtain⟨b,e1,e2,e3⟩:=hV.c2 (uo h) (uo h11);exact⟨b,e1,e2,keep b _ _ e2 e3⟩),(fun h=>hV.c3 (uo h)),(fun h h11=>by obtain⟨b,e1,e2,e3⟩:=hV.c4 (uo h) (uo h11);exact⟨b,e1,e2,keep b _ _ e2 e3⟩),(fun h=>hV.c5 (uo h)),(fun _=>rfl),(fun h h11=>by obtain⟨b,e1,e2,e3⟩:=hV.c7 (uo h) (uo h11);exact⟨b,e1,e2,keep b _ _ e2 e3⟩),(fun h=>hV.c8 (uo h)),(fun h=>hV.c9 (uo h)),(fun h=>by obtain⟨b,e1,e2,e3⟩:=hV.c10 (uo h);rw[aI L (show 11≠6 by decide)];exact⟨b,e1,e2,keep b _ _ e2 e3⟩)⟩,rfl⟩
  ·have n11:L 11=false:=by
    cases h:L 11 with
    |false=>rfl
    |true=>have:=hV.ord h 7 (by decide);rw[hl]at this;cases this
   have d4:L 4=true:=hd _ rfl ⟨4,.data⟩ (by simp) rfl;have d6:L 6=true:=hd _ rfl ⟨6,.data⟩ (by simp) rfl;obtain⟨b,rfl,hb,ho⟩:=hV.c4 d4 n11;obtain rfl:=hV.c6 d6;have hr:=aM raw a 4 (by decide);obtain⟨g0,g1⟩:=hr;have HV:=Za hV;have HD:=Za hd;have HL:=Za hl;refine am _ rfl rfl (fun K' hK=> ?_)
   conv=>arg 2;whnf
   go_wp2_with fail
   exact⟨z9,z34,z35,z36,z37,.slice (some ⟨b,0,none⟩) 4 4,z39,.int .i64 (aC raw a 4).1,.pointer (some ⟨b,(aC raw a 4).1.toNat,none⟩),z42,z43,⟨hV.fr,(by rw[aI L (show 6≠7 by decide)];exact hV.src),(fun h j hj=>by rw[aI L (show 11≠7 by decide)]at h;have:=hV.ord h 7 (by decide);rw[hl]at this;cases this),(fun h h11=>by obtain⟨b,e1,e2,e3⟩:=hV.c0 (uo h) (uo h11);exact⟨b,e1,e2,e3⟩),(fun h=>hV.c1 (uo h)),(fun h h11=>by obtain⟨b,e1,e2,e3⟩:=hV.c2 (uo h) (uo h11);exact⟨b,e1,e2,e3⟩),(fun h=>hV.c3 (uo h)),(fun h h11=>by obtain⟨b,e1,e2,e3⟩:=hV.c4 (uo h) (uo h11);exact⟨b,e1,e2,e3⟩),(fun h=>hV.c5 (uo h)),(fun h=>hV.c6 (uo h)),(fun _ _=>⟨b,rfl,hb,ho⟩),(fun h=>hV.c8 (uo h)),(fun h=>hV.c9 (uo h)),(fun h=>by obtain⟨b,e1,e2,e3⟩:=hV.c10 (uo h);rw[aI L (show 11≠7 by decide)];exact⟨b,e1,e2,e3⟩)⟩,rfl⟩
  ·have n11:L 11=false:=by
    cases h:L 11 with
    |false=>rfl
    |true=>have:=hV.ord h 8 (by decide);rw[hl]at this;cases this
   have d7:L 7=true:=hd _ rfl ⟨7,.data⟩ (by simp) rfl;obtain⟨b,rfl,hb,ho⟩:=hV.c7 d7 n11;have hr:=aM raw a 4 (by decide);have hx:=ho.at (aC raw a 4).1.toNat _ (zG ⟨(aC raw a 4).1.toNat,by omega⟩);have HV:=Za hV;have HD:=Za hd;have HL:=Za hl;refine am _ rfl rfl (fun K' hK=> ?_)
   conv=>arg 2;whnf
   go_wp2_with fail
   exact⟨z9,z34,z35,z36,z37,z38,z39,z40,.pointer (some ⟨b,(aC raw a 4).1.toNat,none⟩),.int .i64 (dp.getD (aC raw a 4).1.toNat 0),z43,⟨hV.fr,(by rw[aI L (show 6≠8 by decide)];exact hV.src),(fun h j hj=>by rw[aI L (show 11≠8 by decide)]at h;have:=hV.ord h 8 (by decide);rw[hl]at this;cases this),(fun h h11=>by obtain⟨b,e1,e2,e3⟩:=hV.c0 (uo h) (uo h11);exact⟨b,e1,e2,e3⟩),(fun h=>hV.c1 (uo h)),(fun h h11=>by obtain⟨b,e1,e2,e3⟩:=hV.c2 (uo h) (uo h11);exact⟨b,e1,e2,e3⟩),(fun h=>hV.c3 (uo h)),(fun h h11=>by obtain⟨b,e1,e2,e3⟩:=hV.c4 (uo h) (uo h11);exact⟨b,e1,e2,e3⟩),(fun h=>hV.c5 (uo h)),(fun h=>hV.c6 (uo h)),(fun h h11=>by obtain⟨b,e1,e2,e3⟩:=hV.c7 (uo h) (uo h11);exact⟨b,e1,e2,e3⟩),(fun _=>rfl),(fun h=>hV.c9 (uo h)),(fun h=>by obtain⟨b,e1,e2,e3⟩:=hV.c10 (uo h);rw[aI L (show 11≠8 by decide)];exact⟨b,e1,e2,e3⟩)⟩,rfl⟩
  ·have n11:L 11=false:=by
    cases h:L 11 with
    |false=>rfl
    |true=>have:=hV.ord h 9 (by decide);rw[hl]at this;cases this
   have d3:L 3=true:=hd _ rfl ⟨3,.data⟩ (by simp) rfl;have d8:L 8=true:=hd _ rfl ⟨8,.data⟩ (by simp) rfl;obtain rfl:=hV.c3 d3;obtain rfl:=hV.c8 d8;have HV:=Za hV;have HD:=Za hd;have HL:=Za hl;refine am _ rfl rfl (fun K' hK=> ?_)
   conv=>arg 2;whnf
   go_wp2_with fail
   exact⟨z9,z34,z35,z36,.string (aB (dj.getD i [])),z38,z39,z40,z41,.int .i64 (dp.getD (aC raw a 4).1.toNat 0),.agg #[.string (aB (dj.getD i [])),.int .i64 (dp.getD (aC raw a 4).1.toNat 0)],⟨hV.fr,(by rw[aI L (show 6≠9 by decide)];exact hV.src),(fun h j hj=>by rw[aI L (show 11≠9 by decide)]at h;have:=hV.ord h 9 (by decide);rw[hl]at this;cases this),(fun h h11=>by obtain⟨b,e1,e2,e3⟩:=hV.c0 (uo h) (uo h11);exact⟨b,e1,e2,e3⟩),(fun h=>hV.c1 (uo h)),(fun h h11=>by obtain⟨b,e1,e2,e3⟩:=hV.c2 (uo h) (uo h11);exact⟨b,e1,e2,e3⟩),(fun h=>hV.c3 (uo h)),(fun h h11=>by obtain⟨b,e1,e2,e3⟩:=hV.c4 (uo h) (uo h11);exact⟨b,e1,e2,e3⟩),(fun h=>hV.c5 (uo h)),(fun h=>hV.c6 (uo h)),(fun h h11=>by obtain⟨b,e1,e2,e3⟩:=hV.c7 (uo h) (uo h11);exact⟨b,e1,e2,e3⟩),(fun h=>hV.c8 (uo h)),(fun _=>rfl),(fun h=>by obtain⟨b,e1,e2,e3⟩:=hV.c10 (uo h);rw[aI L (show 11≠9 by decide)];exact⟨b,e1,e2,e3⟩)⟩,rfl⟩
  ·have n11:L 11=false:=by
    cases h:L 11 with
    |false=>rfl
    |true=>have:=hV.ord h 10 (by decide);rw[hl]at this;cases this
   have hal:Below wx.heap.size wx (wx.alloc (.cells #[.string ⟨#[]⟩,.int .i64 0] 85)):=bA;have keep:∀b cs T,W.heap.size≤b→aG wx b cs T→aG (wx.alloc (.cells #[.string ⟨#[]⟩,.int .i64 0] 85)) b cs T:=fun b cs T _ h=>h.old hal
   have HV:=Za hV;have HD:=Za hd;have HL:=Za hl;refine am _ rfl rfl (fun K' hK=> ?_)
   conv=>arg 2;whnf
   go_wp2_with fail
   exact⟨.pointer (some ⟨wx.heap.size,0,none⟩),z34,z35,z36,z37,z38,z39,z40,z41,z42,z43,⟨hV.fr.trans (SFr.of_below hal),(by rw[aI L (show 6≠10 by decide)];exact hV.src.old hal),(fun h j hj=>by rw[aI L (show 11≠10 by decide)]at h;have:=hV.ord h 10 (by decide);rw[hl]at this;cases this),(fun h h11=>by obtain⟨b,e1,e2,e3⟩:=hV.c0 (uo h) (uo h11);exact⟨b,e1,e2,keep b _ _ e2 e3⟩),(fun h=>hV.c1 (uo h)),(fun h h11=>by obtain⟨b,e1,e2,e3⟩:=hV.c2 (uo h) (uo h11);exact⟨b,e1,e2,keep b _ _ e2 e3⟩),(fun h=>hV.c3 (uo h)),(fun h h11=>by obtain⟨b,e1,e2,e3⟩:=hV.c4 (uo h) (uo h11);exact⟨b,e1,e2,keep b _ _ e2 e3⟩),(fun h=>hV.c5 (uo h)),(fun h=>hV.c6 (uo h)),(fun h h11=>by obtain⟨b,e1,e2,e3⟩:=hV.c7 (uo h) (uo h11);exact⟨b,e1,e2,keep b _ _ e2 e3⟩),(fun h=>hV.c8 (uo h)),(fun h=>hV.c9 (uo h)),(fun _=>⟨wx.heap.size,rfl,hV.fr.size,by rw[aI L (show 11≠10 by decide),n11];exact aG.new wx [.string ⟨#[]⟩,.int .i64 0] _⟩)⟩,rfl⟩
  ·have d9:L 9=true:=hd _ rfl ⟨9,.data⟩ (by simp) rfl
   have d10:L 10=true:=hd _ rfl ⟨10,.data⟩ (by simp) rfl;obtain⟨b,rfl,hb,ho⟩:=hV.c10 d10;obtain rfl:=hV.c9 d9;rw[hl,if_neg (by decide)]at ho;have before:∀j,j<11→L j=true:=fun j hj=>by
    have hj:j=0∨j=1∨j=2∨j=3∨j=4∨j=5∨j=6∨j=7∨j=8∨j=9∨j=10:=by omega
    rcases hj with rfl|rfl|rfl|rfl|rfl|rfl|rfl|rfl|rfl|rfl|rfl
    ·exact hd _ rfl ⟨0,.phase⟩ (by simp) rfl
    ·exact hd _ rfl ⟨1,.phase⟩ (by simp) rfl
    ·exact hd _ rfl ⟨2,.phase⟩ (by simp) rfl
    ·exact hd _ rfl ⟨3,.phase⟩ (by simp) rfl
    ·exact hd _ rfl ⟨4,.phase⟩ (by simp) rfl
    ·exact hd _ rfl ⟨5,.phase⟩ (by simp) rfl
    ·exact hd _ rfl ⟨6,.phase⟩ (by simp) rfl
    ·exact hd _ rfl ⟨7,.phase⟩ (by simp) rfl
    ·exact hd _ rfl ⟨8,.phase⟩ (by simp) rfl
    ·exact hd _ rfl ⟨9,.phase⟩ (by simp) rfl
    ·exact hd _ rfl ⟨10,.phase⟩ (by simp) rfl
   have hx0:=ho.at 0 _ rfl;have hx1:=ho.at 1 _ rfl;have fx0:=ho.fz 0;have fx1:=ho.fz 1;have hbl:=ho.lt;have hsS:=hs.lt;have HV:=Za hV;have HD:=Za hd;have HL:=Za hl;refine am _ rfl rfl (fun K' hK=> ?_)
   conv=>arg 2;whnf
   go_wp2_with fail
   exact⟨.pointer (some ⟨b,0,none⟩),z34,z35,z36,z37,z38,z39,z40,z41,z42,.agg #[.string (aB (dj.getD i [])),.int .i64 (dp.getD (aC raw a 4).1.toNat 0)],⟨(hV.fr.setNew hb 0 (.string (aB (dj.getD i [])))).setNew hb 1 (.int .i64 (dp.getD (aC raw a 4).1.toNat 0)),(by rw[aI L (show 6≠11 by decide)];exact(hV.src.other (by omega) 0 (.string (aB (dj.getD i [])))).other (by omega) 1 (.int .i64 (dp.getD (aC raw a 4).1.toNat 0))),(fun _ j hj=>by rw[aI L (show j≠11 by omega)];exact before j hj),(fun _ h11=>by rw[ak]at h11;cases h11),(fun h=>hV.c1 (uo h)),(fun _ h11=>by rw[ak]at h11;cases h11),(fun h=>hV.c3 (uo h)),(fun _ h11=>by rw[ak]at h11;cases h11),(fun h=>hV.c5 (uo h)),(fun h=>hV.c6 (uo h)),(fun _ h11=>by rw[ak]at h11;cases h11),(fun h=>hV.c8 (uo h)),(fun h=>hV.c9 (uo h)),(fun _=>⟨b,rfl,hb,by rw[ak,if_pos rfl];exact(ho.set 0 (.string (aB (dj.getD i [])))).set 1 (.int .i64 (dp.getD (aC raw a 4).1.toNat 0))⟩)⟩,rfl⟩
 ·intro L act wx hI hall
  obtain⟨z9,z34,z35,z36,z37,z38,z39,z40,z41,z42,z43,hV,rfl⟩:=hI;obtain⟨b,e1,e2,e3⟩:=hV.c10 (hall 10 (by decide));have hsrc:=hV.src;rw[if_pos (hall 6 (by decide))]at hsrc;rw[if_pos (hall 11 (by decide))]at e3;exact hM _ _ (Met.intro (hJ _ _ ⟨z9,z34,z35,z36,z37,z38,z39,z40,z41,z42,z43,⟨b,e1,e2,e3,hsrc,hV.fr⟩,rfl⟩))
end Go.Proofs.YtcfpfnoldgnloaaGreatDoor

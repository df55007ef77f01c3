/-
  The loop of scope.stmts that fills a statement's expressions. Conditions: the source, the scope and the statement lie in memory as the types say.
-/
import Derived.Test.YtfhbinbjkpfedaaGreatDoorTT02
import Derived.Deep.CutBlock
set_option linter.unusedVariables false
set_option linter.unusedSimpArgs false
namespace Go.Proofs.YtfhbinbjkpfedaaGreatDoor
open Go.RowKit
set_option maxHeartbeats 20000000
set_option maxRecDepth 100000
open Go.Lib renaming hid→Za
open Go.Proofs.Tryz renaming prog→Zb,underlying29→Zd
open World renaming cell?_of_block→Zc
open List renaming length_append→Ze
theorem Yz:(Tryz.prog.info? 56).map (fun i=>(i.zero,i.size,i.bytes))=some (some (.agg #[.int .i64 0,.string ⟨#[]⟩,.slice none 0 0,.slice none 0 0,.slice none 0 0]),5,96):=by kernel_rfl
theorem Ap.strong {D:Nat→Prop}{w:World}{l:List St}{v:Value}(h:Ap D w l v):Ap (fun b=>D b∧b<w.heap.size) w l v:=by
 induction h with
 |mk l a cap b off sa st se hcap hfit ha h0 h1 h2 h3 h4 ea _ _ ih1 ih2=>
  refine .mk l a cap b off sa st se hcap hfit ?_ h0 h1 h2 h3 h4 (fun i hi=>(ea i hi).strong) ih1 ih2;rcases ha with ha|⟨ha,hD⟩
  ·exact .inl ha
  ·rcases Nat.eq_zero_or_pos l.length with hz|hz
   ·exact .inl hz
   ·exact .inr ⟨ha,hD,World.block_lt_of_cell? _ _ (h0 0 hz)⟩
structure StV where
 x:St
 a:Value
 t:Value
 e:Value
def Di(ps:List StV):List Value:=ps.flatMap fun p=>Bl p.x p.a p.t p.e
theorem Se:∀ps,(Di ps).length=ps.length*5
 |[]=>rfl
 |p::ps=>by
  have:=Se ps;unfold Di at*;simp only[List.flatMap_cons,Ze,List.length_cons];rw[this];simp [Bl];omega
theorem Oj:∀(ps:List StV) (i q:Nat) (p:StV),ps[i]? =some p→q<5→(Di ps)[i*5+q]? =(Bl p.x p.a p.t p.e)[q]?
 |[],i,q,p,h,_=>by simp at h
 |x::ps,0,q,p,h,hq=>by
  simp at h;subst h;unfold Di;rw[List.flatMap_cons,List.getElem?_append_left (by simp [Bl];omega)];simp
 |x::ps,i+1,q,p,h,hq=>by
  simp at h;have:=Oj ps i q p h hq;unfold Di at*;rw[List.flatMap_cons,List.getElem?_append_right (by simp [Bl];omega)];rw[←this];congr 1;simp [Bl];omega
theorem Yk(a c:List StV):Di (a++c)=Di a++Di c:=by unfold Di;rw[List.flatMap_append]
def Et(D:Nat→Prop)(w:World)(p:StV):Prop:=Aj D w p.x.args p.a∧Ap D w p.x.thn p.t∧Ap D w p.x.els p.e
theorem Et.keep {D:Nat→Prop}{w w':World}(hk:Fe D w w'){p:StV}(h:Et D w p):Et D w' p:=⟨h.1.keep hk,h.2.1.keep hk,h.2.2.keep hk⟩
theorem Et.mono {D D':Nat→Prop}{w:World}(hD:∀b,D b→D' b){p:StV}(h:Et D w p):Et D' w p:=⟨h.1.mono hD,h.2.1.mono hD,h.2.2.mono hD⟩
theorem Et.strong {D:Nat→Prop}{w:World}{p:StV}(h:Et D w p):Et (fun b=>D b∧b<w.heap.size) w p:=⟨h.1.strong,h.2.1.strong,h.2.2.strong⟩
def Ef(w:World)(base:Nat)(ps:List StV)(v:Value):Prop:=
 w.ownsRow base 56 5 v ps.length (Di ps)∧∀p,p∈ps→Et (fun b=>base≤b∧v.ownBlock≠some b) w p
theorem Ef.zero(w:World)(base:Nat):Ef w base [] (.slice none 0 0):=⟨⟨rfl,.inl ⟨rfl,rfl⟩⟩,fun p hp=>by cases hp⟩
theorem Ef.keep {w w':World}{base:Nat}{ps:List StV}{v:Value}(h:Ef w base ps v)(hk:∀k,k<w.heap.size→base≤k→w'.heap[k]? =w.heap[k]?):Ef w' base ps v:=by
 refine⟨⟨h.1.1,?_⟩,fun p hp=>(h.2 p hp).keep (fun b off x hb hx=>by rw[Zc (w:=w) (hk b (World.block_lt_of_cell? _ _ hx) hb.1)];exact hx)⟩;rcases h.1.2 with hn|⟨g,cap,cur,rfl,hb,hg,r⟩
 ·exact .inl hn
 ·refine .inr ⟨g,cap,cur,rfl,hb,?_,r⟩
  rw[hk g (by
   rcases Nat.lt_or_ge g w.heap.size with h'|h'
   ·exact h'
   ·simp [Array.getElem?_eq_none h']at hg) hb]
  exact hg
theorem Ef.sfr {s:Nat}{w w':World}{base:Nat}{ps:List StV}{v:Value}(h:Ef w base ps v)(hf:SFr s w w')(hs:s<base):Ef w' base ps v:=h.keep (fun k h1 h2=>hf.block k h1 (by omega))
theorem Dt.sfr {s:Nat}{w w':World}{base:Nat}{ps:List (Ex ×Value)}{v:Value}(h:Dt w base ps v)(hf:SFr s w w')(hs:s<base):Dt w' base ps v:=h.keep (fun k h1 h2=>hf.block k h1 (by omega))
theorem Dt.other {w:World}{base:Nat}{ps:List (Ex ×Value)}{v:Value}(h:Dt w base ps v){k:Nat}(hk:k<base)(i:Nat)(u:Value):Dt (w.setCell ⟨k,i,none⟩ u) base ps v:=h.keep (fun b h1 h2=>Below.heap_setCell _ _ _ _ (by show b≠k;omega))
theorem Ef.shape {w:World}{base:Nat}{ps:List StV}{v:Value}(h:Ef w base ps v):∃a cap,v=.slice a ps.length cap:=by
 rcases h.1.2 with⟨rfl,h0⟩|⟨g,cap,cur,rfl,_⟩
 ·exact⟨none,0,by rw[h0]⟩
 ·exact⟨_,_,rfl⟩
theorem Ef.ge {w:World}{base:Nat}{ps:List StV}{v:Value}(h:Ef w base ps v){k:Nat}(hk:v.ownBlock=some k):base≤k∧k<w.heap.size:=h.1.lt k hk
theorem Ef.sts {w:World}{base:Nat}{ps:List StV}{v:Value}(h:Ef w base ps v)(hf:Ci ps.length):Ap (base≤ ·) w (ps.map (·.x)) v:=by
 have hl:(ps.map (·.x)).length=ps.length:=List.length_map _;rcases h.1.2 with⟨rfl,h0⟩|⟨g,cap,cur,rfl,hb,hg,hc,hm,hs,ht⟩
 ·have:ps=[]:=List.length_eq_zero_iff.1 h0
  subst this;exact Ap.zero
 ·have cell:∀i q p u,ps[i]? =some p→q<5→(Bl p.x p.a p.t p.e)[q]? =some u→w.cell? ⟨g,0+i*5+q,none⟩=some u:=by
   intro i q p u hp hq hu;have h1:=h.1.cells (g:=g) rfl (i*5+q) u (by rw[Oj ps i q p hp hq];exact hu);have h2:(⟨g,0,none⟩:Addr).add (i*5+q)=⟨g,0+i*5+q,none⟩:=by unfold Addr.add;split<;>simp_all<;>omega
   rwa[h2]at h1
  have gp:∀i,i<ps.length→∃p,ps[i]? =some p∧Db (ps.map (·.x)) i=p.x∧p∈ps:=by
   intro i hi;refine⟨ps[i],List.getElem?_eq_getElem hi,?_,List.getElem_mem hi⟩;simp [Db,List.getElem?_eq_getElem hi]
  let z:StV:=⟨St.nil,undef,undef,undef⟩
  have e:=Ap.mk (D:=(base≤ ·)) (w:=w) (ps.map (·.x)) (some ⟨g,0,none⟩) cap g 0 (fun i=>(ps.getD i z).a) (fun i=>(ps.getD i z).t) (fun i=>(ps.getD i z).e) (by rw[hl];exact hc) (by rw[hl];exact hf) (.inr ⟨rfl,hb⟩);rw[hl]at e;have sv:∀i p,ps[i]? =some p→ps.getD i z=p:=fun i p hp=>by rw[List.getD_eq_getElem?_getD,hp];rfl
  refine e (fun i hi=>?_) (fun i hi=>?_) (fun i hi=>?_) (fun i hi=>?_) (fun i hi=>?_) (fun i hi=>?_) (fun i hi=>?_) (fun i hi=>?_)
  all_goals
   obtain⟨p,hp,hx,hm⟩:=gp i hi
   try rw[hx]
   try rw[sv i p hp]
  ·exact cell i 0 p _ hp (by omega) rfl
  ·exact cell i 1 p _ hp (by omega) rfl
  ·exact cell i 2 p _ hp (by omega) rfl
  ·exact cell i 3 p _ hp (by omega) rfl
  ·exact cell i 4 p _ hp (by omega) rfl
  ·exact(h.2 p hm).1.mono (fun b hb=>hb.1)
  ·exact(h.2 p hm).2.1.mono (fun b hb=>hb.1)
  ·exact(h.2 p hm).2.2.mono (fun b hb=>hb.1)
theorem Ef.snoc {w w':World}{base:Nat}{ps:List StV}{v:Value}(h:Ef w base ps v)(p:StV)(hx:Et (fun b=>base≤b∧v.ownBlock≠some b) w p){g cap:Nat}
  (hown:w'.ownsRow base 56 5 (.slice (some ⟨g,0,none⟩) (ps.length+1) cap) (ps.length+1) (Di ps++Bl p.x p.a p.t p.e)) (hgrow:w.grownBy w' v.ownBlock) (hg:v.ownBlock=some g∨g=w.heap.size):
  Ef w' base (ps++[p]) (.slice (some ⟨g,0,none⟩) (ps.length+1) cap):=by
 have hl:(ps++[p]).length=ps.length+1:=by simp
 have hfl:Di (ps++[p])=Di ps++Bl p.x p.a p.t p.e:=by rw[Yk];simp [Di]
 have keep:∀q:StV,Et (fun b=>base≤b∧v.ownBlock≠some b) w q→Et (fun b=>base≤b∧(Value.slice (some ⟨g,0,none⟩) (ps.length+1) cap).ownBlock≠some b) w' q:=by
  intro q hu;have h1:Et (fun b=>(base≤b∧v.ownBlock≠some b)∧b<w.heap.size) w q:=hu.strong;have h2:Et (fun b=>(base≤b∧v.ownBlock≠some b)∧b<w.heap.size) w' q:=h1.keep (fun b off y hb hy=>hgrow.cell hy (fun e=>hb.1.2 e.symm));refine h2.mono (fun b hb=>⟨hb.1.1,?_⟩);show some g≠some b
  intro e
  cases e
  rcases hg with hg|hg
  ·exact hb.1.2 hg
  ·omega
 refine⟨by rw[hl,hfl];exact hown,fun q hq=>?_⟩;rcases List.mem_append.1 hq with hq|hq
 ·exact keep _ (h.2 q hq)
 ·rw[List.mem_singleton.1 hq];exact keep _ hx
theorem Vd(x:St)(a b c:Option Addr)(n m k i j l:Nat):∀u,u∈Bl x (.slice a n i) (.slice b m j) (.slice c k l)→u.oneCell'=true:=by
 intro u hu;simp only[Bl,List.mem_cons,List.not_mem_nil,or_false]at hu;rcases hu with rfl|rfl|rfl|rfl|rfl<;>rfl
def Gl(w:World)(s:Nat)(raw:List Int)(x:List St ×Nat)(r:Ending)(w':World):Prop:=
 ∃v,r=.returned v∧As w' s raw x.2∧SFr s w w'∧Ap (w.heap.size≤ ·) w' x.1 v
def Lu(d:Nat):Prop:= ∀(s:Nat) (raw:List Int) (a:Nat) (sc:Sc) (vv av fv:Value) (w:World),As w s raw a→Ec s w sc vv av fv→
 Calls Zb 29 #[scV sc vv av fv,.pointer (some ⟨s,0,none⟩),.int .i64 d] w (Gl w s raw (Fi raw d sc a))
theorem Ec.inLoop {s:Nat}{w:World}{sc:Sc}{vv av fv:Value}(h:Ec s w sc vv av fv):Ec s w sc.inLoop vv av fv:=⟨h.vars,h.arrays,h.funcs,h.v1,h.a1,h.f1,h.p1⟩
theorem Yf(raw:List Int)(d:Nat)(sc:Sc):∃gs gl,(∀a,Fi raw d sc a=Gy (gSt sc raw gs gl d) (Ad raw a 5).1.toNat (Ad raw a 5).2)∧(2≤d→gs=Fi raw (d-1) sc∧gl=Fi raw (d-1) sc.inLoop):=by
 cases d with
 |zero=>exact⟨_,_,fun a=>rfl,fun h=>by omega⟩
 |succ d=>exact⟨_,_,fun a=>rfl,fun _=>⟨rfl,rfl⟩⟩
theorem bK(one:Nat→St ×Nat)(c a:Nat):Gy one (c+1) a=((Gy one c a).1++[(one (Gy one c a).2).1],(one (Gy one c a).2).2):=rfl
abbrev cW(k:Int)(nm:Bs)(n:Nat)(va:Option Addr)(vc:Nat)(xt xe:Value):List Value:=[.int .i64 k,.string (Aa nm),.slice va n vc,xt,xe]
def Kp(X:Nat)(v:Value)(b:Nat):Prop:=X+1≤b∧v.ownBlock≠some b
structure Cg (wr:World)(X s:Nat)(raw:List Int)(k:Int)(nm:Bs)(ps:List (Ex ×Value))(va:Option Addr)(vc:Nat)(t e:List St)(xt xe:Value)(a:Nat)(wx:World):Prop where
 src:As wx s raw a
 fr:SFr s wr wx
 own:Al wx X (cW k nm ps.length va vc xt xe) 56
 exs:Dt wx (X+1) ps (.slice va ps.length vc)
 thn:Ap (Kp X (.slice va ps.length vc)) wx t xt
 els:Ap (Kp X (.slice va ps.length vc)) wx e xe
 ge:wr.heap.size≤X
 gt:s<X
theorem Cg.lt {wr wx:World}{X s:Nat}{raw:List Int}{k:Int}{nm:Bs}{ps:List (Ex ×Value)}{va:Option Addr}{vc:Nat}{t e:List St}{xt xe:Value}{a:Nat}(h:Cg wr X s raw k nm ps va vc t e xt xe a wx):X<wx.heap.size:=h.own.lt
theorem Cg.new {wr w:World}{s:Nat}{raw:List Int}{a:Nat}(k:Int)(hs:As w s raw a)(hf:SFr s wr w):Cg wr w.heap.size s raw k [] [] none 0 [] [] (.slice none 0 0) (.slice none 0 0) a (w.alloc (.cells #[.int .i64 k,.string ⟨#[]⟩,.slice none 0 0,.slice none 0 0,.slice none 0 0] 56)):=
 ⟨hs.alloc _,hf.trans (SFr.alloc _),Al.new _ _ _,Dt.zero _ _,Ap.zero,Ap.zero,hf.size,hs.lt⟩
theorem Cg.sfr {wr wx w':World}{X s:Nat}{raw:List Int}{k:Int}{nm:Bs}{ps:List (Ex ×Value)}{va:Option Addr}{vc:Nat}{t e:List St}{xt xe:Value}{a a':Nat}(h:Cg wr X s raw k nm ps va vc t e xt xe a wx)(hs:As w' s raw a')(hf:SFr s wx w'):Cg wr X s raw k nm ps va vc t e xt xe a' w':=
 ⟨hs,h.fr.trans hf,h.own.sfr hf (by have:=h.gt;omega),h.exs.sfr hf (by have:=h.gt;omega),h.thn.keep (hf.keepsD (fun b hb=>by have:=hb.1;have:=h.gt;omega)),h.els.keep (hf.keepsD (fun b hb=>by have:=hb.1;have:=h.gt;omega)),h.ge,h.gt⟩
theorem Cg.below {wr wx w':World}{X s:Nat}{raw:List Int}{k:Int}{nm:Bs}{ps:List (Ex ×Value)}{va:Option Addr}{vc:Nat}{t e:List St}{xt xe:Value}{a:Nat}(h:Cg wr X s raw k nm ps va vc t e xt xe a wx)(hb:Below wx.heap.size wx w'):Cg wr X s raw k nm ps va vc t e xt xe a w':=
 h.sfr (h.src.old hb) (SFr.of_below hb)
theorem Cg.kind {wr wx:World}{X s:Nat}{raw:List Int}{k:Int}{nm:Bs}{ps:List (Ex ×Value)}{va:Option Addr}{vc:Nat}{t e:List St}{xt xe:Value}{a:Nat}(h:Cg wr X s raw k nm ps va vc t e xt xe a wx)(k':Int):Cg wr X s raw k' nm ps va vc t e xt xe a (wx.setCell ⟨X,0,none⟩ (.int .i64 k')):=
 ⟨h.src.other h.gt 0 _,h.fr.setNew h.ge 0 _,h.own.set 0 _,h.exs.other (by omega) 0 _,h.thn.keep (Cq _ (fun hb=>by have:=hb.1;omega) 0 _),h.els.keep (Cq _ (fun hb=>by have:=hb.1;omega) 0 _),h.ge,h.gt⟩
theorem Cg.name {wr wx:World}{X s:Nat}{raw:List Int}{k:Int}{nm:Bs}{ps:List (Ex ×Value)}{va:Option Addr}{vc:Nat}{t e:List St}{xt xe:Value}{a:Nat}(h:Cg wr X s raw k nm ps va vc t e xt xe a wx)(nm':Bs):Cg wr X s raw k nm' ps va vc t e xt xe a (wx.setCell ⟨X,1,none⟩ (.string (Aa nm'))):=
 ⟨h.src.other h.gt 1 _,h.fr.setNew h.ge 1 _,h.own.set 1 _,h.exs.other (by omega) 1 _,h.thn.keep (Cq _ (fun hb=>by have:=hb.1;omega) 1 _),h.els.keep (Cq _ (fun hb=>by have:=hb.1;omega) 1 _),h.ge,h.gt⟩
theorem Cg.setThn {wr wx:World}{X s:Nat}{raw:List Int}{k:Int}{nm:Bs}{ps:List (Ex ×Value)}{va:Option Addr}{vc:Nat}{t e:List St}{xt xe:Value}{a:Nat}(h:Cg wr X s raw k nm ps va vc t e xt xe a wx)(t':List St)(xt':Value)(ht:Ap (Kp X (.slice va ps.length vc)) wx t' xt'):Cg wr X s raw k nm ps va vc t' e xt' xe a (wx.setCell ⟨X,3,none⟩ xt'):=
 ⟨h.src.other h.gt 3 _,h.fr.setNew h.ge 3 _,h.own.set 3 _,h.exs.other (by omega) 3 _,ht.keep (Cq _ (fun hb=>by have:=hb.1;omega) 3 _),h.els.keep (Cq _ (fun hb=>by have:=hb.1;omega) 3 _),h.ge,h.gt⟩
theorem Cg.setEls {wr wx:World}{X s:Nat}{raw:List Int}{k:Int}{nm:Bs}{ps:List (Ex ×Value)}{va:Option Addr}{vc:Nat}{t e:List St}{xt xe:Value}{a:Nat}(h:Cg wr X s raw k nm ps va vc t e xt xe a wx)(e':List St)(xe':Value)(he:Ap (Kp X (.slice va ps.length vc)) wx e' xe'):Cg wr X s raw k nm ps va vc t e' xt xe' a (wx.setCell ⟨X,4,none⟩ xe'):=
 ⟨h.src.other h.gt 4 _,h.fr.setNew h.ge 4 _,h.own.set 4 _,h.exs.other (by omega) 4 _,h.thn.keep (Cq _ (fun hb=>by have:=hb.1;omega) 4 _),he.keep (Cq _ (fun hb=>by have:=hb.1;omega) 4 _),h.ge,h.gt⟩
theorem Cg.beside {wr wx:World}{X s:Nat}{raw:List Int}{k:Int}{nm:Bs}{ps:List (Ex ×Value)}{va:Option Addr}{vc:Nat}{t e:List St}{xt xe:Value}{a:Nat}(h:Cg wr X s raw k nm ps va vc t e xt xe a wx)(b:Nat)(hb:wx.heap.size≤b):Kp X (.slice va ps.length vc) b:=
 ⟨by have:=h.lt;omega,fun e=>by have:=(h.exs.ge e).2;omega⟩
theorem Cg.more {wr w7 w8:World}{X s:Nat}{raw:List Int}{k:Int}{nm:Bs}{ps:List (Ex ×Value)}{va:Option Addr}{vc:Nat}{t e:List St}{xt xe:Value}{a:Nat}(h:Cg wr X s raw k nm ps va vc t e xt xe a w7)(x:Ex)(xv:Value)(hx:Aj (Kp X (.slice va ps.length vc)) w7 x.args xv)(hn:I64 x.n){g cap:Nat}
  (hown:w8.ownsRow (X+1) 31 5 (.slice (some ⟨g,0,none⟩) (ps.length+1) cap) (ps.length+1) (Dk ps++Aq x xv)) (hgrow:w7.grownBy w8 (Value.slice va ps.length vc).ownBlock) (hg:(Value.slice va ps.length vc).ownBlock=some g∨g=w7.heap.size):
  Cg wr X s raw k nm (ps++[(x,xv)]) (some ⟨g,0,none⟩) cap t e xt xe a (w8.setCell ⟨X,2,none⟩ (.slice (some ⟨g,0,none⟩) (ps.length+1) cap)):=by
 have hge8:∀k,(Value.slice va ps.length vc).ownBlock=some k→X+1≤k:=fun k e=>(h.exs.ge e).1
 have low:∀k,k≤X→w8.heap[k]? =w7.heap[k]? :=fun k hk=>hgrow.block k (Nat.lt_of_le_of_lt hk h.lt) (fun e=>by have:=hge8 k e.symm;omega)
 have hl:(ps++[(x,xv)]).length=ps.length+1:=by simp
 have S8:As w8 s raw a:=h.src.low (fun k hk=>low k (by have:=h.gt;omega));have F8:SFr s wr w8:=h.fr.grow hgrow (fun k e=>by have:=hge8 k e;have:=h.ge;omega);have O8:Al w8 X (cW k nm ps.length va vc xt xe) 56:=h.own.low (low X (Nat.le_refl _));have E8:Dt w8 (X+1) (ps++[(x,xv)]) (.slice (some ⟨g,0,none⟩) (ps.length+1) cap):=h.exs.snoc x xv hx hn hown hgrow hg;have keepS:∀(l:List St) (u:Value),Ap (Kp X (.slice va ps.length vc)) w7 l u→Ap (Kp X (.slice (some ⟨g,0,none⟩) (ps.length+1) cap)) w8 l u:=by
  intro l u hu;have h1:=hu.strong;have h2:Ap (fun b=>Kp X (.slice va ps.length vc) b∧b<w7.heap.size) w8 l u:=h1.keep (fun b off y hb hy=>hgrow.cell hy (fun e=>hb.1.2 e.symm));refine h2.mono (fun b hb=>⟨hb.1.1,?_⟩);show some g≠some b
  intro e
  cases e
  rcases hg with hg|hg
  ·exact hb.1.2 hg
  ·omega
 have T8:=keepS t xt h.thn;have L8:=keepS e xe h.els;rw[←hl]at T8 L8 E8 ⊢;refine⟨S8.other h.gt 2 _,F8.setNew h.ge 2 _,?_,E8.other (by omega) 2 _,T8.keep (Cq _ (fun hb=>by have:=hb.1;omega) 2 _),L8.keep (Cq _ (fun hb=>by have:=hb.1;omega) 2 _),h.ge,h.gt⟩;exact O8.set 2 _
def Nk(wr:World)(X s:Nat)(raw:List Int)(x:St ×Nat)(wx:World):Prop:= ∃ps va vc xt xe,ps.map (·.1)=x.1.args∧Cg wr X s raw x.1.kind x.1.name ps va vc x.1.thn x.1.els xt xe x.2 wx
theorem Cg.to {wr wx:World}{X s:Nat}{raw:List Int}{k:Int}{nm:Bs}{ps:List (Ex ×Value)}{va:Option Addr}{vc:Nat}{t e:List St}{xt xe:Value}{a:Nat}(h:Cg wr X s raw k nm ps va vc t e xt xe a wx){l:List Ex}(hl:ps.map (·.1)=l):Nk wr X s raw (.mk k nm l t e,a) wx:=⟨ps,va,vc,xt,xe,hl,h⟩
theorem iT {sc:Sc}{raw:List Int}{gs gl:Nat→List St ×Nat}{k:Int}{a:Nat}(hk:k<4)(hv:sc.hasVars=true):Cb sc raw gs gl k a=(.mk 1 (Gj sc.free sc.vars raw a).1 [] [] [],(Gj sc.free sc.vars raw a).2):=by
 unfold Cb;rw[if_pos ⟨hk,hv⟩]
theorem Yy {sc:Sc}{raw:List Int}{gs gl:Nat→List St ×Nat}{a:Nat}(hv:sc.hasArrays=true):Cb sc raw gs gl 4 a=(.mk 2 (Cr sc.free sc.arrays raw a).1.name [(Az sc raw 3 (Cr sc.free sc.arrays raw a).2).1] [] [],(Az sc raw 3 (Cr sc.free sc.arrays raw a).2).2):=by
 unfold Cb;rw[if_neg (fun h=>absurd h.1 (by decide)),if_pos ⟨rfl,hv⟩]
theorem eM {sc:Sc}{raw:List Int}{gs gl:Nat→List St ×Nat}{a:Nat}(hv:sc.hasFuncs=true):Cb sc raw gs gl 5 a=(.mk 10 [] [(Gw sc raw (Az sc raw 2) a).1] [] [],(Gw sc raw (Az sc raw 2) a).2):=by
 unfold Cb;rw[if_neg (fun h=>absurd h.1 (by decide)),if_neg (fun h=>absurd h.1 (by decide)),if_pos ⟨rfl,hv⟩]
theorem jF {sc:Sc}{raw:List Int}{gs gl:Nat→List St ×Nat}{a:Nat}(h:(Ad raw a 3).1=2):Cb sc raw gs gl 6 a=(.mk (if(Ad raw (Ad raw a 3).2 2).1=0 then 7 else 9) [] [] [] [],(Ad raw (Ad raw a 3).2 2).2):=by
 unfold Cb;rw[if_neg (fun h=>absurd h.1 (by decide)),if_neg (fun h=>absurd h.1 (by decide)),if_neg (fun h=>absurd h.1 (by decide)),if_pos ⟨rfl,h⟩]
theorem Wv {sc:Sc}{raw:List Int}{gs gl:Nat→List St ×Nat}{a:Nat}(h:¬(Ad raw a 3).1=2):Cb sc raw gs gl 6 a=(.mk 8 [] [] [] [],(Ad raw a 3).2):=by
 unfold Cb;rw[if_neg (fun h=>absurd h.1 (by decide)),if_neg (fun h=>absurd h.1 (by decide)),if_neg (fun h=>absurd h.1 (by decide)),if_neg (fun q=>h q.2),if_neg (by decide),if_neg (by decide),if_neg (fun h=>absurd h.1 (by decide)),if_pos rfl]
theorem head_if {sc:Sc}{raw:List Int}{gs gl:Nat→List St ×Nat}{k:Int}{a:Nat}(h:k=7∨k=8):Cb sc raw gs gl k a=(.mk 3 [] [(Az sc raw 3 a).1] (gs (Az sc raw 3 a).2).1 (gs (gs (Az sc raw 3 a).2).2).1,(gs (gs (Az sc raw 3 a).2).2).2):=by
 unfold Cb;rw[if_neg (fun h=>by omega),if_neg (fun h=>by omega),if_neg (fun h=>by omega),if_neg (fun h=>by omega),if_pos h]
theorem eX {sc:Sc}{raw:List Int}{gs gl:Nat→List St ×Nat}{k:Int}{a:Nat}(h:k=9∨k=10):Cb sc raw gs gl k a=(.mk 4 [] [(Az sc raw 3 a).1] (gl (Az sc raw 3 a).2).1 [],(gl (Az sc raw 3 a).2).2):=by
 unfold Cb;rw[if_neg (fun h=>by omega),if_neg (fun h=>by omega),if_neg (fun h=>by omega),if_neg (fun h=>by omega),if_neg (by omega),if_pos h]
theorem gM {sc:Sc}{raw:List Int}{gs gl:Nat→List St ×Nat}{a:Nat}(h1:(sc.loop||sc.free)=true)(h:(Ad raw a 2).1=1):Cb sc raw gs gl 11 a=(.mk (if(Ad raw (Ad raw a 2).2 2).1=0 then 5 else 6) [] [] [] [],(Ad raw (Ad raw a 2).2 2).2):=by
 unfold Cb;rw[if_neg (fun h=>absurd h.1 (by decide)),if_neg (fun h=>absurd h.1 (by decide)),if_neg (fun h=>absurd h.1 (by decide)),if_neg (fun h=>absurd h.1 (by decide)),if_neg (by decide),if_neg (by decide),if_pos ⟨rfl,h1,h⟩]
theorem Wk {sc:Sc}{raw:List Int}{gs gl:Nat→List St ×Nat}{a:Nat}(h1:(sc.loop||sc.free)=true)(h:¬(Ad raw a 2).1=1):Cb sc raw gs gl 11 a=(.mk 8 [] [] [] [],(Ad raw a 2).2):=by
 unfold Cb;rw[if_neg (fun h=>absurd h.1 (by decide)),if_neg (fun h=>absurd h.1 (by decide)),if_neg (fun h=>absurd h.1 (by decide)),if_neg (fun h=>absurd h.1 (by decide)),if_neg (by decide),if_neg (by decide),if_neg (fun q=>h q.2.2),if_neg (by decide),if_pos ⟨rfl,h1⟩]
theorem dS {sc:Sc}{raw:List Int}{gs gl:Nat→List St ×Nat}{k:Int}{a:Nat}(h1:k<4→sc.hasVars=false)(h2:k=4→sc.hasArrays=false)(h3:k=5→sc.hasFuncs=false)(h6:k≠6)(h7:k<7∨10<k)(h8:k=11→(sc.loop||sc.free)=false):Cb sc raw gs gl k a=(.mk 8 [] [] [] [],a):=by
 unfold Cb;rw[if_neg (fun h=>by rw[h1 h.1]at h;cases h.2),if_neg (fun h=>by rw[h2 h.1]at h;cases h.2),if_neg (fun h=>by rw[h3 h.1]at h;cases h.2),if_neg (fun h=>h6 h.1),if_neg (by omega),if_neg (by omega),if_neg (fun h=>by rw[h8 h.1]at h;cases h.2.1),if_neg h6,if_neg (fun h=>by rw[h8 h.1]at h;cases h.2)]
theorem fL(k:Int):Cx k≤2:=by unfold Cx;split<;>(try split)<;>omega
def Hp(p:Code→Bool):Code→Option Code
 |.loop c=>if p (.loop c)then some (.loop c)else Hp p c
 |.seq a b=>match Hp p a with
  |some c=>some c
  |none=>Hp p b
 |.block k c=>if p (.block k c)then some (.block k c)else Hp p c
 |.scope c=>Hp p c
 |.cond o a b=>match Hp p a with
  |some c=>some c
  |none=>Hp p b
 |_=>none
def Ls(n:Nat):Code→Bool
 |.block k _=>k==n
 |_=>false
def isLoop:Code→Bool
 |.loop _=>true
 |_=>false
noncomputable def swCode:Code:=((Tryz.f29.body.bind (Hp (Ls 2))).getD .skip)
noncomputable def gY:Code:=((Tryz.f29.body.bind (Hp (Ls 3))).getD .skip)
def SwR(d s:Nat)(C X:Nat)(K:Int)(HA HV HB:Bool)(wr:World)(raw:List Int)(x:St ×Nat)(q0 q4 q5 q6 q7 q8 q9 q16 q17 q18 q19 q20 q21 q22 q23 q24 q25 q26 q27 q28 q29 q30 q31 q32 q33 q34 q35 q36 q37 q38 q39 q40 q41 q42 q43 q44 q45 q46 q47 q48 q49 q50 q51 q52 q53 q54 q55 q56 q57 q58 q59 q60 q197 q198 q199 q200 q201 q202 q203 q204 q205 q206 q207 q208 q209 q210 q211 q212 q213 q214 q215 q216 q217 q218 q219 q220 q221 q222 q223 q224 q225:Value)(a':Act)(w':World):Prop:=
 ∃z15 z61 z62 z63 z64 z65 z66 z67 z68 z69 z70 z71 z72 z73 z74 z75 z76 z77 z78 z79 z80 z81 z82 z83 z84 z85 z86 z87 z88 z89 z90 z91 z92 z93 z94 z95 z96 z97 z98 z99 z100 z101 z102 z103 z104 z105 z106 z107 z108 z109 z110 z111 z112 z113 z114 z115 z116 z117 z118 z119 z120 z121 z122 z123 z124 z125 z126 z127 z128 z129 z130 z131 z132 z133 z134 z135 z136 z137 z138 z139 z140 z141 z142 z143 z144 z145 z146 z147 z148 z149 z150 z151 z152 z153 z154 z155 z156 z157 z158 z159 z160 z161 z162 z163 z164 z165 z166 z167 z168 z169 z170 z171 z172 z173 z174 z175 z176 z177 z178 z179 z180 z181 z182 z183 z184 z185 z186 z187 z188 z189 z190 z191 z192 z193 z194 z195 z196:Value,Nk wr X s raw x w'∧a'=⟨[q0,.pointer (some ⟨s,0,none⟩),.int .i64 d,.pointer (some ⟨C,0,none⟩),q4,q5,q6,q7,q8,q9,.int .i64 K,.pointer (some ⟨X,0,none⟩),.bool HA,.bool HV,.bool HB,z15,q16,q17,q18,q19,q20,q21,q22,q23,q24,q25,q26,q27,q28,q29,q30,q31,q32,q33,q34,q35,q36,q37,q38,q39,q40,q41,q42,q43,q44,q45,q46,q47,q48,q49,q50,q51,q52,q53,q54,q55,q56,q57,q58,q59,q60,z61,z62,z63,z64,z65,z66,z67,z68,z69,z70,z71,z72,z73,z74,z75,z76,z77,z78,z79,z80,z81,z82,z83,z84,z85,z86,z87,z88,z89,z90,z91,z92,z93,z94,z95,z96,z97,z98,z99,z100,z101,z102,z103,z104,z105,z106,z107,z108,z109,z110,z111,z112,z113,z114,z115,z116,z117,z118,z119,z120,z121,z122,z123,z124,z125,z126,z127,z128,z129,z130,z131,z132,z133,z134,z135,z136,z137,z138,z139,z140,z141,z142,z143,z144,z145,z146,z147,z148,z149,z150,z151,z152,z153,z154,z155,z156,z157,z158,z159,z160,z161,z162,z163,z164,z165,z166,z167,z168,z169,z170,z171,z172,z173,z174,z175,z176,z177,z178,z179,z180,z181,z182,z183,z184,z185,z186,z187,z188,z189,z190,z191,z192,z193,z194,z195,z196,q197,q198,q199,q200,q201,q202,q203,q204,q205,q206,q207,q208,q209,q210,q211,q212,q213,q214,q215,q216,q217,q218,q219,q220,q221,q222,q223,q224,q225].toArray,[]⟩
def ArgAt(wr:World)(X s:Nat)(raw:List Int)(k:Int)(nm:Bs)(l:List Ex)(a C:Nat)(cs:List Value)(wx:World):Prop:=
 (∃ps va vc,ps.map (·.1)=l∧Cg wr X s raw k nm ps va vc [] [] (.slice none 0 0) (.slice none 0 0) a wx)∧Al wx C cs 62
structure SwH (d s:Nat)(raw:List Int)(sc:Sc)(v1 a1 f1:Option Addr)(v2 a2 f2:Nat)(C X:Nat)(K:Int)(HA HV HB:Bool)(ka:Nat)(wr W:World):Prop where
 hd1:d≤1000
 hsc:Ec s wr sc (.slice v1 sc.vars.length v2) (.slice a1 sc.arrays.length a2) (.slice f1 sc.funcs.length f2)
 hC:Al W C [.slice v1 sc.vars.length v2,.slice a1 sc.arrays.length a2,.slice f1 sc.funcs.length f2,.bool sc.free,.bool sc.loop] 62
 hH:Cg wr X s raw 8 [] [] none 0 [] [] (.slice none 0 0) (.slice none 0 0) ka W
 hCX:C<X
 hsC:s<C
 hd0:0≤K
 hd14:K<14
 hKd:7≤K→K<11→2≤d
 eA:sc.hasArrays=HA
 eV:sc.hasVars=HV
 eF:sc.hasFuncs=HB
def SwG(d s:Nat)(raw:List Int)(sc:Sc)(gs gl:Nat→List St ×Nat)(C X:Nat)(K:Int)(HA HV HB:Bool)(ka:Nat)(wr W:World):Prop:=
 ∀(q0 q4 q5 q6 q7 q8 q9 q15 q16 q17 q18 q19 q20 q21 q22 q23 q24 q25 q26 q27 q28 q29 q30 q31 q32 q33 q34 q35 q36 q37 q38 q39 q40 q41 q42 q43 q44 q45 q46 q47 q48 q49 q50 q51 q52 q53 q54 q55 q56 q57 q58 q59 q60 q61 q62 q63 q64 q65 q66 q67 q68 q69 q70 q71 q72 q73 q74 q75 q76 q77 q78 q79 q80 q81 q82 q83 q84 q85 q86 q87 q88 q89 q90 q91 q92 q93 q94 q95 q96 q97 q98 q99 q100 q101 q102 q103 q104 q105 q106 q107 q108 q109 q110 q111 q112 q113 q114 q115 q116 q117 q118 q119 q120 q121 q122 q123 q124 q125 q126 q127 q128 q129 q130 q131 q132 q133 q134 q135 q136 q137 q138 q139 q140 q141 q142 q143 q144 q145 q146 q147 q148 q149 q150 q151 q152 q153 q154 q155 q156 q157 q158 q159 q160 q161 q162 q163 q164 q165 q166 q167 q168 q169 q170 q171 q172 q173 q174 q175 q176 q177 q178 q179 q180 q181 q182 q183 q184 q185 q186 q187 q188 q189 q190 q191 q192 q193 q194 q195 q196 q197 q198 q199 q200 q201 q202 q203 q204 q205 q206 q207 q208 q209 q210 q211 q212 q213 q214 q215 q216 q217 q218 q219 q220 q221 q222 q223 q224 q225:Value) (J K':Act→World→Prop),(∀a' w',SwR d s C X K HA HV HB wr raw (Cb sc raw gs gl K ka) q0 q4 q5 q6 q7 q8 q9 q16 q17 q18 q19 q20 q21 q22 q23 q24 q25 q26 q27 q28 q29 q30 q31 q32 q33 q34 q35 q36 q37 q38 q39 q40 q41 q42 q43 q44 q45 q46 q47 q48 q49 q50 q51 q52 q53 q54 q55 q56 q57 q58 q59 q60 q197 q198 q199 q200 q201 q202 q203 q204 q205 q206 q207 q208 q209 q210 q211 q212 q213 q214 q215 q216 q217 q218 q219 q220 q221 q222 q223 q224 q225 a' w'→J a' w')→(∀a' w',Met J a' w'→K' a' w')→
  Code.wp Zb swCode (Exit.then K' (fun _ _ _=>False)) ⟨[q0,.pointer (some ⟨s,0,none⟩),.int .i64 d,.pointer (some ⟨C,0,none⟩),q4,q5,q6,q7,q8,q9,.int .i64 K,.pointer (some ⟨X,0,none⟩),.bool HA,.bool HV,.bool HB,q15,q16,q17,q18,q19,q20,q21,q22,q23,q24,q25,q26,q27,q28,q29,q30,q31,q32,q33,q34,q35,q36,q37,q38,q39,q40,q41,q42,q43,q44,q45,q46,q47,q48,q49,q50,q51,q52,q53,q54,q55,q56,q57,q58,q59,q60,q61,q62,q63,q64,q65,q66,q67,q68,q69,q70,q71,q72,q73,q74,q75,q76,q77,q78,q79,q80,q81,q82,q83,q84,q85,q86,q87,q88,q89,q90,q91,q92,q93,q94,q95,q96,q97,q98,q99,q100,q101,q102,q103,q104,q105,q106,q107,q108,q109,q110,q111,q112,q113,q114,q115,q116,q117,q118,q119,q120,q121,q122,q123,q124,q125,q126,q127,q128,q129,q130,q131,q132,q133,q134,q135,q136,q137,q138,q139,q140,q141,q142,q143,q144,q145,q146,q147,q148,q149,q150,q151,q152,q153,q154,q155,q156,q157,q158,q159,q160,q161,q162,q163,q164,q165,q166,q167,q168,q169,q170,q171,q172,q173,q174,q175,q176,q177,q178,q179,q180,q181,q182,q183,q184,q185,q186,q187,q188,q189,q190,q191,q192,q193,q194,q195,q196,q197,q198,q199,q200,q201,q202,q203,q204,q205,q206,q207,q208,q209,q210,q211,q212,q213,q214,q215,q216,q217,q218,q219,q220,q221,q222,q223,q224,q225].toArray,[]⟩ W
abbrev SwI(d s:Nat)(raw:List Int)(sc:Sc)(v1 a1 f1:Option Addr)(v2 a2 f2:Nat)(lb:Bool)(g:Nat→List St ×Nat):Prop:=
 2≤d→∀w1 b,As w1 s raw b→Ec s w1 sc (.slice v1 sc.vars.length v2) (.slice a1 sc.arrays.length a2) (.slice f1 sc.funcs.length f2)→Calls Zb 29 #[.agg #[.slice v1 sc.vars.length v2,.slice a1 sc.arrays.length a2,.slice f1 sc.funcs.length f2,.bool sc.free,.bool lb],.pointer (some ⟨s,0,none⟩),.int .i64 ((d:Int)-1)] w1 (Gl w1 s raw (g b))
theorem Nz {d s:Nat}{raw:List Int}{sc:Sc}{v1 a1 f1:Option Addr}{v2 a2 f2:Nat}{gs gl:Nat→List St ×Nat}{C X:Nat}{K:Int}{HA HV HB:Bool}{ka:Nat}{wr W:World}(hw:SwH d s raw sc v1 a1 f1 v2 a2 f2 C X K HA HV HB ka wr W)(hv:K<4→HV=false)(ha:K=4→HA=false)(hf:K=5→HB=false)(h6:K≠6)(h7:K<7∨10<K)(h8:K=11→(sc.loop||sc.free)=false):SwG d s raw sc gs gl C X K HA HV HB ka wr W:=by
 obtain⟨hd1,hsc,hC,hH,hCX,hsC,hd0,hd14,hKd,eA,eV,eF⟩:=hw;unfold SwG;intros;rename_i J K' hJ hM;obtain⟨lv,la,lf⟩:sc.vars.length≤1000000∧sc.arrays.length≤1000000∧sc.funcs.length≤1000000:=⟨hsc.v1,hsc.a1,hsc.f1⟩;have HSC:=Za hsc;have HH3:=Za hH;have HC3:=Za hC;have HY:Hid (C≠s):=by show _≠_;omega
 have HCX:Hid (C<X):=hCX;have hXl:=hH.lt;have hCl:=hC.lt;have hsX:=hH.gt;clear hsc hH hC;have EV:=Za eV;have EA:=Za eA;have EF:=Za eF;clear eV eA eF;have E:=dS (sc:=sc) (raw:=raw) (gs:=gs) (gl:=gl) (a:=ka) (fun h=>EV.out.trans (hv h)) (fun h=>EA.out.trans (ha h)) (fun h=>EF.out.trans (hf h)) h6 h7 h8;rw[E]at hJ;clear E;have b3:=HC3.o.at 3 _ rfl;have b4:=HC3.o.at 4 _ rfl;have hcase:(K<4∧HV=false)∨(K=4∧HA=false)∨(K=5∧HB=false)∨(K=11∧sc.loop=false∧sc.free=false)∨12≤K:=by
  by_cases h1:K<4
  ·exact .inl ⟨h1,hv h1⟩
  by_cases h2:K=4
  ·exact .inr (.inl ⟨h2,ha h2⟩)
  by_cases h3:K=5
  ·exact .inr (.inr (.inl ⟨h3,hf h3⟩))
  by_cases h4:K=11
  ·exact .inr (.inr (.inr (.inl ⟨h4,by simpa using h8 h4⟩)))
  exact .inr (.inr (.inr (.inr (by omega))))
 clear hv ha hf h6 h7 h8;rcases hcase with⟨h1,rfl⟩|⟨rfl,rfl⟩|⟨rfl,rfl⟩|⟨rfl,h2,h3⟩|h1
 case inl|inr.inr.inr.inr=>
  all_goals
   have n4:(K==4)=false:=beq_eq_false_iff_ne.2 (by omega);have n5:(K==5)=false:=beq_eq_false_iff_ne.2 (by omega);have n6:(K==6)=false:=beq_eq_false_iff_ne.2 (by omega);have n7:(K==7)=false:=beq_eq_false_iff_ne.2 (by omega);have n8:(K==8)=false:=beq_eq_false_iff_ne.2 (by omega);have n9:(K==9)=false:=beq_eq_false_iff_ne.2 (by omega);have n10:(K==10)=false:=beq_eq_false_iff_ne.2 (by omega);have n11:(K==11)=false:=beq_eq_false_iff_ne.2 (by omega)
   conv=>arg 2;whnf
   go_wp2_with fail
   go_meet;exact HH3.o.to rfl
 all_goals
  conv=>arg 2;whnf
  go_wp2_with fail
  go_meet;exact HH3.o.to rfl
theorem sw_set {d s:Nat}{raw:List Int}{sc:Sc}{v1 a1 f1:Option Addr}{v2 a2 f2:Nat}{gs gl:Nat→List St ×Nat}{C X:Nat}{K:Int}{HA HV HB:Bool}{ka:Nat}{wr W:World}(hw:SwH d s raw sc v1 a1 f1 v2 a2 f2 C X K HA HV HB ka wr W)(hlt:K<4)(hv:HV=true):SwG d s raw sc gs gl C X K HA HV HB ka wr W:=by
 obtain⟨hd1,hsc,hC,hH,hCX,hsC,hd0,hd14,hKd,eA,eV,eF⟩:=hw;unfold SwG;intros;rename_i J K' hJ hM;obtain⟨lv,la,lf⟩:sc.vars.length≤1000000∧sc.arrays.length≤1000000∧sc.funcs.length≤1000000:=⟨hsc.v1,hsc.a1,hsc.f1⟩;have HSC:=Za hsc;have HH3:=Za hH;have HC3:=Za hC;have HY:Hid (C≠s):=by show _≠_;omega
 have HCX:Hid (C<X):=hCX;have hXl:=hH.lt;have hCl:=hC.lt;have hsX:=hH.gt;clear hsc hH hC;have EV:=Za eV;have EA:=Za eA;have EF:=Za eF;clear eV eA eF;have E:=iT (sc:=sc) (raw:=raw) (gs:=gs) (gl:=gl) (a:=ka) hlt (EV.out.trans hv);have HNM:Hid (∀w1,As w1 s raw ka→Ay (· ≠s) w1 sc.vars (.slice v1 sc.vars.length v2)→Calls Zb 61 #[.agg #[.slice v1 sc.vars.length v2,.slice a1 sc.arrays.length a2,.slice f1 sc.funcs.length f2,.bool sc.free,.bool sc.loop],.pointer (some ⟨s,0,none⟩),.slice v1 sc.vars.length v2] w1 (Dr w1 s raw (.string (Aa (Gj sc.free sc.vars raw ka).1)) (Gj sc.free sc.vars raw ka).2)):=fun w1 h1 h2=>Tj s raw ka sc _ _ _ _ sc.vars w1 h1 h2 lv
 rw[E]at hJ;clear E;generalize Gj sc.free sc.vars raw ka=g at*;obtain⟨nm,na⟩:=g;dsimp only at HNM hJ;subst hv;have HH4:=Za (HH3.o.kind 1);have HC4:=Za (HC3.o.other (show C≠X by omega) 0 (.int .i64 1));have HS4:=Za (HSC.o.sfr HH4.o.fr);have b0:=HC4.o.at 0 _ rfl;have b1:=HC4.o.at 1 _ rfl;have b2:=HC4.o.at 2 _ rfl;have b3:=HC4.o.at 3 _ rfl;have b4:=HC4.o.at 4 _ rfl;have x0:=HH3.o.own.at 0 _ rfl;have x1:=HH3.o.own.at 1 _ rfl;have x2:=HH3.o.own.at 2 _ rfl;have x3:=HH3.o.own.at 3 _ rfl;have x4:=HH3.o.own.at 4 _ rfl;have fx0:=HH3.o.own.fz 0
 conv=>arg 2;whnf
 go_wp2_with fail
 refine(HNM.o _ HH4.o.src HS4.o.vars).mono ?_;rintro r w5 ⟨rfl,hs5,hf5⟩;have HH5:=Za (HH4.o.sfr hs5 hf5);clear hs5 hf5;have y0:=HH5.o.own.at 0 _ rfl;have y1:=HH5.o.own.at 1 _ rfl;have y2:=HH5.o.own.at 2 _ rfl;have y3:=HH5.o.own.at 3 _ rfl;have y4:=HH5.o.own.at 4 _ rfl;have fy1:=HH5.o.own.fz 1;have hXl5:=HH5.o.lt;go_wp2_with fail
 go_meet;exact(HH5.o.name nm).to rfl
theorem gU {d s:Nat}{raw:List Int}{sc:Sc}{v1 a1 f1:Option Addr}{v2 a2 f2:Nat}{gs gl:Nat→List St ×Nat}{C X:Nat}{K:Int}{HA HV HB:Bool}{ka:Nat}{wr W:World}(hw:SwH d s raw sc v1 a1 f1 v2 a2 f2 C X K HA HV HB ka wr W)(hK:K=4)(hv:HA=true):SwG d s raw sc gs gl C X K HA HV HB ka wr W:=by
 obtain⟨hd1,hsc,hC,hH,hCX,hsC,hd0,hd14,hKd,eA,eV,eF⟩:=hw;unfold SwG;intros;rename_i J K' hJ hM;obtain⟨lv,la,lf⟩:sc.vars.length≤1000000∧sc.arrays.length≤1000000∧sc.funcs.length≤1000000:=⟨hsc.v1,hsc.a1,hsc.f1⟩;have HSC:=Za hsc;have HH3:=Za hH;have HC3:=Za hC;have HY:Hid (C≠s):=by show _≠_;omega
 have HCX:Hid (C<X):=hCX;have hXl:=hH.lt;have hCl:=hC.lt;have hsX:=hH.gt;clear hsc hH hC;have EV:=Za eV;have EA:=Za eA;have EF:=Za eF;clear eV eA eF;subst hK;have E:=Yy (sc:=sc) (raw:=raw) (gs:=gs) (gl:=gl) (a:=ka) (EA.out.trans hv);have HN:Hid (∀w1,As w1 s raw ka→Bp (· ≠s) w1 sc.arrays (.slice a1 sc.arrays.length a2)→Calls Zb 28 #[.agg #[.slice v1 sc.vars.length v2,.slice a1 sc.arrays.length a2,.slice f1 sc.funcs.length f2,.bool sc.free,.bool sc.loop],.pointer (some ⟨s,0,none⟩)] w1 (Dr w1 s raw (.agg #[.string (Aa (Cr sc.free sc.arrays raw ka).1.name),.int .i64 (Cr sc.free sc.arrays raw ka).1.size]) (Cr sc.free sc.arrays raw ka).2)):=fun w1 h1 h2=>Mm s raw ka sc _ _ _ w1 h1 h2 la
 rw[E]at hJ;clear E;generalize Cr sc.free sc.arrays raw ka=q at*;obtain⟨⟨qn,qz⟩,qa⟩:=q;dsimp only at HN hJ;have HE3:Hid (∀b w1,As w1 s raw b→Ec s w1 sc (.slice v1 sc.vars.length v2) (.slice a1 sc.arrays.length a2) (.slice f1 sc.funcs.length f2)→Calls Zb 27 #[.agg #[.slice v1 sc.vars.length v2,.slice a1 sc.arrays.length a2,.slice f1 sc.funcs.length f2,.bool sc.free,.bool sc.loop],.pointer (some ⟨s,0,none⟩),.int .i64 3] w1 (El w1 s raw (Az sc raw 3 b))):=fun b w1 h1 h2=>Gm 3 (by decide) s raw b sc _ _ _ w1 h1 h2
 replace HE3:=Za (HE3.o qa);generalize Az sc raw 3 qa=x at*;obtain⟨x,xa⟩:=x;dsimp only at HE3 hJ;subst hv;have HH4:=Za (HH3.o.kind 2);have HC4:=Za (HC3.o.other (show C≠X by omega) 0 (.int .i64 2));have HS4:=Za (HSC.o.sfr HH4.o.fr);have b0:=HC4.o.at 0 _ rfl;have b1:=HC4.o.at 1 _ rfl;have b2:=HC4.o.at 2 _ rfl;have b3:=HC4.o.at 3 _ rfl;have b4:=HC4.o.at 4 _ rfl;have x0:=HH3.o.own.at 0 _ rfl;have x1:=HH3.o.own.at 1 _ rfl;have x2:=HH3.o.own.at 2 _ rfl;have x3:=HH3.o.own.at 3 _ rfl;have x4:=HH3.o.own.at 4 _ rfl;have fx0:=HH3.o.own.fz 0
 conv=>arg 2;whnf
 go_wp2_with fail
 refine(HN.o _ HH4.o.src HS4.o.arrays).mono ?_;rintro r w5 ⟨rfl,hs5,hf5⟩;have HH5:=Za (HH4.o.sfr hs5 hf5);have HC5:=Za (HC4.o.sfr hf5 HY.o);clear hs5 hf5 b0 b1 b2 b3 b4 x0 x1 x2 x3 x4 fx0;have y0:=HH5.o.own.at 0 _ rfl;have y1:=HH5.o.own.at 1 _ rfl;have y2:=HH5.o.own.at 2 _ rfl;have y3:=HH5.o.own.at 3 _ rfl;have y4:=HH5.o.own.at 4 _ rfl;have fy1:=HH5.o.own.fz 1;have hXl5:=HH5.o.lt;have HHA:=Za (HH5.o.name qn);have HCA:=Za (HC5.o.other (show C≠X by omega) 1 (.string (Aa qn)));go_upto_region 19 with(fail)
 generalize w5.setCell ⟨X,1,none⟩ (.string (Aa qn))=W6 at*;clear y0 y1 y2 y3 y4 fy1 hXl5;have hdr:Below W6.heap.size W6 W6.drew:=(Below.refl _ _).drew;have HHd:=Za (HHA.o.below hdr);have HCd:=Za (HCA.o.old hdr);clear hdr;have b0:=HCA.o.at 0 _ rfl;have b1:=HCA.o.at 1 _ rfl;have b2:=HCA.o.at 2 _ rfl;have b3:=HCA.o.at 3 _ rfl;have b4:=HCA.o.at 4 _ rfl;have x0:=HHA.o.own.at 0 _ rfl;have x1:=HHA.o.own.at 1 _ rfl;have x2:=HHA.o.own.at 2 _ rfl;have x3:=HHA.o.own.at 3 _ rfl;have x4:=HHA.o.own.at 4 _ rfl;have fx2:=HHA.o.own.fz 2;have hXd:=HHA.o.lt;have hCd:=HCA.o.lt;obtain⟨i0,hi0,hz0,hz1,hz2⟩:=info_parts Lh;go_wp2_with fail
 go_region_law (first
  |((try go_simp);go_at_call 27;refine(HE3.o _ HHd.o.src (HSC.o.sfr HHd.o.fr)).mono ?_;rintro r w6 ⟨xv,he,hs6,hf6,hx6,hn6⟩;obtain⟨xs,xc,hxv⟩:=hx6.shape;subst hxv;subst he;have hc:∀b o,b<_→b≠s→w6.cell? ⟨b,o,none⟩=_:=fun b o h hn=>Zc (a:=⟨b,o,none⟩) (hf6.block b h hn);have HH6:=Za (HHd.o.sfr hs6 hf6);have HC6:=Za (HCd.o.sfr hf6 HY.o);have Hx6:=Za hx6;have Hn6:=Za hn6;have hz6:=hf6.size;have u2:=HH6.o.own.at 2 _ rfl;have hX6:=HH6.o.lt;clear hs6 hf6 hx6 hn6;have hw7:Below w6.heap.size w6 (w6.alloc (.cells #[.int .i64 x.kind,.int .i64 x.op,.int .i64 x.n,.string (Aa x.name),.slice xs x.args.length xc] 31)):=bA;have HH7:=Za (HH6.o.below hw7);have HC7:=Za (HC6.o.old hw7);have HN7:=Za (Bx.new w6 (Aq x (.slice xs x.args.length xc)) 31);have Hx7:=Za ((Hx6.out.old hw7).mono (fun b hb=>HHd.o.beside b hb));clear hw7)
  |(refine step_append_lies (P:=Zb) _ rfl _ _ 29 rfl (X+1) 31 i0 _ 5 64 Zd hi0 hz0 hz1 hz2 rfl (by decide) (.slice none 0 0) 0 (Dk []) rfl HH7.o.exs.1 ⟨w6.heap.size,0,none⟩ 1 1 (Aq x (.slice xs x.args.length xc)) rfl rfl (Ew HN7.o) (Mq x _ _ _) (by decide) (by unfold maxLen;omega) (by omega) (by have:=HH7.o.lt;omega) _ rfl ?_;intro g cap w8 hown hgrow hat hlt8;have hge8:∀k,(Value.slice none 0 0).ownBlock=some k→X+1≤k:=fun k e=>(HH7.o.exs.ge e).1;have HH9:=Za (HH7.o.more x _ Hx7.out Hn6.out hown hgrow hat);have hO8:=HH7.o.own.low (hgrow.block X HH7.o.lt (fun e=>by have:=hge8 _ e.symm;omega));have HC8:=Za (HC7.o.low (hgrow.block _ HC7.o.lt (fun e=>by have:=hge8 _ e.symm;have:=HCX.o;omega)));have y2:=hO8.at 2 _ rfl;have fy2:=hO8.fz 2;have hX8:=hO8.lt;clear hown hgrow hat hO8))
 all_goals
  have HC9:=Za (HC8.o.other (show C≠X by have:=HCX.o;omega) 2 (.slice (some ⟨g,0,none⟩) (0+1) cap));go_wp2_with fail
  go_meet;exact HH9.o.to rfl
theorem sw_call {d s:Nat}{raw:List Int}{sc:Sc}{v1 a1 f1:Option Addr}{v2 a2 f2:Nat}{gs gl:Nat→List St ×Nat}{C X:Nat}{K:Int}{HA HV HB:Bool}{ka:Nat}{wr W:World}(hw:SwH d s raw sc v1 a1 f1 v2 a2 f2 C X K HA HV HB ka wr W)(hK:K=5)(hv:HB=true):SwG d s raw sc gs gl C X K HA HV HB ka wr W:=by
 obtain⟨hd1,hsc,hC,hH,hCX,hsC,hd0,hd14,hKd,eA,eV,eF⟩:=hw;unfold SwG;intros;rename_i J K' hJ hM;obtain⟨lv,la,lf⟩:sc.vars.length≤1000000∧sc.arrays.length≤1000000∧sc.funcs.length≤1000000:=⟨hsc.v1,hsc.a1,hsc.f1⟩;have HSC:=Za hsc;have HH3:=Za hH;have HC3:=Za hC;have HY:Hid (C≠s):=by show _≠_;omega
 have HCX:Hid (C<X):=hCX;have hXl:=hH.lt;have hCl:=hC.lt;have hsX:=hH.gt;clear hsc hH hC;have EV:=Za eV;have EA:=Za eA;have EF:=Za eF;clear eV eA eF;subst hK;have E:=eM (sc:=sc) (raw:=raw) (gs:=gs) (gl:=gl) (a:=ka) (EF.out.trans hv);rw[E]at hJ;clear E;have HCA:Hid (∀w1,As w1 s raw ka→Ec s w1 sc (.slice v1 sc.vars.length v2) (.slice a1 sc.arrays.length a2) (.slice f1 sc.funcs.length f2)→Calls Zb 62 #[.agg #[.slice v1 sc.vars.length v2,.slice a1 sc.arrays.length a2,.slice f1 sc.funcs.length f2,.bool sc.free,.bool sc.loop],.pointer (some ⟨s,0,none⟩),.int .i64 3] w1 (El w1 s raw (Gw sc raw (Az sc raw 2) ka))):=fun w1 h1 h2=>iC 3 (by decide) (by decide) s raw ka sc _ _ _ w1 h1 h2
 generalize Gw sc raw (Az sc raw 2) ka=x at*;obtain⟨x,xa⟩:=x;dsimp only at HCA hJ;subst hv;have HH4:=Za (HH3.o.kind 10);have HC4:=Za (HC3.o.other (show C≠X by omega) 0 (.int .i64 10));have y0:=HH3.o.own.at 0 _ rfl;have y1:=HH3.o.own.at 1 _ rfl;have y2:=HH3.o.own.at 2 _ rfl;have y3:=HH3.o.own.at 3 _ rfl;have y4:=HH3.o.own.at 4 _ rfl;have fy0:=HH3.o.own.fz 0
 conv=>arg 2;whnf
 go_upto_region 22 with(fail)
 generalize W.setCell ⟨X,0,none⟩ (.int .i64 10)=W4 at*;clear y0 y1 y2 y3 y4 fy0;have hdr:Below W4.heap.size W4 W4.drew:=(Below.refl _ _).drew;have HHd:=Za (HH4.o.below hdr);have HCd:=Za (HC4.o.old hdr);clear hdr;have b0:=HC4.o.at 0 _ rfl;have b1:=HC4.o.at 1 _ rfl;have b2:=HC4.o.at 2 _ rfl;have b3:=HC4.o.at 3 _ rfl;have b4:=HC4.o.at 4 _ rfl;have x0:=HH4.o.own.at 0 _ rfl;have x1:=HH4.o.own.at 1 _ rfl;have x2:=HH4.o.own.at 2 _ rfl;have x3:=HH4.o.own.at 3 _ rfl;have x4:=HH4.o.own.at 4 _ rfl;have fx2:=HH4.o.own.fz 2;have hXd:=HH4.o.lt;have hCd:=HC4.o.lt;obtain⟨i0,hi0,hz0,hz1,hz2⟩:=info_parts Lh;go_wp2_with fail
 go_region_law (first
  |((try go_simp);go_at_call 62;refine(HCA.o _ HHd.o.src (HSC.o.sfr HHd.o.fr)).mono ?_;rintro r w6 ⟨xv,he,hs6,hf6,hx6,hn6⟩;obtain⟨xs,xc,hxv⟩:=hx6.shape;subst hxv;subst he;have hc:∀b o,b<_→b≠s→w6.cell? ⟨b,o,none⟩=_:=fun b o h hn=>Zc (a:=⟨b,o,none⟩) (hf6.block b h hn);have HH6:=Za (HHd.o.sfr hs6 hf6);have HC6:=Za (HCd.o.sfr hf6 HY.o);have Hx6:=Za hx6;have Hn6:=Za hn6;have hz6:=hf6.size;have u2:=HH6.o.own.at 2 _ rfl;have hX6:=HH6.o.lt;clear hs6 hf6 hx6 hn6;have hw7:Below w6.heap.size w6 (w6.alloc (.cells #[.int .i64 x.kind,.int .i64 x.op,.int .i64 x.n,.string (Aa x.name),.slice xs x.args.length xc] 31)):=bA;have HH7:=Za (HH6.o.below hw7);have HC7:=Za (HC6.o.old hw7);have HN7:=Za (Bx.new w6 (Aq x (.slice xs x.args.length xc)) 31);have Hx7:=Za ((Hx6.out.old hw7).mono (fun b hb=>HHd.o.beside b hb));clear hw7)
  |(refine step_append_lies (P:=Zb) _ rfl _ _ 29 rfl (X+1) 31 i0 _ 5 64 Zd hi0 hz0 hz1 hz2 rfl (by decide) (.slice none 0 0) 0 (Dk []) rfl HH7.o.exs.1 ⟨w6.heap.size,0,none⟩ 1 1 (Aq x (.slice xs x.args.length xc)) rfl rfl (Ew HN7.o) (Mq x _ _ _) (by decide) (by unfold maxLen;omega) (by omega) (by have:=HH7.o.lt;omega) _ rfl ?_;intro g cap w8 hown hgrow hat hlt8;have hge8:∀k,(Value.slice none 0 0).ownBlock=some k→X+1≤k:=fun k e=>(HH7.o.exs.ge e).1;have HH9:=Za (HH7.o.more x _ Hx7.out Hn6.out hown hgrow hat);have hO8:=HH7.o.own.low (hgrow.block X HH7.o.lt (fun e=>by have:=hge8 _ e.symm;omega));have HC8:=Za (HC7.o.low (hgrow.block _ HC7.o.lt (fun e=>by have:=hge8 _ e.symm;have:=HCX.o;omega)));have y2:=hO8.at 2 _ rfl;have fy2:=hO8.fz 2;have hX8:=hO8.lt;clear hown hgrow hat hO8))
 all_goals
  have HC9:=Za (HC8.o.other (show C≠X by have:=HCX.o;omega) 2 (.slice (some ⟨g,0,none⟩) (0+1) cap));go_wp2_with fail
  go_meet;exact HH9.o.to rfl
theorem sw_ret {d s:Nat}{raw:List Int}{sc:Sc}{v1 a1 f1:Option Addr}{v2 a2 f2:Nat}{gs gl:Nat→List St ×Nat}{C X:Nat}{K:Int}{HA HV HB:Bool}{ka:Nat}{wr W:World}(hw:SwH d s raw sc v1 a1 f1 v2 a2 f2 C X K HA HV HB ka wr W)(hK:K=6)(hv:(Ad raw ka 3).1=2):SwG d s raw sc gs gl C X K HA HV HB ka wr W:=by
 obtain⟨hd1,hsc,hC,hH,hCX,hsC,hd0,hd14,hKd,eA,eV,eF⟩:=hw;unfold SwG;intros;rename_i J K' hJ hM;obtain⟨lv,la,lf⟩:sc.vars.length≤1000000∧sc.arrays.length≤1000000∧sc.funcs.length≤1000000:=⟨hsc.v1,hsc.a1,hsc.f1⟩;have HSC:=Za hsc;have HH3:=Za hH;have HC3:=Za hC;have HY:Hid (C≠s):=by show _≠_;omega
 have HCX:Hid (C<X):=hCX;have hXl:=hH.lt;have hCl:=hC.lt;have hsX:=hH.gt;clear hsc hH hC;have EV:=Za eV;have EA:=Za eA;have EF:=Za eF;clear eV eA eF;subst hK;have E:=jF (sc:=sc) (raw:=raw) (gs:=gs) (gl:=gl) (a:=ka) hv;rw[E]at hJ;clear E;have HN:Hid (∀w1,As w1 s raw ka→Calls Zb 24 #[.pointer (some ⟨s,0,none⟩),.int .i64 3] w1 (Dr w1 s raw (.int .i64 (Ad raw ka 3).1) (Ad raw ka 3).2)):=fun w1 h1=>Bn s raw ka 3 w1 h1 (by decide) (by decide)
 rw[hv]at HN;generalize (Ad raw ka 3).2=na at*;have HM:Hid (∀w1,As w1 s raw na→Calls Zb 24 #[.pointer (some ⟨s,0,none⟩),.int .i64 2] w1 (Dr w1 s raw (.int .i64 (Ad raw na 2).1) (Ad raw na 2).2)):=fun w1 h1=>Bn s raw na 2 w1 h1 (by decide) (by decide)
 have hr:=Ak raw na 2 (by decide);generalize Ad raw na 2=j at*;obtain⟨j,ja⟩:=j;dsimp only at HM hJ hr;clear hv
 conv=>arg 2;whnf
 go_wp2_with fail
 refine(HN.o _ HH3.o.src).mono ?_;rintro r w5 ⟨rfl,hs5,hf5⟩;have hb5:Below w5.heap.size w5 (w5.alloc (.cells #[.int .i64 7,.int .i64 9] 3)):=bA;have HH5:=Za ((HH3.o.sfr hs5 hf5).below hb5);have HL5:=Za (Al.new w5 [.int .i64 7,.int .i64 9] 3);have hs5z:=hf5.size;clear hs5 hf5 hb5;go_wp2_with fail
 refine(HM.o _ HH5.o.src).mono ?_;rintro r w7 ⟨rfl,hs7,hf7⟩;have HH7:=Za (HH5.o.sfr hs7 hf7);have HL7:=Za (HL5.o.sfr hf7 (by omega));clear hs7 hf7 HL5 HH5;have y0:=HH7.o.own.at 0 _ rfl;have y1:=HH7.o.own.at 1 _ rfl;have y2:=HH7.o.own.at 2 _ rfl;have y3:=HH7.o.own.at 3 _ rfl;have y4:=HH7.o.own.at 4 _ rfl;have fy0:=HH7.o.own.fz 0;have hXl5:=HH7.o.lt;have l0:=HL7.o.at 0 _ rfl;have l1:=HL7.o.at 1 _ rfl;obtain⟨j0,j1⟩:=hr;have hj:j=0∨j=1:=by omega
 rcases hj with rfl|rfl
 ·rw[if_pos rfl]at hJ
  go_wp2_with fail
  go_meet;exact(HH7.o.kind 7).to rfl
 ·rw[if_neg (by decide)]at hJ
  go_wp2_with fail
  go_meet;exact(HH7.o.kind 9).to rfl
theorem iO {d s:Nat}{raw:List Int}{sc:Sc}{v1 a1 f1:Option Addr}{v2 a2 f2:Nat}{gs gl:Nat→List St ×Nat}{C X:Nat}{K:Int}{HA HV HB:Bool}{ka:Nat}{wr W:World}(hw:SwH d s raw sc v1 a1 f1 v2 a2 f2 C X K HA HV HB ka wr W)(hK:K=6)(hv:¬(Ad raw ka 3).1=2):SwG d s raw sc gs gl C X K HA HV HB ka wr W:=by
 obtain⟨hd1,hsc,hC,hH,hCX,hsC,hd0,hd14,hKd,eA,eV,eF⟩:=hw;unfold SwG;intros;rename_i J K' hJ hM;obtain⟨lv,la,lf⟩:sc.vars.length≤1000000∧sc.arrays.length≤1000000∧sc.funcs.length≤1000000:=⟨hsc.v1,hsc.a1,hsc.f1⟩;have HSC:=Za hsc;have HH3:=Za hH;have HC3:=Za hC;have HY:Hid (C≠s):=by show _≠_;omega
 have HCX:Hid (C<X):=hCX;have hXl:=hH.lt;have hCl:=hC.lt;have hsX:=hH.gt;clear hsc hH hC;have EV:=Za eV;have EA:=Za eA;have EF:=Za eF;clear eV eA eF;subst hK;have E:=Wv (sc:=sc) (raw:=raw) (gs:=gs) (gl:=gl) (a:=ka) hv;rw[E]at hJ;clear E;have HN:Hid (∀w1,As w1 s raw ka→Calls Zb 24 #[.pointer (some ⟨s,0,none⟩),.int .i64 3] w1 (Dr w1 s raw (.int .i64 (Ad raw ka 3).1) (Ad raw ka 3).2)):=fun w1 h1=>Bn s raw ka 3 w1 h1 (by decide) (by decide)
 generalize Ad raw ka 3=j at*;obtain⟨j,ja⟩:=j;dsimp only at HN hJ hv;have hne:(j==2)=false:=beq_eq_false_iff_ne.2 hv;clear hv
 conv=>arg 2;whnf
 go_wp2_with fail
 refine(HN.o _ HH3.o.src).mono ?_;rintro r w5 ⟨rfl,hs5,hf5⟩;have HH5:=Za (HH3.o.sfr hs5 hf5);clear hs5 hf5;go_wp2_with fail
 go_meet;exact HH5.o.to rfl
theorem sw_brk {d s:Nat}{raw:List Int}{sc:Sc}{v1 a1 f1:Option Addr}{v2 a2 f2:Nat}{gs gl:Nat→List St ×Nat}{C X:Nat}{K:Int}{HA HV HB:Bool}{ka:Nat}{wr W:World}(hw:SwH d s raw sc v1 a1 f1 v2 a2 f2 C X K HA HV HB ka wr W)(hK:K=11)(hb:(sc.loop||sc.free)=true)(hv:(Ad raw ka 2).1=1):SwG d s raw sc gs gl C X K HA HV HB ka wr W:=by
 obtain⟨hd1,hsc,hC,hH,hCX,hsC,hd0,hd14,hKd,eA,eV,eF⟩:=hw;unfold SwG;intros;rename_i J K' hJ hM;obtain⟨lv,la,lf⟩:sc.vars.length≤1000000∧sc.arrays.length≤1000000∧sc.funcs.length≤1000000:=⟨hsc.v1,hsc.a1,hsc.f1⟩;have HSC:=Za hsc;have HH3:=Za hH;have HC3:=Za hC;have HY:Hid (C≠s):=by show _≠_;omega
 have HCX:Hid (C<X):=hCX;have hXl:=hH.lt;have hCl:=hC.lt;have hsX:=hH.gt;clear hsc hH hC;have EV:=Za eV;have EA:=Za eA;have EF:=Za eF;clear eV eA eF;subst hK;have E:=gM (sc:=sc) (raw:=raw) (gs:=gs) (gl:=gl) (a:=ka) hb hv;rw[E]at hJ;clear E;have HN:Hid (∀w1,As w1 s raw ka→Calls Zb 24 #[.pointer (some ⟨s,0,none⟩),.int .i64 2] w1 (Dr w1 s raw (.int .i64 (Ad raw ka 2).1) (Ad raw ka 2).2)):=fun w1 h1=>Bn s raw ka 2 w1 h1 (by decide) (by decide)
 rw[hv]at HN;generalize (Ad raw ka 2).2=na at*;have HM:Hid (∀w1,As w1 s raw na→Calls Zb 24 #[.pointer (some ⟨s,0,none⟩),.int .i64 2] w1 (Dr w1 s raw (.int .i64 (Ad raw na 2).1) (Ad raw na 2).2)):=fun w1 h1=>Bn s raw na 2 w1 h1 (by decide) (by decide)
 have hr:=Ak raw na 2 (by decide);generalize Ad raw na 2=j at*;obtain⟨j,ja⟩:=j;dsimp only at HM hJ hr;clear hv;obtain⟨lb,elb⟩:∃lb,lb=sc.loop:=⟨_,rfl⟩;obtain⟨fb,efb⟩:∃fb,fb=sc.free:=⟨_,rfl⟩;rw[←elb,←efb]at HC3 hb;have b3:=HC3.o.at 3 _ rfl;have b4:=HC3.o.at 4 _ rfl;clear elb efb;have hcase:(lb=true)∨(lb=false∧fb=true):=by revert hb;cases lb<;>cases fb<;>simp
 clear hb;rcases hcase with rfl|⟨rfl,rfl⟩
 all_goals
  conv=>arg 2;whnf
  go_wp2_with fail
  refine(HN.o _ HH3.o.src).mono ?_;rintro r w5 ⟨rfl,hs5,hf5⟩;have hb5:Below w5.heap.size w5 (w5.alloc (.cells #[.int .i64 5,.int .i64 6] 3)):=bA;have HH5:=Za ((HH3.o.sfr hs5 hf5).below hb5);have HL5:=Za (Al.new w5 [.int .i64 5,.int .i64 6] 3);have hs5z:=hf5.size;clear hs5 hf5 hb5;go_wp2_with fail
  refine(HM.o _ HH5.o.src).mono ?_;rintro r w7 ⟨rfl,hs7,hf7⟩;have HH7:=Za (HH5.o.sfr hs7 hf7);have HL7:=Za (HL5.o.sfr hf7 (by omega));clear hs7 hf7 HL5 HH5;have y0:=HH7.o.own.at 0 _ rfl;have y1:=HH7.o.own.at 1 _ rfl;have y2:=HH7.o.own.at 2 _ rfl;have y3:=HH7.o.own.at 3 _ rfl;have y4:=HH7.o.own.at 4 _ rfl;have fy0:=HH7.o.own.fz 0;have hXl5:=HH7.o.lt;have l0:=HL7.o.at 0 _ rfl;have l1:=HL7.o.at 1 _ rfl;obtain⟨j0,j1⟩:=hr;have hj:j=0∨j=1:=by omega
  rcases hj with rfl|rfl
  ·rw[if_pos rfl]at hJ
   go_wp2_with fail
   go_meet;exact(HH7.o.kind 5).to rfl
  ·rw[if_neg (by decide)]at hJ
   go_wp2_with fail
   go_meet;exact(HH7.o.kind 6).to rfl
theorem jA {d s:Nat}{raw:List Int}{sc:Sc}{v1 a1 f1:Option Addr}{v2 a2 f2:Nat}{gs gl:Nat→List St ×Nat}{C X:Nat}{K:Int}{HA HV HB:Bool}{ka:Nat}{wr W:World}(hw:SwH d s raw sc v1 a1 f1 v2 a2 f2 C X K HA HV HB ka wr W)(hK:K=11)(hb:(sc.loop||sc.free)=true)(hv:¬(Ad raw ka 2).1=1):SwG d s raw sc gs gl C X K HA HV HB ka wr W:=by
 obtain⟨hd1,hsc,hC,hH,hCX,hsC,hd0,hd14,hKd,eA,eV,eF⟩:=hw;unfold SwG;intros;rename_i J K' hJ hM;obtain⟨lv,la,lf⟩:sc.vars.length≤1000000∧sc.arrays.length≤1000000∧sc.funcs.length≤1000000:=⟨hsc.v1,hsc.a1,hsc.f1⟩;have HSC:=Za hsc;have HH3:=Za hH;have HC3:=Za hC;have HY:Hid (C≠s):=by show _≠_;omega
 have HCX:Hid (C<X):=hCX;have hXl:=hH.lt;have hCl:=hC.lt;have hsX:=hH.gt;clear hsc hH hC;have EV:=Za eV;have EA:=Za eA;have EF:=Za eF;clear eV eA eF;subst hK;have E:=Wk (sc:=sc) (raw:=raw) (gs:=gs) (gl:=gl) (a:=ka) hb hv;rw[E]at hJ;clear E;have HN:Hid (∀w1,As w1 s raw ka→Calls Zb 24 #[.pointer (some ⟨s,0,none⟩),.int .i64 2] w1 (Dr w1 s raw (.int .i64 (Ad raw ka 2).1) (Ad raw ka 2).2)):=fun w1 h1=>Bn s raw ka 2 w1 h1 (by decide) (by decide)
 generalize Ad raw ka 2=j at*;obtain⟨j,ja⟩:=j;dsimp only at HN hJ hv;have hne:(j==1)=false:=beq_eq_false_iff_ne.2 hv;clear hv;obtain⟨lb,elb⟩:∃lb,lb=sc.loop:=⟨_,rfl⟩;obtain⟨fb,efb⟩:∃fb,fb=sc.free:=⟨_,rfl⟩;rw[←elb,←efb]at HC3 hb;have b3:=HC3.o.at 3 _ rfl;have b4:=HC3.o.at 4 _ rfl;clear elb efb;have hcase:(lb=true)∨(lb=false∧fb=true):=by revert hb;cases lb<;>cases fb<;>simp
 clear hb;rcases hcase with rfl|⟨rfl,rfl⟩
 all_goals
  conv=>arg 2;whnf
  go_wp2_with fail
  refine(HN.o _ HH3.o.src).mono ?_;rintro r w5 ⟨rfl,hs5,hf5⟩;have HH5:=Za (HH3.o.sfr hs5 hf5);clear hs5 hf5;go_wp2_with fail
  go_meet;exact HH5.o.to rfl
theorem sw_if {d s:Nat}{raw:List Int}{sc:Sc}{v1 a1 f1:Option Addr}{v2 a2 f2:Nat}{gs gl:Nat→List St ×Nat}{C X:Nat}{K:Int}{HA HV HB:Bool}{ka:Nat}{wr W:World}(hw:SwH d s raw sc v1 a1 f1 v2 a2 f2 C X K HA HV HB ka wr W)(hK:K=7∨K=8)(hIH:SwI d s raw sc v1 a1 f1 v2 a2 f2 sc.loop gs)(hIL:SwI d s raw sc v1 a1 f1 v2 a2 f2 true gl):SwG d s raw sc gs gl C X K HA HV HB ka wr W:=by
 obtain⟨hd1,hsc,hC,hH,hCX,hsC,hd0,hd14,hKd,eA,eV,eF⟩:=hw;unfold SwG;intros;rename_i J K' hJ hM;obtain⟨lv,la,lf⟩:sc.vars.length≤1000000∧sc.arrays.length≤1000000∧sc.funcs.length≤1000000:=⟨hsc.v1,hsc.a1,hsc.f1⟩;have HSC:=Za hsc;have HH3:=Za hH;have HC3:=Za hC;have HY:Hid (C≠s):=by show _≠_;omega
 have HCX:Hid (C<X):=hCX;have hXl:=hH.lt;have hCl:=hC.lt;have hsX:=hH.gt;clear hsc hH hC;have EV:=Za eV;have EA:=Za eA;have EF:=Za eF;clear eV eA eF;have E:=head_if (sc:=sc) (raw:=raw) (gs:=gs) (gl:=gl) (a:=ka) hK;have hd2:2≤d:=hKd (by omega) (by omega);have hdI:(2:Int)≤(d:Int):=by omega
 have hdM:(d:Int)≤1000:=by omega
 rw[E]at hJ;clear E;have HE3:Hid (∀b w1,As w1 s raw b→Ec s w1 sc (.slice v1 sc.vars.length v2) (.slice a1 sc.arrays.length a2) (.slice f1 sc.funcs.length f2)→Calls Zb 27 #[.agg #[.slice v1 sc.vars.length v2,.slice a1 sc.arrays.length a2,.slice f1 sc.funcs.length f2,.bool sc.free,.bool sc.loop],.pointer (some ⟨s,0,none⟩),.int .i64 3] w1 (El w1 s raw (Az sc raw 3 b))):=fun b w1 h1 h2=>Gm 3 (by decide) s raw b sc _ _ _ w1 h1 h2
 replace HE3:=Za (HE3.o ka);have HIH:=Za (hIH hd2);clear hIH hIL hKd;generalize Az sc raw 3 ka=x at*;obtain⟨x,xa⟩:=x;dsimp only at HE3 hJ;have HH4:=Za (HH3.o.kind 3);have HC4:=Za (HC3.o.other (show C≠X by omega) 0 (.int .i64 3));have y0:=HH3.o.own.at 0 _ rfl;have y1:=HH3.o.own.at 1 _ rfl;have y2:=HH3.o.own.at 2 _ rfl;have y3:=HH3.o.own.at 3 _ rfl;have y4:=HH3.o.own.at 4 _ rfl;have fy0:=HH3.o.own.fz 0;rcases hK with rfl|rfl
 all_goals
  conv=>arg 2;whnf
  go_upto_region 27 with(fail)
  generalize W.setCell ⟨X,0,none⟩ (.int .i64 3)=W4 at*;clear y0 y1 y2 y3 y4 fy0;go_cut []from 131 to 138 (fun wx=>ArgAt wr X s raw 3 [] [x] xa C [.slice v1 sc.vars.length v2,.slice a1 sc.arrays.length a2,.slice f1 sc.funcs.length f2,.bool sc.free,.bool sc.loop] wx)
  case first=>
   have hdr:Below W4.heap.size W4 W4.drew:=(Below.refl _ _).drew;have HHd:=Za (HH4.o.below hdr);have HCd:=Za (HC4.o.old hdr);clear hdr;have b0:=HC4.o.at 0 _ rfl;have b1:=HC4.o.at 1 _ rfl;have b2:=HC4.o.at 2 _ rfl;have b3:=HC4.o.at 3 _ rfl;have b4:=HC4.o.at 4 _ rfl;have x0:=HH4.o.own.at 0 _ rfl;have x1:=HH4.o.own.at 1 _ rfl;have x2:=HH4.o.own.at 2 _ rfl;have x3:=HH4.o.own.at 3 _ rfl;have x4:=HH4.o.own.at 4 _ rfl;have fx2:=HH4.o.own.fz 2;have hXd:=HH4.o.lt;have hCd:=HC4.o.lt;obtain⟨i0,hi0,hz0,hz1,hz2⟩:=info_parts Lh;go_wp2_with fail
   go_region_law (first
    |((try go_simp);go_at_call 27;refine(HE3.o _ HHd.o.src (HSC.o.sfr HHd.o.fr)).mono ?_;rintro r w6 ⟨xv,he,hs6,hf6,hx6,hn6⟩;obtain⟨xs,xc,hxv⟩:=hx6.shape;subst hxv;subst he;have hc:∀b o,b<_→b≠s→w6.cell? ⟨b,o,none⟩=_:=fun b o h hn=>Zc (a:=⟨b,o,none⟩) (hf6.block b h hn);have HH6:=Za (HHd.o.sfr hs6 hf6);have HC6:=Za (HCd.o.sfr hf6 HY.o);have Hx6:=Za hx6;have Hn6:=Za hn6;have hz6:=hf6.size;have u2:=HH6.o.own.at 2 _ rfl;have hX6:=HH6.o.lt;clear hs6 hf6 hx6 hn6;have hw7:Below w6.heap.size w6 (w6.alloc (.cells #[.int .i64 x.kind,.int .i64 x.op,.int .i64 x.n,.string (Aa x.name),.slice xs x.args.length xc] 31)):=bA;have HH7:=Za (HH6.o.below hw7);have HC7:=Za (HC6.o.old hw7);have HN7:=Za (Bx.new w6 (Aq x (.slice xs x.args.length xc)) 31);have Hx7:=Za ((Hx6.out.old hw7).mono (fun b hb=>HHd.o.beside b hb));clear hw7)
    |(refine step_append_lies (P:=Zb) _ rfl _ _ 29 rfl (X+1) 31 i0 _ 5 64 Zd hi0 hz0 hz1 hz2 rfl (by decide) (.slice none 0 0) 0 (Dk []) rfl HH7.o.exs.1 ⟨w6.heap.size,0,none⟩ 1 1 (Aq x (.slice xs x.args.length xc)) rfl rfl (Ew HN7.o) (Mq x _ _ _) (by decide) (by unfold maxLen;omega) (by omega) (by have:=HH7.o.lt;omega) _ rfl ?_;intro g cap w8 hown hgrow hat hlt8;have hge8:∀k,(Value.slice none 0 0).ownBlock=some k→X+1≤k:=fun k e=>(HH7.o.exs.ge e).1;have HH9:=Za (HH7.o.more x _ Hx7.out Hn6.out hown hgrow hat);have hO8:=HH7.o.own.low (hgrow.block X HH7.o.lt (fun e=>by have:=hge8 _ e.symm;omega));have HC8:=Za (HC7.o.low (hgrow.block _ HC7.o.lt (fun e=>by have:=hge8 _ e.symm;have:=HCX.o;omega)));have y2:=hO8.at 2 _ rfl;have fy2:=hO8.fz 2;have hX8:=hO8.lt;clear hown hgrow hat hO8))
   all_goals
    have HC9:=Za (HC8.o.other (show C≠X by have:=HCX.o;omega) 2 (.slice (some ⟨g,0,none⟩) (0+1) cap));go_wp2_with fail
    go_meet;exact⟨⟨_,_,_,rfl,HH9.o⟩,HC9.o⟩
  case rest=>
  obtain⟨⟨ps,va,vc,hps,hh⟩,hcc⟩:=hcut;have HPS:=Za hps;have HHB:=Za hh;have HCB:=Za hcc;clear hps hh hcc HH4 HC4 HE3;have HI1:=Za (fun w1 h1 h2=>HIH.o w1 xa h1 h2);generalize gs xa=y at HI1 hJ;obtain⟨ys,ya⟩:=y;dsimp only at HI1 hJ;have HI2:=Za (fun w1 h1 h2=>HIH.o w1 ya h1 h2);generalize gs ya=z at HI2 hJ;obtain⟨zs,za⟩:=z;dsimp only at HI2 hJ;clear HIH;have b0:=HCB.o.at 0 _ rfl;have b1:=HCB.o.at 1 _ rfl;have b2:=HCB.o.at 2 _ rfl;have b3:=HCB.o.at 3 _ rfl;have b4:=HCB.o.at 4 _ rfl;have x0:=HHB.o.own.at 0 _ rfl;have x1:=HHB.o.own.at 1 _ rfl;have x2:=HHB.o.own.at 2 _ rfl;have x3:=HHB.o.own.at 3 _ rfl;have x4:=HHB.o.own.at 4 _ rfl;have hXB:=HHB.o.lt;go_wp2_with fail
  refine(HI1.o _ HHB.o.src (HSC.o.sfr HHB.o.fr)).mono ?_;rintro r w5 ⟨sv,rfl,hs5,hf5,hx5⟩;obtain⟨ta,tc,rfl⟩:=hx5.shape;have hh5:=HHB.o.sfr hs5 hf5;have HX5:=Za (hx5.mono (fun b hb=>HHB.o.beside b hb));have hcb5:=HCB.o.sfr hf5 HY.o;have HH6:=Za (hh5.setThn ys (.slice ta ys.length tc) HX5.o);have HC6:=Za (hcb5.other (show C≠X by have:=HCX.o;omega) 3 (.slice ta ys.length tc));have y3:=hh5.own.at 3 _ rfl;have fy3:=hh5.own.fz 3;have hX5:=hh5.lt;clear b0 b1 b2 b3 b4 x0 x1 x2 x3 x4 hs5 hf5 hx5 hh5 hcb5 hXB HHB HCB HI1;have b0:=HC6.o.at 0 _ rfl;have b1:=HC6.o.at 1 _ rfl;have b2:=HC6.o.at 2 _ rfl;have b3:=HC6.o.at 3 _ rfl;have b4:=HC6.o.at 4 _ rfl;have x0:=HH6.o.own.at 0 _ rfl;have x1:=HH6.o.own.at 1 _ rfl;have x2:=HH6.o.own.at 2 _ rfl;have x3:=HH6.o.own.at 3 _ rfl;have x4:=HH6.o.own.at 4 _ rfl;go_wp2_with fail
  refine(HI2.o _ HH6.o.src (HSC.o.sfr HH6.o.fr)).mono ?_;rintro r w7 ⟨sv,rfl,hs7,hf7,hx7⟩;obtain⟨ua,uc,rfl⟩:=hx7.shape;have hh7:=HH6.o.sfr hs7 hf7;have HX7:=Za (hx7.mono (fun b hb=>HH6.o.beside b hb));have HH8:=Za (hh7.setEls zs (.slice ua zs.length uc) HX7.o);have y4:=hh7.own.at 4 _ rfl;have fy4:=hh7.own.fz 4;have hX7:=hh7.lt;clear b0 b1 b2 b3 b4 x0 x1 x2 x3 x4 hs7 hf7 hx7 hh7 HC6 HI2;go_wp2_with fail
  go_meet;exact HH8.o.to HPS.o
theorem sw_loop {d s:Nat}{raw:List Int}{sc:Sc}{v1 a1 f1:Option Addr}{v2 a2 f2:Nat}{gs gl:Nat→List St ×Nat}{C X:Nat}{K:Int}{HA HV HB:Bool}{ka:Nat}{wr W:World}(hw:SwH d s raw sc v1 a1 f1 v2 a2 f2 C X K HA HV HB ka wr W)(hK:K=9∨K=10)(hIH:SwI d s raw sc v1 a1 f1 v2 a2 f2 sc.loop gs)(hIL:SwI d s raw sc v1 a1 f1 v2 a2 f2 true gl):SwG d s raw sc gs gl C X K HA HV HB ka wr W:=by
 obtain⟨hd1,hsc,hC,hH,hCX,hsC,hd0,hd14,hKd,eA,eV,eF⟩:=hw;unfold SwG;intros;rename_i J K' hJ hM;obtain⟨lv,la,lf⟩:sc.vars.length≤1000000∧sc.arrays.length≤1000000∧sc.funcs.length≤1000000:=⟨hsc.v1,hsc.a1,hsc.f1⟩;have HSC:=Za hsc;have HH3:=Za hH;have HC3:=Za hC;have HY:Hid (C≠s):=by show _≠_;omega
 have HCX:Hid (C<X):=hCX;have hXl:=hH.lt;have hCl:=hC.lt;have hsX:=hH.gt;clear hsc hH hC;have EV:=Za eV;have EA:=Za eA;have EF:=Za eF;clear eV eA eF;have E:=eX (sc:=sc) (raw:=raw) (gs:=gs) (gl:=gl) (a:=ka) hK;have hd2:2≤d:=hKd (by omega) (by omega);have hdI:(2:Int)≤(d:Int):=by omega
 have hdM:(d:Int)≤1000:=by omega
 rw[E]at hJ;clear E;have HE3:Hid (∀b w1,As w1 s raw b→Ec s w1 sc (.slice v1 sc.vars.length v2) (.slice a1 sc.arrays.length a2) (.slice f1 sc.funcs.length f2)→Calls Zb 27 #[.agg #[.slice v1 sc.vars.length v2,.slice a1 sc.arrays.length a2,.slice f1 sc.funcs.length f2,.bool sc.free,.bool sc.loop],.pointer (some ⟨s,0,none⟩),.int .i64 3] w1 (El w1 s raw (Az sc raw 3 b))):=fun b w1 h1 h2=>Gm 3 (by decide) s raw b sc _ _ _ w1 h1 h2
 replace HE3:=Za (HE3.o ka);have HIH:=Za (hIL hd2);clear hIH hIL hKd;generalize Az sc raw 3 ka=x at*;obtain⟨x,xa⟩:=x;dsimp only at HE3 hJ;have HH4':=HH3.o.kind 4;have hb4:Below (W.setCell ⟨X,0,none⟩ (.int .i64 4)).heap.size (W.setCell ⟨X,0,none⟩ (.int .i64 4)) ((W.setCell ⟨X,0,none⟩ (.int .i64 4)).alloc (.cells #[.slice v1 sc.vars.length v2,.slice a1 sc.arrays.length a2,.slice f1 sc.funcs.length f2,.bool sc.free,.bool true] 62)):=bA;have HH4:=Za (HH4'.below hb4);have HC4:=Za ((HC3.o.other (show C≠X by omega) 0 (.int .i64 4)).old hb4);have hi4:=Al.new (W.setCell ⟨X,0,none⟩ (.int .i64 4)) [.slice v1 sc.vars.length v2,.slice a1 sc.arrays.length a2,.slice f1 sc.funcs.length f2,.bool sc.free,.bool true] 62;rw[show(W.setCell ⟨X,0,none⟩ (.int .i64 4)).heap.size=W.heap.size by simp [World.setCell]]at hi4;have HI4:=Za hi4;have HIX:Hid (W.heap.size≠X):=by show _≠_;omega
 have HIS:Hid (W.heap.size≠s):=by show _≠_;omega
 clear hb4 HH4' hi4;have b0:=HC3.o.at 0 _ rfl;have b1:=HC3.o.at 1 _ rfl;have b2:=HC3.o.at 2 _ rfl;have b3:=HC3.o.at 3 _ rfl;have b4:=HC3.o.at 4 _ rfl;have y0:=HH3.o.own.at 0 _ rfl;have y1:=HH3.o.own.at 1 _ rfl;have y2:=HH3.o.own.at 2 _ rfl;have y3:=HH3.o.own.at 3 _ rfl;have y4:=HH3.o.own.at 4 _ rfl;have fy0:=HH3.o.own.fz 0;rcases hK with rfl|rfl
 all_goals
  conv=>arg 2;whnf
  go_upto_region 34 with(fail)
  clear y0 y1 y2 y3 y4 fy0 b0 b1 b2 b3 b4 HH3 HC3;generalize (W.setCell ⟨X,0,none⟩ (.int .i64 4)).alloc (.cells #[.slice v1 sc.vars.length v2,.slice a1 sc.arrays.length a2,.slice f1 sc.funcs.length f2,.bool sc.free,.bool true] 62)=W4 at*;generalize W.heap.size=I at*;go_cut []from 161 to 168 (fun wx=>ArgAt wr X s raw 4 [] [x] xa C [.slice v1 sc.vars.length v2,.slice a1 sc.arrays.length a2,.slice f1 sc.funcs.length f2,.bool sc.free,.bool sc.loop] wx∧Al wx I [.slice v1 sc.vars.length v2,.slice a1 sc.arrays.length a2,.slice f1 sc.funcs.length f2,.bool sc.free,.bool true] 62)
  case first=>
   have hdr:Below W4.heap.size W4 W4.drew:=(Below.refl _ _).drew;have HHd:=Za (HH4.o.below hdr);have HCd:=Za (HC4.o.old hdr);have HId:=Za (HI4.o.old hdr);clear hdr;have b0:=HC4.o.at 0 _ rfl;have b1:=HC4.o.at 1 _ rfl;have b2:=HC4.o.at 2 _ rfl;have b3:=HC4.o.at 3 _ rfl;have b4:=HC4.o.at 4 _ rfl;have x0:=HH4.o.own.at 0 _ rfl;have x1:=HH4.o.own.at 1 _ rfl;have x2:=HH4.o.own.at 2 _ rfl;have x3:=HH4.o.own.at 3 _ rfl;have x4:=HH4.o.own.at 4 _ rfl;have fx2:=HH4.o.own.fz 2;have hXd:=HH4.o.lt;have hCd:=HC4.o.lt;obtain⟨i0,hi0,hz0,hz1,hz2⟩:=info_parts Lh;go_wp2_with fail
   go_region_law (first
    |((try go_simp);go_at_call 27;refine(HE3.o _ HHd.o.src (HSC.o.sfr HHd.o.fr)).mono ?_;rintro r w6 ⟨xv,he,hs6,hf6,hx6,hn6⟩;obtain⟨xs,xc,hxv⟩:=hx6.shape;subst hxv;subst he;have hc:∀b o,b<_→b≠s→w6.cell? ⟨b,o,none⟩=_:=fun b o h hn=>Zc (a:=⟨b,o,none⟩) (hf6.block b h hn);have HH6:=Za (HHd.o.sfr hs6 hf6);have HC6:=Za (HCd.o.sfr hf6 HY.o);have HI6:=Za (HId.o.sfr hf6 HIS.o);have Hx6:=Za hx6;have Hn6:=Za hn6;have hz6:=hf6.size;have u2:=HH6.o.own.at 2 _ rfl;have hX6:=HH6.o.lt;clear hs6 hf6 hx6 hn6;have hw7:Below w6.heap.size w6 (w6.alloc (.cells #[.int .i64 x.kind,.int .i64 x.op,.int .i64 x.n,.string (Aa x.name),.slice xs x.args.length xc] 31)):=bA;have HH7:=Za (HH6.o.below hw7);have HC7:=Za (HC6.o.old hw7);have HI7:=Za (HI6.o.old hw7);have HN7:=Za (Bx.new w6 (Aq x (.slice xs x.args.length xc)) 31);have Hx7:=Za ((Hx6.out.old hw7).mono (fun b hb=>HHd.o.beside b hb));clear hw7)
    |(refine step_append_lies (P:=Zb) _ rfl _ _ 29 rfl (X+1) 31 i0 _ 5 64 Zd hi0 hz0 hz1 hz2 rfl (by decide) (.slice none 0 0) 0 (Dk []) rfl HH7.o.exs.1 ⟨w6.heap.size,0,none⟩ 1 1 (Aq x (.slice xs x.args.length xc)) rfl rfl (Ew HN7.o) (Mq x _ _ _) (by decide) (by unfold maxLen;omega) (by omega) (by have:=HH7.o.lt;omega) _ rfl ?_;intro g cap w8 hown hgrow hat hlt8;have hge8:∀k,(Value.slice none 0 0).ownBlock=some k→X+1≤k:=fun k e=>(HH7.o.exs.ge e).1;have HH9:=Za (HH7.o.more x _ Hx7.out Hn6.out hown hgrow hat);have hO8:=HH7.o.own.low (hgrow.block X HH7.o.lt (fun e=>by have:=hge8 _ e.symm;omega));have HC8:=Za (HC7.o.low (hgrow.block _ HC7.o.lt (fun e=>by have:=hge8 _ e.symm;have:=HCX.o;omega)));have HI8:=Za (HI7.o.low (hgrow.block _ HI7.o.lt (fun e=>by cases e)));have y2:=hO8.at 2 _ rfl;have fy2:=hO8.fz 2;have hX8:=hO8.lt;clear hown hgrow hat hO8))
   all_goals
    have HC9:=Za (HC8.o.other (show C≠X by have:=HCX.o;omega) 2 (.slice (some ⟨g,0,none⟩) (0+1) cap));have HI9:=Za (HI8.o.other HIX.o 2 (.slice (some ⟨g,0,none⟩) (0+1) cap));go_wp2_with fail
    go_meet;exact⟨⟨⟨_,_,_,rfl,HH9.o⟩,HC9.o⟩,HI9.o⟩
  case rest=>
  obtain⟨⟨⟨ps,va,vc,hps,hh⟩,hcc⟩,hii⟩:=hcut;have HPS:=Za hps;have HHB:=Za hh;have HIB:=Za hii;clear hps hh hcc hii HH4 HC4 HI4 HE3;have HI1:=Za (fun w1 h1 h2=>HIH.o w1 xa h1 h2);generalize gl xa=y at HI1 hJ;obtain⟨ys,ya⟩:=y;dsimp only at HI1 hJ;clear HIH;have b0:=HIB.o.at 0 _ rfl;have b1:=HIB.o.at 1 _ rfl;have b2:=HIB.o.at 2 _ rfl;have b3:=HIB.o.at 3 _ rfl;have b4:=HIB.o.at 4 _ rfl;have x0:=HHB.o.own.at 0 _ rfl;have x1:=HHB.o.own.at 1 _ rfl;have x2:=HHB.o.own.at 2 _ rfl;have x3:=HHB.o.own.at 3 _ rfl;have x4:=HHB.o.own.at 4 _ rfl;have hXB:=HHB.o.lt;go_wp2_with fail
  refine(HI1.o _ HHB.o.src (HSC.o.sfr HHB.o.fr)).mono ?_;rintro r w5 ⟨sv,rfl,hs5,hf5,hx5⟩;obtain⟨ta,tc,rfl⟩:=hx5.shape;have hh5:=HHB.o.sfr hs5 hf5;have HX5:=Za (hx5.mono (fun b hb=>HHB.o.beside b hb));have HH6:=Za (hh5.setThn ys (.slice ta ys.length tc) HX5.o);have y3:=hh5.own.at 3 _ rfl;have fy3:=hh5.own.fz 3;have hX5:=hh5.lt;clear b0 b1 b2 b3 b4 x0 x1 x2 x3 x4 hs5 hf5 hx5 hh5 hXB HHB HIB HI1;go_wp2_with fail
  go_meet;exact HH6.o.to HPS.o
theorem sw_all {d s:Nat}{raw:List Int}{sc:Sc}{v1 a1 f1:Option Addr}{v2 a2 f2:Nat}{gs gl:Nat→List St ×Nat}{C X:Nat}{K:Int}{HA HV HB:Bool}{ka:Nat}{wr W:World}(hw:SwH d s raw sc v1 a1 f1 v2 a2 f2 C X K HA HV HB ka wr W)(hIH:SwI d s raw sc v1 a1 f1 v2 a2 f2 sc.loop gs)(hIL:SwI d s raw sc v1 a1 f1 v2 a2 f2 true gl):SwG d s raw sc gs gl C X K HA HV HB ka wr W:=by
 have hd0:=hw.hd0;have hd14:=hw.hd14;have h:K<4∨K=4∨K=5∨K=6∨(K=7∨K=8)∨(K=9∨K=10)∨K=11∨12≤K:=by omega
 rcases h with h|h|h|h|h|h|h|h
 ·cases hv:HV
  ·subst hv;exact Nz hw (fun _=>rfl) (fun h=>by omega) (fun h=>by omega) (by omega) (by omega) (fun h=>by omega)
  ·subst hv;exact sw_set hw h rfl
 ·cases hv:HA
  ·subst hv;exact Nz hw (fun h=>by omega) (fun _=>rfl) (fun h=>by omega) (by omega) (by omega) (fun h=>by omega)
  ·subst hv;exact gU hw h rfl
 ·cases hv:HB
  ·subst hv;exact Nz hw (fun h=>by omega) (fun h=>by omega) (fun _=>rfl) (by omega) (by omega) (fun h=>by omega)
  ·subst hv;exact sw_call hw h rfl
 ·by_cases hv:(Ad raw ka 3).1=2
  ·exact sw_ret hw h hv
  ·exact iO hw h hv
 ·exact sw_if hw h hIH hIL
 ·exact sw_loop hw h hIH hIL
 ·cases hb:(sc.loop||sc.free)
  ·exact Nz hw (fun h=>by omega) (fun h=>by omega) (fun h=>by omega) (by omega) (by omega) (fun _=>hb)
  ·by_cases hv:(Ad raw ka 2).1=1
   ·exact sw_brk hw h hb hv
   ·exact jA hw h hb hv
 ·exact Nz hw (fun h=>by omega) (fun h=>by omega) (fun h=>by omega) (by omega) (by omega) (fun h=>by omega)
def aL(w:World)(X:Nat):Nat:=match w.cell? ⟨X,2,none⟩with
 |some (.slice _ n _)=>n
 |_=>0
theorem To {wq w:World}{X s:Nat}{raw:List Int}{k:Int}{nm:Bs}{ps:List (Ex ×Value)}{va:Option Addr}{vc:Nat}{t e:List St}{xt xe:Value}{a:Nat}(h:Cg wq X s raw k nm ps va vc t e xt xe a w):aL w X=ps.length:=by
 have:=h.own.at 2 _ rfl;unfold aL;rw[this]
def FillR(s:Nat)(sc:Sc)(raw:List Int)(C X:Nat)(k:Int)(wq:World)(y:St ×Nat)(q0 q2 q4 q5 q6 q7 q8 q9 q10 q12 q13 q14 q15 q17 q18 q19 q20 q21 q22 q23 q24 q25 q26 q27 q28 q29 q30 q31 q32 q33 q34 q35 q36 q37 q38 q39 q40 q41 q42 q43 q44 q45 q46 q47 q48 q49 q50 q51 q52 q53 q54 q55 q56 q57 q58 q59 q60 q61 q62 q63 q64 q65 q66 q67 q68 q69 q70 q71 q72 q73 q74 q75 q76 q77 q78 q79 q80 q81 q82 q83 q84 q85 q86 q87 q88 q89 q90 q91 q92 q93 q94 q95 q96 q97 q98 q99 q100 q101 q102 q103 q104 q105 q106 q107 q108 q109 q110 q111 q112 q113 q114 q115 q116 q117 q118 q119 q120 q121 q122 q123 q124 q125 q126 q127 q128 q129 q130 q131 q132 q133 q134 q135 q136 q137 q138 q139 q140 q141 q142 q143 q144 q145 q146 q147 q148 q149 q150 q151 q152 q153 q154 q155 q156 q157 q158 q159 q160 q161 q162 q163 q164 q165 q166 q167 q168 q169 q170 q171 q172 q173 q174 q175 q176 q177 q178 q179 q180 q181 q182 q183 q184 q185 q186 q187 q188 q189 q190 q191 q192 q193 q194 q195 q196 q197 q198 q199 q200 q201 q202 q203 q204 q205 q206 q207 q221 q222 q223 q224 q225:Value)(a':Act)(w':World):Prop:=
 ∃z208 z209 z210 z211 z212 z213 z214 z215 z216 z217 z218 z219 z220:Value,Nk wq X s raw y w'∧a'=⟨[q0,.pointer (some ⟨s,0,none⟩),q2,.pointer (some ⟨C,0,none⟩),q4,q5,q6,q7,q8,q9,q10,.pointer (some ⟨X,0,none⟩),q12,q13,q14,q15,.int .i64 (Cx k:Nat),q17,q18,q19,q20,q21,q22,q23,q24,q25,q26,q27,q28,q29,q30,q31,q32,q33,q34,q35,q36,q37,q38,q39,q40,q41,q42,q43,q44,q45,q46,q47,q48,q49,q50,q51,q52,q53,q54,q55,q56,q57,q58,q59,q60,q61,q62,q63,q64,q65,q66,q67,q68,q69,q70,q71,q72,q73,q74,q75,q76,q77,q78,q79,q80,q81,q82,q83,q84,q85,q86,q87,q88,q89,q90,q91,q92,q93,q94,q95,q96,q97,q98,q99,q100,q101,q102,q103,q104,q105,q106,q107,q108,q109,q110,q111,q112,q113,q114,q115,q116,q117,q118,q119,q120,q121,q122,q123,q124,q125,q126,q127,q128,q129,q130,q131,q132,q133,q134,q135,q136,q137,q138,q139,q140,q141,q142,q143,q144,q145,q146,q147,q148,q149,q150,q151,q152,q153,q154,q155,q156,q157,q158,q159,q160,q161,q162,q163,q164,q165,q166,q167,q168,q169,q170,q171,q172,q173,q174,q175,q176,q177,q178,q179,q180,q181,q182,q183,q184,q185,q186,q187,q188,q189,q190,q191,q192,q193,q194,q195,q196,q197,q198,q199,q200,q201,q202,q203,q204,q205,q206,q207,z208,z209,z210,z211,z212,z213,z214,z215,z216,z217,z218,z219,z220,q221,q222,q223,q224,q225].toArray,[]⟩
def cV(sc:Sc)(raw:List Int)(wq:World)(X s:Nat)(k:Int)(nm:Bs)(t e:List St)(xt xe:Value)(y:St ×Nat)(w':World):Prop:=
 ∃ps va vc a,Ib sc raw (.mk k nm (ps.map (·.1)) t e) a=y∧Cx k≤ps.length+1∧Cg wq X s raw k nm ps va vc t e xt xe a w'
theorem fP(s:Nat)(raw:List Int)(sc:Sc)(v1 a1 f1:Option Addr)(v2 a2 f2:Nat)(C X:Nat)(k:Int)(nm:Bs)(ps:List (Ex ×Value))(va:Option Addr)(vc:Nat)(t e:List St)(xt xe:Value)(a:Nat)(wq W:World)
  (hsc:Ec s wq sc (.slice v1 sc.vars.length v2) (.slice a1 sc.arrays.length a2) (.slice f1 sc.funcs.length f2)) (hC:Al wq C [.slice v1 sc.vars.length v2,.slice a1 sc.arrays.length a2,.slice f1 sc.funcs.length f2,.bool sc.free,.bool sc.loop] 62) (hH:Cg wq X s raw k nm ps va vc t e xt xe a W) (hCX:C<X) (hsC:s<C) (hm:Cx k≤ps.length+1)
  (q0 q2 q4 q5 q6 q7 q8 q9 q10 q12 q13 q14 q15 q17 q18 q19 q20 q21 q22 q23 q24 q25 q26 q27 q28 q29 q30 q31 q32 q33 q34 q35 q36 q37 q38 q39 q40 q41 q42 q43 q44 q45 q46 q47 q48 q49 q50 q51 q52 q53 q54 q55 q56 q57 q58 q59 q60 q61 q62 q63 q64 q65 q66 q67 q68 q69 q70 q71 q72 q73 q74 q75 q76 q77 q78 q79 q80 q81 q82 q83 q84 q85 q86 q87 q88 q89 q90 q91 q92 q93 q94 q95 q96 q97 q98 q99 q100 q101 q102 q103 q104 q105 q106 q107 q108 q109 q110 q111 q112 q113 q114 q115 q116 q117 q118 q119 q120 q121 q122 q123 q124 q125 q126 q127 q128 q129 q130 q131 q132 q133 q134 q135 q136 q137 q138 q139 q140 q141 q142 q143 q144 q145 q146 q147 q148 q149 q150 q151 q152 q153 q154 q155 q156 q157 q158 q159 q160 q161 q162 q163 q164 q165 q166 q167 q168 q169 q170 q171 q172 q173 q174 q175 q176 q177 q178 q179 q180 q181 q182 q183 q184 q185 q186 q187 q188 q189 q190 q191 q192 q193 q194 q195 q196 q197 q198 q199 q200 q201 q202 q203 q204 q205 q206 q207 q208 q209 q210 q211 q212 q213 q214 q215 q216 q217 q218 q219 q220 q221 q222 q223 q224 q225:Value) (J K':Act→World→Prop) (hJ:∀a' w',FillR s sc raw C X k wq (Ib sc raw (.mk k nm (ps.map (·.1)) t e) a) q0 q2 q4 q5 q6 q7 q8 q9 q10 q12 q13 q14 q15 q17 q18 q19 q20 q21 q22 q23 q24 q25 q26 q27 q28 q29 q30 q31 q32 q33 q34 q35 q36 q37 q38 q39 q40 q41 q42 q43 q44 q45 q46 q47 q48 q49 q50 q51 q52 q53 q54 q55 q56 q57 q58 q59 q60 q61 q62 q63 q64 q65 q66 q67 q68 q69 q70 q71 q72 q73 q74 q75 q76 q77 q78 q79 q80 q81 q82 q83 q84 q85 q86 q87 q88 q89 q90 q91 q92 q93 q94 q95 q96 q97 q98 q99 q100 q101 q102 q103 q104 q105 q106 q107 q108 q109 q110 q111 q112 q113 q114 q115 q116 q117 q118 q119 q120 q121 q122 q123 q124 q125 q126 q127 q128 q129 q130 q131 q132 q133 q134 q135 q136 q137 q138 q139 q140 q141 q142 q143 q144 q145 q146 q147 q148 q149 q150 q151 q152 q153 q154 q155 q156 q157 q158 q159 q160 q161 q162 q163 q164 q165 q166 q167 q168 q169 q170 q171 q172 q173 q174 q175 q176 q177 q178 q179 q180 q181 q182 q183 q184 q185 q186 q187 q188 q189 q190 q191 q192 q193 q194 q195 q196 q197 q198 q199 q200 q201 q202 q203 q204 q205 q206 q207 q221 q222 q223 q224 q225 a' w'→J a' w') (hM:∀a' w',Met J a' w'→K' a' w'):
  Code.wp Zb gY (Exit.then K' (fun _ _ _=>False)) ⟨[q0,.pointer (some ⟨s,0,none⟩),q2,.pointer (some ⟨C,0,none⟩),q4,q5,q6,q7,q8,q9,q10,.pointer (some ⟨X,0,none⟩),q12,q13,q14,q15,.int .i64 (Cx k:Nat),q17,q18,q19,q20,q21,q22,q23,q24,q25,q26,q27,q28,q29,q30,q31,q32,q33,q34,q35,q36,q37,q38,q39,q40,q41,q42,q43,q44,q45,q46,q47,q48,q49,q50,q51,q52,q53,q54,q55,q56,q57,q58,q59,q60,q61,q62,q63,q64,q65,q66,q67,q68,q69,q70,q71,q72,q73,q74,q75,q76,q77,q78,q79,q80,q81,q82,q83,q84,q85,q86,q87,q88,q89,q90,q91,q92,q93,q94,q95,q96,q97,q98,q99,q100,q101,q102,q103,q104,q105,q106,q107,q108,q109,q110,q111,q112,q113,q114,q115,q116,q117,q118,q119,q120,q121,q122,q123,q124,q125,q126,q127,q128,q129,q130,q131,q132,q133,q134,q135,q136,q137,q138,q139,q140,q141,q142,q143,q144,q145,q146,q147,q148,q149,q150,q151,q152,q153,q154,q155,q156,q157,q158,q159,q160,q161,q162,q163,q164,q165,q166,q167,q168,q169,q170,q171,q172,q173,q174,q175,q176,q177,q178,q179,q180,q181,q182,q183,q184,q185,q186,q187,q188,q189,q190,q191,q192,q193,q194,q195,q196,q197,q198,q199,q200,q201,q202,q203,q204,q205,q206,q207,q208,q209,q210,q211,q212,q213,q214,q215,q216,q217,q218,q219,q220,q221,q222,q223,q224,q225].toArray,[]⟩ W:=by
 have hm2:=fL k;have HSC:=Za hsc;have HCR:=Za hC;have HY:Hid (C≠s):=by show _≠_;omega
 have HCX:Hid (C<X):=hCX;have HE4:Hid (∀b w1,As w1 s raw b→Ec s w1 sc (.slice v1 sc.vars.length v2) (.slice a1 sc.arrays.length a2) (.slice f1 sc.funcs.length f2)→Calls Zb 27 #[.agg #[.slice v1 sc.vars.length v2,.slice a1 sc.arrays.length a2,.slice f1 sc.funcs.length f2,.bool sc.free,.bool sc.loop],.pointer (some ⟨s,0,none⟩),.int .i64 4] w1 (El w1 s raw (Az sc raw 4 b))):=fun b w1 h1 h2=>Gm 4 (by decide) s raw b sc _ _ _ w1 h1 h2
 have HI0:Hid (cV sc raw wq X s k nm t e xt xe (Ib sc raw (.mk k nm (ps.map (·.1)) t e) a) W):=⟨ps,va,vc,a,rfl,hm,hH⟩;generalize Ib sc raw (.mk k nm (ps.map (·.1)) t e) a=y at*;obtain⟨m,hmm⟩:∃m,m=Cx k:=⟨_,rfl⟩;have HMM:=Za hmm;have hm9:m≤2:=by omega
 rw[←hmm];clear hsc hC hH hm hm2 hmm
 conv=>arg 2;whnf
 go_wp2_with fail
 go_loopw [] (fun w'=>cV sc raw wq X s k nm t e xt xe y w') (fun w'=>3-aL w' X)
 case atStart=>exact HI0.o
 case round=>
  clear HI0;obtain⟨qs,va,vc,b,hy,hmq,hh⟩:=hrel;have hal:=To hh;have HAL:=Za hal;have HQ:=Za hy;have HM9:=Za hmq;have HHA:=Za hh;have HCA:=Za (HCR.o.sfr hh.fr HY.o);clear hy hmq hh hal
  by_cases hl:qs.length<m
  ·have hl':((qs.length:Int)<(m:Int)):=by omega
   have hlen:Hid (qs.length≤10):=by show _≤_;omega
   have hF:=Iq sc raw (k:=k) (nm:=nm) (args:=qs.map (·.1)) (t:=t) (e:=e) b (by rw[List.length_map,←HMM.o];exact hl);rw[HQ.o]at hF;have hNF:∀z b',Ib sc raw (.mk k nm (qs.map (·.1)++[z]) t e) b'=(.mk k nm (qs.map (·.1)++[z]) t e,b'):=fun z b'=>Iy sc raw b' (by rw[Ze,List.length_map,List.length_singleton];have:=HM9.o;omega)
   have HNF:=Za hNF;have HE:=Za (HE4.o b);generalize Az sc raw 4 b=x at*;obtain⟨x,xa⟩:=x;dsimp only at HE hF;have HF:=Za hF;clear hF hNF;have x0:=HHA.o.own.at 0 _ rfl;have x1:=HHA.o.own.at 1 _ rfl;have x2:=HHA.o.own.at 2 _ rfl;have x3:=HHA.o.own.at 3 _ rfl;have x4:=HHA.o.own.at 4 _ rfl;go_upto_region 44 with(fail)
   clear x0 x1 x2 x3 x4;have hdr:Below wr.heap.size wr wr.drew:=(Below.refl _ _).drew;have HHd:=Za (HHA.o.below hdr);have HCd:=Za (HCA.o.old hdr);clear hdr;have b0:=HCA.o.at 0 _ rfl;have b1:=HCA.o.at 1 _ rfl;have b2:=HCA.o.at 2 _ rfl;have b3:=HCA.o.at 3 _ rfl;have b4:=HCA.o.at 4 _ rfl;have x0:=HHA.o.own.at 0 _ rfl;have x1:=HHA.o.own.at 1 _ rfl;have x2:=HHA.o.own.at 2 _ rfl;have x3:=HHA.o.own.at 3 _ rfl;have x4:=HHA.o.own.at 4 _ rfl;have fx2:=HHA.o.own.fz 2;have hXd:=HHA.o.lt;have hCd:=HCA.o.lt;obtain⟨i0,hi0,hz0,hz1,hz2⟩:=info_parts Lh;go_wp2_with fail
   go_region_law (first
    |((try go_simp);go_at_call 27;refine(HE.o _ HHd.o.src (HSC.o.sfr HHd.o.fr)).mono ?_;rintro r w6 ⟨xv,he,hs6,hf6,hx6,hn6⟩;obtain⟨xs,xc,hxv⟩:=hx6.shape;subst hxv;subst he;have hc:∀b o,b<_→b≠s→w6.cell? ⟨b,o,none⟩=_:=fun b o h hn=>Zc (a:=⟨b,o,none⟩) (hf6.block b h hn);have HH6:=Za (HHd.o.sfr hs6 hf6);have HC6:=Za (HCd.o.sfr hf6 HY.o);have Hx6:=Za hx6;have Hn6:=Za hn6;have hz6:=hf6.size;have u2:=HH6.o.own.at 2 _ rfl;have hX6:=HH6.o.lt;clear hs6 hf6 hx6 hn6;have hw7:Below w6.heap.size w6 (w6.alloc (.cells #[.int .i64 x.kind,.int .i64 x.op,.int .i64 x.n,.string (Aa x.name),.slice xs x.args.length xc] 31)):=bA;have HH7:=Za (HH6.o.below hw7);have HC7:=Za (HC6.o.old hw7);have HN7:=Za (Bx.new w6 (Aq x (.slice xs x.args.length xc)) 31);have Hx7:=Za ((Hx6.out.old hw7).mono (fun b hb=>HHd.o.beside b hb));clear hw7)
    |(refine step_append_lies (P:=Zb) _ rfl _ _ 29 rfl (X+1) 31 i0 _ 5 64 Zd hi0 hz0 hz1 hz2 rfl (by decide) (.slice va qs.length vc) qs.length (Dk qs) rfl HH7.o.exs.1 ⟨w6.heap.size,0,none⟩ 1 1 (Aq x (.slice xs x.args.length xc)) rfl rfl (Ew HN7.o) (Mq x _ _ _) (by decide) (by have:=hlen.out;unfold maxLen;omega) (by have:=hlen.out;omega) (by have:=HH7.o.lt;omega) _ rfl ?_;intro g cap w8 hown hgrow hat hlt8;have hge8:∀k,(Value.slice va qs.length vc).ownBlock=some k→X+1≤k:=fun k e=>(HH7.o.exs.ge e).1;have HH9:=Za (HH7.o.more x _ Hx7.out Hn6.out hown hgrow hat);have hO8:=HH7.o.own.low (hgrow.block X HH7.o.lt (fun e=>by have:=hge8 _ e.symm;omega));have HC8:=Za (HC7.o.low (hgrow.block _ HC7.o.lt (fun e=>by have:=hge8 _ e.symm;have:=HCX.o;omega)));have y2:=hO8.at 2 _ rfl;have fy2:=hO8.fz 2;have hX8:=hO8.lt;clear hown hgrow hat hO8))
   all_goals
    have HC9:=Za (HC8.o.other (show C≠X by have:=HCX.o;omega) 2 (.slice (some ⟨g,0,none⟩) (qs.length+1) cap));go_wp2_with fail
    go_roundw
    case rel=>exact⟨qs++[(x,.slice xs x.args.length xc)],_,_,xa,by rw[List.map_append];show Ib sc raw (.mk k nm (qs.map (·.1)++[x]) t e) xa=y;rw[HNF.o,HF.o],by rw[Ze,List.length_singleton];have:=HM9.o;omega,HH9.o⟩
    case measure=>rw[To HH9.o,HAL.o,Ze,List.length_singleton];omega
  ·have hl':((m:Int)≤(qs.length:Int)):=by omega
   have hF:=Iy sc raw (k:=k) (nm:=nm) (args:=qs.map (·.1)) (t:=t) (e:=e) b (by rw[List.length_map,←HMM.o];exact hl);rw[HQ.o]at hF;subst hF;rw[HMM.o]at*;have x0:=HHA.o.own.at 0 _ rfl;have x1:=HHA.o.own.at 1 _ rfl;have x2:=HHA.o.own.at 2 _ rfl;have x3:=HHA.o.own.at 3 _ rfl;have x4:=HHA.o.own.at 4 _ rfl;go_wp2_with fail
   go_meet;exact HHA.o.to rfl
end Go.Proofs.YtfhbinbjkpfedaaGreatDoor

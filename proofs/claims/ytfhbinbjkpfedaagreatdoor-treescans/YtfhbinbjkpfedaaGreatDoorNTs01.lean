/-
  scope.expr: a raw expression: an array's word. Conditions: the source and the scope lie in memory as the types say.
-/
import Derived.Test.YtfhbinbjkpfedaaGreatDoorNTs00
import Derived.IntWalk
import Derived.ChangeSlices
import Derived.OpenShut
import Derived.ProofKit
set_option linter.unusedVariables false
set_option linter.unusedSimpArgs false
namespace Go.Proofs.YtfhbinbjkpfedaaGreatDoor
open Go.RowKit Go.Proofs.Tryz
set_option maxHeartbeats 20000000
set_option maxRecDepth 100000
open List renaming all_eq_true→Za,mem_singleton→Zb,mem_cons→Zc
open World renaming setCell→Zd,block_lt_of_cell?→Zg
open Below renaming heap_setCell→Ze
open Go.Lib renaming cell_of_heap→Zf
structure SFr (s:Nat)(w w':World):Prop where
 os:w'.os=w.os
 tape:w'.tape=w.tape
 output:w'.output=w.output
 size:w.heap.size≤w'.heap.size
 block:∀k,k<w.heap.size→k≠s→w'.heap[k]? =w.heap[k]?
theorem SFr.refl(s:Nat)(w:World):SFr s w w:=⟨rfl,rfl,rfl,Nat.le_refl _,fun _ _ _=>rfl⟩
theorem SFr.trans {s:Nat}{u v w:World}(h:SFr s u v)(k:SFr s v w):SFr s u w:=
 ⟨k.os.trans h.os,k.tape.trans h.tape,k.output.trans h.output,Nat.le_trans h.size k.size,fun i hi hb=>(k.block i (Nat.lt_of_lt_of_le hi h.size) hb).trans (h.block i hi hb)⟩
theorem SFr.of_below {s:Nat}{w w':World}(h:Below w.heap.size w w'):SFr s w w':=⟨h.os,h.tape,h.output,h.size,fun k hk _=>h.block k hk⟩
theorem SFr.below {s:Nat}{w w':World}(h:SFr s w w')(hs:s≤w.heap.size):Below s w w':=
 ⟨h.os,h.tape,h.output,h.size,fun k hk=>h.block k (by omega) (by omega)⟩
theorem SFr.cell {s:Nat}{w w':World}(h:SFr s w w'){b off:Nat}{x:Value}(hb:b≠s)(hx:w.cell? ⟨b,off,none⟩=some x):w'.cell? ⟨b,off,none⟩=some x:=by
 rw[World.cell?_of_block (w:=w) (h.block b (Zg _ _ hx) hb)];exact hx
theorem SFr.keeps {s:Nat}{w w':World}(h:SFr s w w'):Gw (· ≠s) w w':=fun _ _ _ hD hx=>h.cell hD hx
theorem SFr.keepsD {s:Nat}{w w':World}(h:SFr s w w'){D:Nat→Prop}(hD:∀b,D b→b≠s):Gw D w w':=fun _ _ _ hd hx=>h.cell (hD _ hd) hx
theorem SFr.drewN {s n:Nat}{w w1:World}(h:SFr s w w1):SFr s w (w1.drewN n):=⟨h.os,h.tape,h.output,h.size,h.block⟩
def Ag(w:World)(b:Nat)(cs:List Value)(T:TypeId):Prop:=w.heap[b]? =some (.cells cs.toArray T (0,0))
theorem Ag.new(w:World)(cs:List Value)(T:TypeId):Ag (w.alloc (.cells cs.toArray T)) w.heap.size cs T:=Array.getElem?_push_size
theorem Ag.lt {w:World}{b:Nat}{cs:List Value}{T:TypeId}(h:Ag w b cs T):b<w.heap.size:=by
 rcases Nat.lt_or_ge b w.heap.size with h'|h'
 ·exact h'
 ·unfold Ag at h;simp [Array.getElem?_eq_none h']at h
theorem Ag.at {w:World}{b:Nat}{cs:List Value}{T:TypeId}(h:Ag w b cs T)(i:Nat)(v:Value)(hi:cs[i]? =some v):w.cell? ⟨b,i,none⟩=some v:=by
 rw[Zf h];simpa using hi
theorem Ag.fz {w:World}{b:Nat}{cs:List Value}{T:TypeId}(h:Ag w b cs T)(i:Nat):w.frozen? ⟨b,i,none⟩=false:=Lib.frozen_of_heap h i
theorem Ag.old {w w':World}{b:Nat}{cs:List Value}{T:TypeId}(h:Ag w b cs T)(hb:Below w.heap.size w w'):Ag w' b cs T:=(hb.block b h.lt).trans h
theorem Ag.alloc {w:World}{b:Nat}{cs:List Value}{T:TypeId}(h:Ag w b cs T)(o:Obj):Ag (w.alloc o) b cs T:=h.old (bA)
theorem Ag.sfr {s:Nat}{w w':World}{b:Nat}{cs:List Value}{T:TypeId}(h:Ag w b cs T)(hf:SFr s w w')(hb:b≠s):Ag w' b cs T:=(hf.block b h.lt hb).trans h
theorem Ag.set {w:World}{b:Nat}{cs:List Value}{T:TypeId}(h:Ag w b cs T)(i:Nat)(v:Value):Ag (w.setCell ⟨b,i,none⟩ v) b (cs.set i v) T:=by
 unfold Ag at*;simp [Zd,Array.getElem?_modify,h]
theorem Ag.other {w:World}{b:Nat}{cs:List Value}{T:TypeId}(h:Ag w b cs T){k:Nat}(hk:b≠k)(i:Nat)(v:Value):Ag (w.setCell ⟨k,i,none⟩ v) b cs T:=by
 unfold Ag at*;rw[Ze _ _ _ _ hk];exact h
theorem Co {D:Nat→Prop}(w:World){k:Nat}(hD:¬D k)(i:Nat)(v:Value):Gw D w (w.setCell ⟨k,i,none⟩ v):=fun b off x hb hx=>by
 rw[World.cell?_of_block (w:=w) (Ze _ _ _ _ (by rintro rfl;exact hD hb))];exact hx
theorem Px(w:World){b c i j:Nat}{v:Value}(h:c≠b):(w.setCell ⟨b,i,none⟩ v).cell? ⟨c,j,none⟩=w.cell? ⟨c,j,none⟩:=
 World.cell?_of_block (w:=w) (Ze _ _ _ _ h)
theorem SFr.setNew {s:Nat}{w w1:World}(h:SFr s w w1){b:Nat}(hb:w.heap.size≤b)(i:Nat)(v:Value):SFr s w (w1.setCell ⟨b,i,none⟩ v):=
 ⟨h.os,h.tape,h.output,by simpa [Zd]using h.size,fun k hk hs=>(Ze _ _ _ _ (by show k≠b;omega)).trans (h.block k hk hs)⟩
theorem SFr.fresh {s:Nat}{w w':World}(h:SFr s w w'){B:Nat}(hB:s<B):Gw (B≤ ·) w w':=h.keepsD (fun b hb=>by show b≠s;have:B≤b:=hb;omega)
theorem Aw(w:World){B k:Nat}(hk:k<B)(i:Nat)(v:Value):Gw (B≤ ·) w (w.setCell ⟨k,i,none⟩ v):=Co w (by omega) i v
def Fh(c n:Int):Int:=(if c<0 then -(c+1)else c) % n
theorem Jv(c n:Int)(h:0<n):0≤Fh c n∧Fh c n<n:=⟨Int.emod_nonneg _ (by omega),Int.emod_lt_of_pos _ h⟩
def Ad(raw:List Int)(a:Nat)(n:Int):Int ×Nat:=if raw.length≤a then(0,a)else(Fh (raw.getD a 0) n,a+1)
theorem Af(raw:List Int)(a:Nat)(n:Int)(h:0<n):0≤(Ad raw a n).1∧(Ad raw a n).1<n:=by
 unfold Ad;split
 ·exact⟨Int.le_refl _,h⟩
 ·exact Jv _ _ h
def Yl:List Bs:=[[],[49],[95],[90,57],[105,102],[120],[48],[97,97],[105,110,116,105,110,116],[113,55],[66],[48,48]]
def Hi(c:Int):Bs:=UInt8.ofNat (97+(Fh c 312 % 26).toNat)::Yl.getD (Fh c 312 / 26).toNat []
theorem var_all:∀k:Fin 312,Ah (UInt8.ofNat (97+(k.val % 26))::Yl.getD (k.val / 26) [])=true:=by decide+kernel
theorem Hp(c:Int):Ah (Hi c)=true:=by
 have h:=Jv c 312 (by decide);have q:=var_all ⟨(Fh c 312).toNat,by omega⟩;unfold Hi;have e1:(Fh c 312 % 26).toNat=(Fh c 312).toNat % 26:=by omega
 have e2:(Fh c 312 / 26).toNat=(Fh c 312).toNat / 26:=by omega
 rw[e1,e2];exact q
structure Sc where
 vars:List Bs
 arrays:List Ar
 funcs:List Fu
 free:Bool
 loop:Bool
def Fm(free:Bool)(l:List Bs)(raw:List Int)(a:Nat):Bs ×Nat:=
 if free||l.isEmpty then(Hi (Ad raw a 312).1,(Ad raw a 312).2)else(l.getD (Ad raw a l.length).1.toNat [],(Ad raw a l.length).2)
def By(free:Bool)(l:List Ar)(raw:List Int)(a:Nat):Ar ×Nat:=
 if free||l.isEmpty then(⟨Hi (Ad raw a 312).1,1+(Ad raw (Ad raw a 312).2 1000).1⟩,(Ad raw (Ad raw a 312).2 1000).2)else(Iu l (Ad raw a l.length).1.toNat,(Ad raw a l.length).2)
def Dl(n j:Int):Int:=
 if j=0 then 0 else if j=1 then 1 else if j=2 then 2 else if j=3 then 3 else if j=4 then n else if j=5 then n*n else if j=6 then 2 ^ (n % 63).toNat else 9223372036854775807
def Fl(g:Nat→Ex ×Nat):Nat→Nat→List Ex ×Nat
 |0,a=>([],a)
 |c+1,a=>((Fl g c a).1++[(g (Fl g c a).2).1],(g (Fl g c a).2).2)
def Gb(sc:Sc)(raw:List Int)(g:Nat→Ex ×Nat)(a:Nat):Ex ×Nat:=
 if sc.free||sc.funcs.isEmpty then
  let r:=Ad raw a 312;let q:=Ad raw r.2 7;let m:=Fl g q.1.toNat q.2
  (.mk 5 0 0 (Hi r.1) m.1,m.2)
 else
  let r:=Ad raw a sc.funcs.length;let f:=Cm sc.funcs r.1.toNat;let m:=Fl g f.params.length r.2
  (.mk 5 0 0 f.name m.1,m.2)
def Sc.hasVars(sc:Sc):Bool:= !sc.vars.isEmpty||sc.free
def Sc.hasArrays(sc:Sc):Bool:= !sc.arrays.isEmpty||sc.free
def Sc.hasFuncs(sc:Sc):Bool:= !sc.funcs.isEmpty||sc.free
def gK(raw:List Int)(d a:Nat):Int:=if d<2 then(Ad raw a 12).1 % 4 else(Ad raw a 12).1
def Dm(sc:Sc)(raw:List Int)(g:Nat→Ex ×Nat)(k:Int)(a:Nat):Ex ×Nat:=
 if(k=1∨k=2)∧sc.hasVars=true then
  let n:=Fm sc.free sc.vars raw a
  (.mk 2 0 0 n.1 [],n.2)
 else if k=3∧(Ad raw a 3).1=2 then(.mk 7 0 0 [] [],(Ad raw a 3).2)
 else if k<4 then
  let b:=if k=3 then(Ad raw a 3).2 else a
  let n:=Ad raw b 1000;let j:=Ad raw n.2 8
  (.mk 1 0 (Dl n.1 j.1) [] [],j.2)
 else if k=4 then
  let o:=Ad raw a 3;let x:=g o.2
  (.mk 3 (17+o.1) 0 [] [x.1],x.2)
 else if k=5∧sc.hasArrays=true then
  let n:=By sc.free sc.arrays raw a;let x:=g n.2
  (.mk 6 0 0 n.1.name [x.1],x.2)
 else if k=6∧sc.hasFuncs=true then Gb sc raw g a
 else
  let o:=Ad raw a 16;let x:=g o.2;let y:=g x.2
  (.mk 4 (1+o.1) 0 [] [x.1,y.1],y.2)
def Pi(sc:Sc)(raw:List Int)(d:Nat)(g:Nat→Ex ×Nat)(a:Nat):Ex ×Nat:=Dm sc raw g (gK raw d a) (Ad raw a 12).2
def Am(sc:Sc)(raw:List Int):Nat→Nat→Ex ×Nat
 |0=>Pi sc raw 0 (fun a=>(Ex.nil,a))
 |d+1=>Pi sc raw (d+1) (Am sc raw d)
structure Sc.Ok (sc:Sc):Prop where
 vars:∀x,x∈sc.vars→Ah x=true
 arrays:∀x,x∈sc.arrays→Ah x.name=true
 funcs:∀x,x∈sc.funcs→Ah x.name=true∧x.params.length≤6
theorem jS {α:Type}{l:List α}{d:α}{i:Nat}(h:i<l.length):l.getD i d∈l:=by
 rw[List.getD_eq_getElem?_getD,List.getElem?_eq_getElem h];exact List.getElem_mem h
theorem Xf {α:Type}{l:List α}{b:Bool}(h:¬(b||l.isEmpty)=true):0<l.length:=by
 cases l with
 |nil=>simp at h
 |cons x l=>simp
theorem Mq {sc:Sc}(h:sc.Ok)(raw:List Int)(a:Nat):Ah (Fm sc.free sc.vars raw a).1=true:=by
 unfold Fm;split
 ·exact Hp _
 ·rename_i hn
  have hl:=Xf hn;have:=Af raw a sc.vars.length (by omega);exact h.vars _ (jS (by omega))
theorem Lt {sc:Sc}(h:sc.Ok)(raw:List Int)(a:Nat):Ah (By sc.free sc.arrays raw a).1.name=true:=by
 unfold By;split
 ·exact Hp _
 ·rename_i hn
  have hl:=Xf hn;have:=Af raw a sc.arrays.length (by omega);exact h.arrays _ (jS (by omega))
def Ka(d:Nat)(e:Ex):Prop:=Gf (max d 1) e=true∧Bm e=true
theorem Ft(g:Nat→Ex ×Nat):∀c a,(Fl g c a).1.length=c
 |0,a=>rfl
 |c+1,a=>by rw[Fl];simp [Ft g c a]
theorem Hj(g:Nat→Ex ×Nat)(P:Ex→Prop)(hg:∀a,P (g a).1):∀c a,∀x,x∈(Fl g c a).1→P x
 |0,a,x,hx=>by cases hx
 |c+1,a,x,hx=>by
  rw[Fl]at hx;rcases List.mem_append.1 hx with h|h
  ·exact Hj g P hg c a x h
  ·rw[Zb.1 h];exact hg _
theorem Jw {d:Nat}{k o n:Int}{nm:Bs}{args:List Ex}(hh:Bn (.mk k o n nm args)=true)(ha:∀x,x∈args→Ka d x)(hd:args=[]∨1≤d):Ka (d+1) (.mk k o n nm args):=by
 refine⟨?_,?_⟩
 ·rw[show max (d+1) 1=d+1 by omega]
  show args.all (Gf d)=true
  rw[Za];intro x hx;have h1:=(ha x hx).1;rcases hd with rfl|hd
  ·cases hx
  ·rwa[show max d 1=d by omega]at h1
 ·rw[Il,hh,Bool.true_and,Za]
  exact fun x hx=>(ha x hx).2
theorem Oz {d:Nat}{k o n:Int}{nm:Bs}(hh:Bn (.mk k o n nm [])=true):Ka d (.mk k o n nm []):=by
 refine⟨?_,?_⟩
 ·obtain⟨m,hm⟩:∃m,max d 1=m+1:=⟨max d 1-1,by omega⟩
  rw[hm];rfl
 ·rw[Il,hh,Bool.true_and];rfl
theorem Kp(n j:Int)(h:0≤n∧n<1000):0≤Dl n j∧Dl n j≤9223372036854775807:=by
 unfold Dl
 repeat' split
 all_goals try omega
 ·constructor
  ·exact Int.mul_nonneg h.1 h.1
  ·have:n*n≤999*999:=Int.mul_le_mul (by omega) (by omega) (by omega) (by omega)
   omega
 ·have h1:(n % 63).toNat≤62:=by omega
  have h2:(2:Nat) ^ (n % 63).toNat≤2 ^ 62:=Nat.pow_le_pow_right (by decide) h1;have h3:((2:Int) ^ (n % 63).toNat)=((2 ^ (n % 63).toNat:Nat):Int):=by simp
  rw[h3];constructor
  ·exact Int.natCast_nonneg _
  ·have:(2:Nat) ^ 62≤9223372036854775807:=by decide
   exact Int.ofNat_le.2 (Nat.le_trans h2 this)
theorem Wk:∀i:Fin 16,0<Bi (1+(i.val:Int)):=by decide+kernel
theorem iO(o:Int)(h:0≤o∧o<16):0<Bi (1+o):=by
 have:=Wk ⟨o.toNat,by omega⟩;simpa only[Int.toNat_of_nonneg h.1]using this
theorem Wy {sc:Sc}(hs:sc.Ok)(raw:List Int)(d:Nat)(g:Nat→Ex ×Nat)(k:Int)(hk:4≤k→1≤d∧∀a,Ka d (g a).1)(a:Nat):Ka (d+1) (Dm sc raw g k a).1:=by
 unfold Dm;split
 ·refine Oz ?_
  have:=Mq hs raw a;simp [Bn,Ec,Fo,Hv,Db,Bv,Ex.kind,Ex.op,Ex.n,Ex.name,Ex.args,this]
 split
 ·exact Oz (by decide)
 split
 ·refine Oz ?_
  have h1:=Af raw (if k=3 then(Ad raw a 3).2 else a) 1000 (by decide);have h2:=(Kp _ (Ad raw (Ad raw (if k=3 then(Ad raw a 3).2 else a) 1000).2 8).1 h1).1;simp only[Bn,Ec,Fo,Hv,Db,Bv,Ex.kind,Ex.op,Ex.n,Ex.name,Ex.args];simp [h2]
 rename_i h1 h2 h3;obtain⟨hk,hg⟩:=hk (by omega);split
 ·refine Jw ?_ (fun x hx=>by rw[Zb.1 hx];exact hg _) (.inr hk)
  have:=Af raw a 3 (by decide);have e:17+(Ad raw a 3).1=17∨17+(Ad raw a 3).1=18∨17+(Ad raw a 3).1=19:=by omega
  simp only[Bn,Ec,Fo,Hv,Db,Bv,Ex.kind,Ex.op,Ex.n,Ex.name,Ex.args];simp [e]
 split
 ·refine Jw ?_ (fun x hx=>by rw[Zb.1 hx];exact hg _) (.inr hk)
  have:=Lt hs raw a;simp [Bn,Ec,Fo,Hv,Db,Bv,Ex.kind,Ex.op,Ex.n,Ex.name,Ex.args,this]
 split
 ·unfold Gb
  split
  ·refine Jw ?_ (Hj g _ hg _ _) (.inr hk)
   have h7:=Af raw (Ad raw a 312).2 7 (by decide);have hn:=Hp (Ad raw a 312).1;simp only[Bn,Ec,Fo,Hv,Db,Bv,Ex.kind,Ex.op,Ex.n,Ex.name,Ex.args,Ft];simp [hn];omega
  ·rename_i hn
   have hl:=Xf hn;have hr:=Af raw a sc.funcs.length (by omega);have hf:Ah (Cm sc.funcs (Ad raw a sc.funcs.length).1.toNat).name=true∧(Cm sc.funcs (Ad raw a sc.funcs.length).1.toNat).params.length≤6:=hs.funcs _ (jS (d:=Fu.nil) (i:=(Ad raw a sc.funcs.length).1.toNat) (by omega));dsimp only;generalize Cm sc.funcs (Ad raw a sc.funcs.length).1.toNat=f at hf ⊢;refine Jw ?_ (Hj g _ hg _ _) (.inr hk);simp only[Bn,Ec,Fo,Hv,Db,Bv,Ex.kind,Ex.op,Ex.n,Ex.name,Ex.args,Ft];simp only[hf.1];simp;omega
 ·refine Jw ?_ (fun x hx=>?_) (.inr hk)
  ·have:=iO _ (Af raw a 16 (by decide))
   simp only[Bn,Ec,Fo,Hv,Db,Bv,Ex.kind,Ex.op,Ex.n,Ex.name,Ex.args];simp [this]
  ·rcases Zc.1 hx with rfl|hx
   ·exact hg _
   ·rw[Zb.1 hx];exact hg _
theorem Vo(raw:List Int)(d a:Nat)(h:d<2):gK raw d a<4:=by
 unfold gK;rw[if_pos h];have:=Af raw a 12 (by decide);omega
theorem Sh {sc:Sc}(hs:sc.Ok)(raw:List Int):∀d a,Ka d (Am sc raw d a).1
 |0,a=>by
  rw[Am];unfold Pi;exact Wy hs raw 0 _ _ (fun h4=>by have:=Vo raw 0 a (by omega);omega) _
 |d+1,a=>by
  rw[Am];unfold Pi;refine Wy hs raw d _ _ (fun h4=>⟨?_,fun b=>Sh hs raw d b⟩) _;rcases Nat.lt_or_ge (d+1) 2 with h|h
  ·have:=Vo raw (d+1) a h;omega
  ·omega
def Bl(sc:Sc)(raw:List Int)(gs gl:Nat→List St ×Nat)(k:Int)(a:Nat):St ×Nat:=
 if k<4∧sc.hasVars=true then
  let n:=Fm sc.free sc.vars raw a
  (.mk 1 n.1 [] [] [],n.2)
 else if k=4∧sc.hasArrays=true then
  let n:=By sc.free sc.arrays raw a;let e:=Am sc raw 3 n.2
  (.mk 2 n.1.name [e.1] [] [],e.2)
 else if k=5∧sc.hasFuncs=true then
  let c:=Gb sc raw (Am sc raw 2) a
  (.mk 10 [] [c.1] [] [],c.2)
 else if k=6∧(Ad raw a 3).1=2 then
  let j:=Ad raw (Ad raw a 3).2 2
  (.mk (if j.1=0 then 7 else 9) [] [] [] [],j.2)
 else if k=7∨k=8 then
  let e:=Am sc raw 3 a;let t:=gs e.2;let u:=gs t.2
  (.mk 3 [] [e.1] t.1 u.1,u.2)
 else if k=9∨k=10 then
  let e:=Am sc raw 3 a;let t:=gl e.2
  (.mk 4 [] [e.1] t.1 [],t.2)
 else if k=11∧(sc.loop||sc.free)=true∧(Ad raw a 2).1=1 then
  let j:=Ad raw (Ad raw a 2).2 2
  (.mk (if j.1=0 then 5 else 6) [] [] [] [],j.2)
 else(.mk 8 [] [] [] [],if k=6 then(Ad raw a 3).2 else if k=11∧(sc.loop||sc.free)=true then(Ad raw a 2).2 else a)
def Cc(k:Int):Nat:=if k=2 then 2 else if k=5∨k=6 then 0 else 1
def Hu(sc:Sc)(raw:List Int)(x:St)(a:Nat):St ×Nat:=
 if x.args.length<Cc x.kind then(.mk x.kind x.name (x.args++[(Am sc raw 4 a).1]) x.thn x.els,(Am sc raw 4 a).2)else(x,a)
def Oh(raw:List Int)(d a:Nat):Int:=if d<2∧7≤(Ad raw a 14).1∧(Ad raw a 14).1<11 then 0 else(Ad raw a 14).1
def gSt(sc:Sc)(raw:List Int)(gs gl:Nat→List St ×Nat)(d:Nat)(a:Nat):St ×Nat:=
 let h:=Bl sc raw gs gl (Oh raw d a) (Ad raw a 14).2
 Hu sc raw h.1 h.2
def Gh(one:Nat→St ×Nat):Nat→Nat→List St ×Nat
 |0,a=>([],a)
 |c+1,a=>((Gh one c a).1++[(one (Gh one c a).2).1],(one (Gh one c a).2).2)
def Sc.inLoop(sc:Sc):Sc:=⟨sc.vars,sc.arrays,sc.funcs,sc.free,true⟩
def Et(raw:List Int):Nat→Sc→Nat→List St ×Nat
 |0,sc,a=>Gh (gSt sc raw (fun a=>([],a)) (fun a=>([],a)) 0) (Ad raw a 5).1.toNat (Ad raw a 5).2
 |d+1,sc,a=>Gh (gSt sc raw (Et raw d sc) (Et raw d sc.inLoop) (d+1)) (Ad raw a 5).1.toNat (Ad raw a 5).2
theorem Pt:∀(m n:Nat) (e:Ex),m≤n→Gf m e=true→Gf n e=true
 |0,_,_,_,h=>by cases h
 |m+1,0,e,hmn,_=>by omega
 |m+1,n+1,e,hmn,h=>by
  have h:e.args.all (Gf m)=true:=h;show e.args.all (Gf n)=true
  rw[Za]at*;exact fun x hx=>Pt m n x (by omega) (h x hx)
theorem Sd {d:Nat}{e:Ex}(hd:d≤40)(h:Ka d e):Ce e=true:=by
 unfold Ce;rw[Pt _ _ _ (by omega) h.1,h.2];rfl
theorem Yp {sc:Sc}(hs:sc.Ok)(raw:List Int)(d:Nat)(hd:1≤d)(g:Nat→Ex ×Nat)(hg:∀a,Ka d (g a).1)(a:Nat):Ka (d+1) (Gb sc raw g a).1∧(Gb sc raw g a).1.kind=5:=by
 unfold Gb;split
 ·refine⟨Jw ?_ (Hj g _ hg _ _) (.inr hd),rfl⟩
  have h7:=Af raw (Ad raw a 312).2 7 (by decide);have hn:=Hp (Ad raw a 312).1;simp only[Bn,Ec,Fo,Hv,Db,Bv,Ex.kind,Ex.op,Ex.n,Ex.name,Ex.args,Ft];simp [hn];omega
 ·rename_i hn
  have hl:=Xf hn;have hr:=Af raw a sc.funcs.length (by omega);have hf:Ah (Cm sc.funcs (Ad raw a sc.funcs.length).1.toNat).name=true∧(Cm sc.funcs (Ad raw a sc.funcs.length).1.toNat).params.length≤6:=hs.funcs _ (jS (d:=Fu.nil) (i:=(Ad raw a sc.funcs.length).1.toNat) (by omega));dsimp only;generalize Cm sc.funcs (Ad raw a sc.funcs.length).1.toNat=f at hf ⊢;refine⟨Jw ?_ (Hj g _ hg _ _) (.inr hd),rfl⟩;simp only[Bn,Ec,Fo,Hv,Db,Bv,Ex.kind,Ex.op,Ex.n,Ex.name,Ex.args,Ft];simp only[hf.1];simp;omega
theorem Hs {m:Nat}{k:Int}{nm:Bs}{args:List Ex}{thn els:List St}(hm:1≤m)(h1:fOk k=true)(h2:(args.length:Int)=Cv k)(h3:Fz k=true∨thn=[])(h4:Fy k=true∨els=[])(h5:Cp k=Ah nm)
  (h6:Cp k=true∨nm=[]) (h7:k≠10∨(args.headD (.mk 0 0 0 [] [])).kind=5) (h8:∀x,x∈args→Ce x=true) (h9:∀x,x∈thn→Cu (m-1) x=true) (h10:∀x,x∈els→Cu (m-1) x=true):Cu m (.mk k nm args thn els)=true:=by
 obtain⟨n,rfl⟩:∃n,m=n+1:=⟨m-1,by omega⟩;rw[Nat.add_sub_cancel]at h9 h10;simp only[Cu,Gd,Ki,St.kind,St.args,St.thn,St.els,St.name,Bool.and_eq_true,Bool.not_eq_true',Bool.or_eq_false_iff,Bool.not_eq_false',Za];refine⟨⟨⟨⟨⟨⟨⟨⟨h1,?_⟩,?_⟩,?_⟩,?_⟩,⟨⟨?_,?_⟩,?_⟩⟩,h8⟩,h9⟩,h10⟩
 ·simp;omega
 ·simpa using h2
 ·rcases h3 with h|rfl
  ·simp [h]
  ·simp
 ·rcases h4 with h|rfl
  ·simp [h]
  ·simp
 ·simp [h5]
 ·rcases h6 with h|rfl
  ·simp [h]
  ·simp
 ·rcases h7 with h|h
  ·simp [h]
  ·rw[h];simp
theorem Sc.Ok.inLoop {sc:Sc}(h:sc.Ok):sc.inLoop.Ok:=⟨h.vars,h.arrays,h.funcs⟩
theorem Lj(one:Nat→St ×Nat)(P:St→Prop)(hg:∀a,P (one a).1):∀c a,∀x,x∈(Gh one c a).1→P x
 |0,a,x,hx=>by cases hx
 |c+1,a,x,hx=>by
  rw[Gh]at hx;rcases List.mem_append.1 hx with h|h
  ·exact Lj one P hg c a x h
  ·rw[Zb.1 h];exact hg _
theorem Jt(one:Nat→St ×Nat):∀c a,(Gh one c a).1.length=c
 |0,a=>rfl
 |c+1,a=>by rw[Gh];simp [Jt one c a]
theorem Lc {sc:Sc}(hs:sc.Ok)(raw:List Int)(d a:Nat)(hd:d≤40):Ce (Am sc raw d a).1=true:=Sd hd (Sh hs raw d a)
theorem Im(sc:Sc)(raw:List Int){k:Int}{nm:Bs}{args:List Ex}{t e:List St}(a:Nat)(h:args.length<Cc k):Hu sc raw (.mk k nm args t e) a=(.mk k nm (args++[(Am sc raw 4 a).1]) t e,(Am sc raw 4 a).2):=if_pos h
theorem Iy(sc:Sc)(raw:List Int){k:Int}{nm:Bs}{args:List Ex}{t e:List St}(a:Nat)(h:¬args.length<Cc k):Hu sc raw (.mk k nm args t e) a=(.mk k nm args t e,a):=if_neg h
theorem jA {sc:Sc}(hs:sc.Ok)(raw:List Int)(gs gl:Nat→List St ×Nat)(d:Nat)(m:Nat)(hm:1≤m)(hgs:2≤d→∀a x,x∈(gs a).1→Cu (m-1) x=true)(hgl:2≤d→∀a x,x∈(gl a).1→Cu (m-1) x=true)(a:Nat):Cu m (gSt sc raw gs gl d a).1=true:=by
 unfold gSt;have hk:∀k,Oh raw d a=k→7≤k→k<11→2≤d:=by
  intro k hk h1 h2;unfold Oh at hk;split at hk
  ·omega
  ·omega
 generalize Oh raw d a=k at hk;have hk:=hk k rfl;generalize (Ad raw a 14).2=b;dsimp only;have e4:∀a,∀x,x∈[(Am sc raw 4 a).1]→Ce x=true:=fun a x hx=>by rw[Zb.1 hx];exact Lc hs raw 4 a (by omega)
 have e3:∀a,∀x,x∈[(Am sc raw 3 a).1]→Ce x=true:=fun a x hx=>by rw[Zb.1 hx];exact Lc hs raw 3 a (by omega)
 have nn:∀x:St,x∈([]:List St)→Cu (m-1) x=true:=fun x hx=>by cases hx
 unfold Bl;split
 ·have:=Mq hs raw b
  dsimp only;rw[Im _ _ _ (by simp [Cc])];exact Hs hm rfl rfl (.inr rfl) (.inr rfl) (by rw[this];rfl) (.inl rfl) (.inl (by decide)) (e4 _) nn nn
 split
 ·have:=Lt hs raw b
  dsimp only;rw[Im _ _ _ (by simp [Cc])];exact Hs hm rfl rfl (.inr rfl) (.inr rfl) (by rw[this];rfl) (.inl rfl) (.inl (by decide)) (fun x hx=>by
   rcases Zc.1 hx with rfl|hx
   ·exact Lc hs raw 3 _ (by omega)
   ·exact e4 _ x hx) nn nn
 split
 ·have:=Yp hs raw 2 (by omega) (Am sc raw 2) (Sh hs raw 2) b
  dsimp only;rw[Iy _ _ _ (by simp [Cc])];exact Hs hm rfl rfl (.inr rfl) (.inr rfl) rfl (.inr rfl) (.inr this.2) (fun x hx=>by rw[Zb.1 hx];exact Sd (by omega) this.1) nn nn
 split
 ·dsimp only
  split
  ·rw[Im _ _ _ (by simp [Cc])]
   exact Hs hm rfl rfl (.inr rfl) (.inr rfl) rfl (.inr rfl) (.inl (by decide)) (e4 _) nn nn
  ·rw[Im _ _ _ (by simp [Cc])]
   exact Hs hm rfl rfl (.inr rfl) (.inr rfl) rfl (.inr rfl) (.inl (by decide)) (e4 _) nn nn
 split
 ·dsimp only
  rw[Iy _ _ _ (by simp [Cc])];exact Hs hm rfl rfl (.inl rfl) (.inl rfl) rfl (.inr rfl) (.inl (by decide)) (e3 _) (hgs (hk (by omega) (by omega)) _) (hgs (hk (by omega) (by omega)) _)
 split
 ·dsimp only
  rw[Iy _ _ _ (by simp [Cc])];exact Hs hm rfl rfl (.inl rfl) (.inr rfl) rfl (.inr rfl) (.inl (by decide)) (e3 _) (hgl (hk (by omega) (by omega)) _) nn
 split
 ·dsimp only
  split
  ·rw[Iy _ _ _ (by simp [Cc])]
   exact Hs hm rfl rfl (.inr rfl) (.inr rfl) rfl (.inr rfl) (.inl (by decide)) (fun x hx=>by cases hx) nn nn
  ·rw[Iy _ _ _ (by simp [Cc])]
   exact Hs hm rfl rfl (.inr rfl) (.inr rfl) rfl (.inr rfl) (.inl (by decide)) (fun x hx=>by cases hx) nn nn
 ·dsimp only
  rw[Im _ _ _ (by simp [Cc])];exact Hs hm rfl rfl (.inr rfl) (.inr rfl) rfl (.inr rfl) (.inl (by decide)) (e4 _) nn nn
theorem Ow(raw:List Int):∀(d:Nat) (sc:Sc),sc.Ok→∀m,1≤m→d≤m→∀a x,x∈(Et raw d sc a).1→Cu m x=true
 |0,sc,hs,m,hm,hd,a,x,hx=>by
  rw[Et]at hx;exact Lj _ (fun x=>Cu m x=true) (jA hs raw _ _ 0 m hm (fun h=>by omega) (fun h=>by omega)) _ _ x hx
 |d+1,sc,hs,m,hm,hd,a,x,hx=>by
  rw[Et]at hx;exact Lj _ (fun x=>Cu m x=true) (jA hs raw _ _ (d+1) m hm (fun h=>Ow raw d sc hs (m-1) (by omega) (by omega)) (fun h=>Ow raw d sc.inLoop hs.inLoop (m-1) (by omega) (by omega))) _ _ x hx
def Ei:List Bs:=[[97],[98],[99]]
def Dz:List Bs:=[[102],[103],[104]]
def Fr:List Bs:=[[112],[113],[114],[115],[116],[117]]
def Ch:List Bs:=[[120],[121],[122],[105],[107]]
def El:List Int:=[1,4,10,1000]
def Rc(free:Bool)(raw:List Int)(i:Nat)(a:Nat):Ar ×Nat:=
 if free then By true [] raw (Ad raw a 4).2 else(⟨Ei.getD i [],El.getD (Ad raw a 4).1.toNat 0⟩,(Ad raw a 4).2)
def Gt(free:Bool)(raw:List Int):Nat→Nat→List Ar ×Nat
 |0,a=>([],a)
 |i+1,a=>((Rc free raw (i+1) a).1::(Gt free raw i (Rc free raw (i+1) a).2).1,(Gt free raw i (Rc free raw (i+1) a).2).2)
def Vz(raw:List Int)(i a:Nat):Fu ×Nat:=(⟨Dz.getD i [],Fr.take (Ad raw a 7).1.toNat,[],[]⟩,(Ad raw a 7).2)
def Gi(raw:List Int):Nat→Nat→List Fu ×Nat
 |0,a=>([],a)
 |i+1,a=>((Vz raw (i+1) a).1::(Gi raw i (Vz raw (i+1) a).2).1,(Gi raw i (Vz raw (i+1) a).2).2)
def Md(raw:List Int)(sc:Sc)(f:Fu)(a:Nat):Fu ×Nat:=
 let l:=Ch.take (Ad raw a 6).1.toNat
 let b:=Et raw 4 ⟨f.params++l,sc.arrays,sc.funcs,sc.free,false⟩ (Ad raw a 6).2
 (⟨f.name,f.params,l,b.1⟩,b.2)
def Cf(raw:List Int)(sc:Sc):List Fu→Nat→List Fu ×Nat
 |[],a=>([],a)
 |f::l,a=>((Md raw sc f a).1::(Cf raw sc l (Md raw sc f a).2).1,(Cf raw sc l (Md raw sc f a).2).2)
def Ig:Fu:=⟨[109,97,105,110],[],[],[]⟩
def Gz(raw:List Int)(free:Bool):List Ar ×Nat:=Gt free raw (Ad raw 0 3).1.toNat (Ad raw 0 3).2
def Mi(raw:List Int)(a:Nat):List Fu ×Nat:=Gi raw (Ad raw a 3).1.toNat (Ad raw a 3).2
def Gx(raw:List Int)(free:Bool):Sc:=⟨[],(Gz raw free).1,Ig::(Mi raw (Gz raw free).2).1,free,false⟩
def Ie(raw0:List Int)(free:Bool):Pr:=
 let raw:=raw0.take 400
 ⟨(Gz raw free).1,(Cf raw (Gx raw free) (Gx raw free).funcs (Mi raw (Gz raw free).2).2).1⟩
theorem gArr_ok(free:Bool)(raw:List Int)(i a:Nat)(hi:i=1∨i=2):Ck (Rc free raw i a).1=true:=by
 unfold Rc;split
 ·have h1:=Hp (Ad raw (Ad raw a 4).2 312).1
  have h2:=Af raw (Ad raw (Ad raw a 4).2 312).2 1000 (by decide);unfold By;rw[if_pos (by simp)];simp only[Ck,h1,Bool.true_and];simp;omega
 ·have h2:=Af raw a 4 (by decide)
  have h3:(Ad raw a 4).1=0∨(Ad raw a 4).1=1∨(Ad raw a 4).1=2∨(Ad raw a 4).1=3:=by omega
  dsimp only;rcases hi with rfl|rfl<;>rcases h3 with h|h|h|h<;>rw[h]<;>decide
theorem Wh(free:Bool)(raw:List Int):∀i a,i≤2→∀x,x∈(Gt free raw i a).1→Ck x=true
 |0,a,_,x,hx=>by cases hx
 |i+1,a,hi,x,hx=>by
  rw[Gt]at hx;rcases Zc.1 hx with rfl|hx
  ·exact gArr_ok free raw (i+1) a (by omega)
  ·exact Wh free raw i _ (by omega) x hx
def Ug(f:Fu):Prop:=Ah f.name=true∧f.params.length≤6∧∀x,x∈f.params→Ah x=true
theorem eM:∀x,x∈Fr→Ah x=true:=by decide
theorem Te:∀x,x∈Ch→Ah x=true:=by decide
theorem Vr(raw:List Int):∀i a,i≤2→∀x,x∈(Gi raw i a).1→Ug x
 |0,a,_,x,hx=>by cases hx
 |i+1,a,hi,x,hx=>by
  rw[Gi]at hx;rcases Zc.1 hx with rfl|hx
  ·have hi':i=0∨i=1:=by omega
   refine⟨?_,?_,fun x hx=>eM x (List.mem_of_mem_take hx)⟩
   ·show Ah (Dz.getD (i+1) [])=true
    rcases hi' with rfl|rfl<;>decide
   ·show(Fr.take _).length≤6
    rw[List.length_take];exact Nat.min_le_right _ _
  ·exact Vr raw i _ (by omega) x hx
theorem Sj(raw:List Int)(sc:Sc)(ha:∀x,x∈sc.arrays→Ah x.name=true)(hf:∀x,x∈sc.funcs→Ug x):∀l a,(∀x,x∈l→Ug x)→∀x,x∈(Cf raw sc l a).1→Dd x=true
 |[],a,_,x,hx=>by cases hx
 |f::l,a,hl,x,hx=>by
  rw[Cf]at hx;rcases Zc.1 hx with rfl|hx
  ·have h:=hl f List.mem_cons_self
   have hL:∀x,x∈Ch.take (Ad raw a 6).1.toNat→Ah x=true:=fun x hx=>Te x (List.mem_of_mem_take hx)
   have hsc:Sc.Ok ⟨f.params++Ch.take (Ad raw a 6).1.toNat,sc.arrays,sc.funcs,sc.free,false⟩:=⟨fun x hx=>by
    rcases List.mem_append.1 hx with hx|hx
    ·exact h.2.2 x hx
    ·exact hL x hx,ha,fun x hx=>⟨(hf x hx).1,(hf x hx).2.1⟩⟩
   have hb:=Ow raw 4 _ hsc 40 (by omega) (by omega) (Ad raw a 6).2;unfold Md Dd;dsimp only;rw[h.1,Za.2 h.2.2,Za.2 hL,Za.2 hb,decide_eq_true h.2.1];rfl
  ·exact Sj raw sc ha hf l _ (fun x hx=>hl x (List.mem_cons_of_mem _ hx)) x hx
theorem Fp(raw:List Int)(free:Bool):∀x,x∈(Gx raw free).funcs→Ug x:=by
 intro x hx;rcases Zc.1 hx with rfl|hx
 ·exact⟨by decide,by decide,fun x hx=>by cases hx⟩
 ·exact Vr raw _ _ (by have:=Af raw (Gz raw free).2 3 (by decide);omega) x hx
theorem Kf(raw:List Int)(free:Bool):∀x,x∈(Gz raw free).1→Ck x=true:=
 Wh free raw _ _ (by have:=Af raw 0 3 (by decide);omega)
theorem La(raw0:List Int)(free:Bool):Dp (Ie raw0 free)=true:=by
 unfold Ie Dp;dsimp only;rw[Bool.and_eq_true,Za,Za];refine⟨Kf _ _,Sj _ _ (fun x hx=>?_) (Fp _ _) _ _ (Fp _ _)⟩;have:=Kf (raw0.take 400) free x hx;unfold Ck at this;exact((Bool.and_eq_true _ _).mp this).1
theorem iP(c n:Int)(hc:I64 c)(h0:0<n)(h1:n≤9223372036854775807)(w:World):
  Calls Tryz.prog 60 #[.int .i64 c,.int .i64 n] w fun e w'=>e=.returned (.int .i64 (Fh c n))∧w'=w:=by
 obtain⟨l,u⟩:=hc;unfold Fh
 by_cases hneg:c<0
 ·rw[if_pos hneg]
  have hn0:(n==0)=false:=by simp;omega
  go_enter func60,ntmps60
  go_wp2_with fail
  go_ret
  exact⟨Ii (by show -((c+1).tmod n)=_;rw[←Int.neg_tmod,Int.tmod_eq_emod_of_nonneg (by omega)]),rfl⟩
 ·rw[if_neg hneg]
  have hneg':0≤c:=by omega
  go_enter func60,ntmps60
  go_wp2_with fail
  go_ret
  exact⟨rfl,rfl⟩
def Gy(D:Nat→Prop)(w:World)(l:List Int)(v:Value):Prop:=
 ∃a cap b off,v=.slice a l.length cap∧l.length≤cap∧Bw l.length∧(l.length=0∨(a=some ⟨b,off,none⟩∧D b))∧
  (∀i,i<l.length→w.cell? ⟨b,off+i,none⟩=some (.int .i64 (l.getD i 0)))∧∀i,i<l.length→I64 (l.getD i 0)
theorem Gy.keep {D:Nat→Prop}{w w':World}(hk:Gw D w w'){l:List Int}{v:Value}(h:Gy D w l v):Gy D w' l v:=by
 obtain⟨a,cap,b,off,hv,h1,h2,h3,h4,h5⟩:=h;refine⟨a,cap,b,off,hv,h1,h2,h3,fun i hi=>?_,h5⟩;rcases h3 with h3|⟨_,hD⟩
 ·omega
 ·exact hk _ _ _ hD (h4 i hi)
theorem Gy.shape {D:Nat→Prop}{w:World}{l:List Int}{v:Value}(h:Gy D w l v):∃a cap,v=.slice a l.length cap:=by
 obtain⟨a,cap,b,off,hv,_⟩:=h;exact⟨a,cap,hv⟩
theorem Gy.fits {D:Nat→Prop}{w:World}{l:List Int}{v:Value}(h:Gy D w l v):Bw l.length:=by
 obtain⟨a,cap,b,off,hv,h1,h2,_⟩:=h;exact h2
theorem Gy.cellAt {D:Nat→Prop}{w:World}{l:List Int}{a:Option Addr}{n cap:Nat}(h:Gy D w l (.slice a n cap))(i:Nat)(hl:i<l.length):∃b off,a=some ⟨b,off,none⟩∧D b∧b<w.heap.size∧
  w.cell? ⟨b,off+i,none⟩=some (.int .i64 (l.getD i 0))∧I64 (l.getD i 0):=by
 obtain⟨a',cap',b,off,hv,h1,h2,h3,h4,h5⟩:=h
 cases hv
 rcases h3 with h3|⟨h3,hD⟩
 ·omega
 ·exact⟨b,off,h3,hD,Zg _ _ (h4 i hl),h4 i hl,h5 i hl⟩
def An(w:World)(s:Nat)(raw:List Int)(a:Nat):Prop:=
 ∃v,w.heap[s]? =some (.cells #[v,.int .i64 a] 59 (0,0))∧Gy (· <s) w raw v∧a≤raw.length
theorem An.lt {w:World}{s:Nat}{raw:List Int}{a:Nat}(h:An w s raw a):s<w.heap.size:=by
 obtain⟨v,hb,_⟩:=h;rcases Nat.lt_or_ge s w.heap.size with h'|h'
 ·exact h'
 ·simp [Array.getElem?_eq_none h']at hb
theorem An.old {w w':World}{s:Nat}{raw:List Int}{a:Nat}(h:An w s raw a)(hb:Below w.heap.size w w'):An w' s raw a:=by
 have hl:=h.lt;obtain⟨v,h1,h2,h3⟩:=h;exact⟨v,(hb.block s hl).trans h1,h2.keep (Da hb),h3⟩
theorem An.set {w:World}{s:Nat}{raw:List Int}{a:Nat}(h:An w s raw a)(ha:a<raw.length):An (w.setCell ⟨s,1,none⟩ (.int .i64 ((a:Int)+1))) s raw (a+1)∧SFr s w (w.setCell ⟨s,1,none⟩ (.int .i64 ((a:Int)+1))):=by
 obtain⟨v,h1,h2,h3⟩:=h;have hf:SFr s w (w.setCell ⟨s,1,none⟩ (.int .i64 ((a:Int)+1))):=⟨rfl,rfl,rfl,by simp [Zd],fun k _ hk=>Ze _ _ _ _ hk⟩;refine⟨⟨v,?_,h2.keep (hf.keepsD (fun b h=>Nat.ne_of_lt h)),ha⟩,hf⟩;rw[show((a+1:Nat):Int)=(a:Int)+1 from by omega];simp [Zd,Array.getElem?_modify,h1]
def Cw(w:World)(s:Nat)(raw:List Int)(x:Value)(a':Nat)(r:Ending)(w':World):Prop:=r=.returned x∧An w' s raw a'∧SFr s w w'
theorem An.drewN {s n:Nat}{w1:World}{raw:List Int}{a:Nat}(h:An w1 s raw a):An (w1.drewN n) s raw a:=h
theorem Bq(s:Nat)(raw:List Int)(a:Nat)(n:Int)(w:World)(hs:An w s raw a)(h0:0<n)(h1:n≤1000000):
  Calls Tryz.prog 24 #[.pointer (some ⟨s,0,none⟩),.int .i64 n] w (Cw w s raw (.int .i64 (Ad raw a n).1) (Ad raw a n).2):=by
 have HS:=Lib.hid hs;obtain⟨v,hb,hr,ha⟩:=hs;obtain⟨ra,rc,rfl⟩:=hr.shape;have l63:=hr.fits.out;have c0:w.cell? ⟨s,0,none⟩=some (.slice ra raw.length rc):=by rw[Zf hb];rfl
 have c1:w.cell? ⟨s,1,none⟩=some (.int .i64 a):=by rw[Zf hb];rfl
 have fz:w.frozen? ⟨s,1,none⟩=false:=Lib.frozen_of_heap hb 1;unfold Ad
 by_cases hge:raw.length≤a
 ·rw[if_pos hge]
  clear hb hr;go_enter func24,ntmps24
  go_wp2_with fail
  go_quiet (fail)
  go_wp2_with fail
  go_ret
  exact⟨rfl,HS.o,SFr.drewN (SFr.refl _ _)⟩
 ·rw[if_neg hge]
  have hlt:a<raw.length:=by omega
  obtain⟨b,off,rfl,hD,hbl,cr,hI⟩:=hr.cellAt a hlt;have HSET:=Lib.hid (HS.o.set hlt);have HI:=Lib.hid hI;have hD':b≠s:=Nat.ne_of_lt hD;have HCR:=Lib.hid (HSET.o.2.cell hD' cr);obtain⟨v',hb',_,_⟩:=HSET.o.1;have hsl:=HS.o.lt;have g0:(w.setCell ⟨s,1,none⟩ (.int .i64 ((a:Int)+1))).cell? ⟨s,0,none⟩=some (.slice (some ⟨b,off,none⟩) raw.length rc):=by
   have h:=hb;simp [Zd,World.cell?,Array.getElem?_modify,h]
  clear hb hr hI hD hge hb';generalize hc:raw.getD a 0=c at*;clear hc;go_enter func24,ntmps24
  go_wp2_with fail
  go_quiet (fail)
  go_wp2_with fail
  have hsv:An ((w.drewN nq).setCell ⟨s,1,none⟩ (.int .i64 ((a:Int)+1))) s raw (a+1):=HSET.o.1.drewN (n:=nq);have hfv:SFr s w ((w.drewN nq).setCell ⟨s,1,none⟩ (.int .i64 ((a:Int)+1))):=HSET.o.2.drewN (n:=nq);have k0:((w.drewN nq).setCell ⟨s,1,none⟩ (.int .i64 ((a:Int)+1))).cell? ⟨s,0,none⟩=some (.slice (some ⟨b,off,none⟩) raw.length rc):=g0;have k1:((w.drewN nq).setCell ⟨s,1,none⟩ (.int .i64 ((a:Int)+1))).cell? ⟨s,1,none⟩=some (.int .i64 ((a:Int)+1)):=by
   obtain⟨v2,hb2,_⟩:=hsv;rw[Zf hb2];show some (Value.int .i64 ((a+1:Nat):Int))=_;rw[show((a+1:Nat):Int)=(a:Int)+1 from by omega]
  have kr:((w.drewN nq).setCell ⟨s,1,none⟩ (.int .i64 ((a:Int)+1))).cell? ⟨b,off+a,none⟩=some (.int .i64 c):=HCR.o;have HSV:=Lib.hid hsv;have HFV:=Lib.hid hfv;clear hsv hfv g0 c0 c1 cr fz HSET HCR HS;generalize (w.drewN nq).setCell ⟨s,1,none⟩ (.int .i64 ((a:Int)+1))=V at*;have S1:IntKind.i64.wrap ((a:Int)+1-1)=a:=by rw[IntWalk.i64_in _ (by omega)];omega
  have S2:IntKind.i64.wrap (a:Int)=a:=IntWalk.i64_in _ (by omega);have i0:(0:Int)≤(a:Int):=by omega
  have i1:(a:Int)<(raw.length:Int):=by omega
  have hbv:b<V.heap.size:=Zg _ _ kr;have hsv:s<V.heap.size:=HSV.o.lt
  go_region_held3 (fun w'=>w'.cell? ⟨s,0,none⟩=some (.slice (some ⟨b,off,none⟩) raw.length rc)∧w'.cell? ⟨s,1,none⟩=some (.int .i64 ((a:Int)+1))∧w'.cell? ⟨b,off+a,none⟩=some (.int .i64 c)) (first|(simp [*,World.cell?_alloc_lt];done)|go_keep) (first
   |(go_at_call 60;refine(iP c n HI.o h0 (by omega) _).mono ?_;rintro r w2 ⟨he,hw⟩;subst he;subst hw))
  go_wp2_with fail
  go_ret
  exact⟨rfl,HSV.o,SFr.drewN (n:=1) HFV.o⟩
end Go.Proofs.YtfhbinbjkpfedaaGreatDoor
namespace Go.Proofs.YtfhbinbjkpfedaaGreatDoor
open Go.ChangeShapes Go.WideShapes Go.ChangeAt Go.RowKit
set_option maxHeartbeats 4000000
set_option maxRecDepth 100000
def Gv(D:Nat→Prop)(w:World)(l:List Int)(v:Value):Prop:=
 ∃a cap b off,v=.slice a l.length cap∧l.length≤cap∧cap≤9223372036854775807∧(l.length=0∨(a=some ⟨b,off,none⟩∧D b))∧
  (∀i,i<l.length→w.cell? ⟨b,off+i,none⟩=some (.int .i64 (l.getD i 0)))∧∀i,i<l.length→I64 (l.getD i 0)
theorem Gv.keep {D:Nat→Prop}{w w':World}(hk:Gw D w w'){l:List Int}{v:Value}(h:Gv D w l v):Gv D w' l v:=by
 obtain⟨a,cap,b,off,hv,h1,h2,h3,h4,h5⟩:=h;refine⟨a,cap,b,off,hv,h1,h2,h3,fun i hi=>?_,h5⟩;rcases h3 with h3|⟨_,hD⟩
 ·omega
 ·exact hk _ _ _ hD (h4 i hi)
theorem Gv.mono {D D':Nat→Prop}(hD:∀b,D b→D' b){w:World}{l:List Int}{v:Value}(h:Gv D w l v):Gv D' w l v:=by
 obtain⟨a,cap,b,off,hv,h1,h2,h3,h4,h5⟩:=h;exact⟨a,cap,b,off,hv,h1,h2,h3.imp id (fun q=>⟨q.1,hD _ q.2⟩),h4,h5⟩
theorem Gv.old {w w':World}{l:List Int}{v:Value}(hb:Below w.heap.size w w')(h:Gv (· <w.heap.size) w l v):Gv (· <w'.heap.size) w' l v:=
 (h.keep (Da hb)).mono (fun b hl=>Nat.lt_of_lt_of_le hl hb.size)
theorem Gv.shape {D:Nat→Prop}{w:World}{l:List Int}{v:Value}(h:Gv D w l v):∃a cap,v=.slice a l.length cap:=by
 obtain⟨a,cap,b,off,hv,_⟩:=h;exact⟨a,cap,hv⟩
theorem Gv.len {D:Nat→Prop}{w:World}{l:List Int}{v:Value}(h:Gv D w l v):l.length≤9223372036854775807:=by
 obtain⟨a,cap,b,off,hv,h1,h2,_⟩:=h;omega
theorem Gv.take {D:Nat→Prop}{w:World}{l:List Int}{a:Option Addr}{n cap:Nat}(h:Gv D w l (.slice a n cap))(k:Nat)(hk:k≤l.length)(h4:k≤1000):Gy D w (l.take k) (.slice a k cap):=by
 obtain⟨a',cap',b,off,hv,h1,h2,h3,h5,h6⟩:=h
 cases hv
 have e:(l.take k).length=k:=by rw[List.length_take];omega
 refine⟨a,cap,b,off,by rw[e],by rw[e];omega,by rw[e];show k≤_;omega,?_,fun i hi=>?_,fun i hi=>?_⟩
 ·rcases h3 with h3|h3
  ·left;rw[e];omega
  ·exact .inr h3
 ·rw[e]at hi
  have:=h5 i (by omega);rw[List.getD_eq_getElem?_getD,List.getElem?_take,if_pos hi,←List.getD_eq_getElem?_getD];exact this
 ·rw[e]at hi
  have:=h6 i (by omega);rw[List.getD_eq_getElem?_getD,List.getElem?_take,if_pos hi,←List.getD_eq_getElem?_getD];exact this
theorem eK {n:Int}(h:(Lit.int .i64 n).wf=true):I64 n:=by
 simp only[Lit.wf,Bool.and_eq_true,decide_eq_true_eq]at h;exact h
theorem Qr:Tryz.prog.cellsOf 3=1:=by kernel_rfl
theorem iM {H:Type}{enc:TypeId ×Value→H}{W:World}{base:Nat}{x:Value}{d:DataW H}{p:List MemPlace}(hv:Value.okWide Tryz.prog W .any base 22 x)(h:DataW.Trod enc Tryz.prog W 0 (fun _=>true) true 22 x d p):
  ∃raw,Gv (· <W.heap.size) W raw x∧∀(W':World) (sp:Nat→Bool) (hd:Bool),Below W.heap.size W W'→(∀q,q∈p→sp q.block=true)→DataW.Trod enc Tryz.prog W' 0 sp hd 22 x d p:=by
 obtain⟨a0,len,cap,rfl⟩:=okWide_slice Tryz.underlying22 hv;obtain⟨fuel,hf⟩:=h;rcases open_ints Tryz.underlying22 Tryz.underlying3 Qr hf with⟨hcs,hx⟩|⟨a,len',cap',zs,hcs,hb,hl,hm,hz,hx,hcell,hwz⟩
 ·cases hcs;cases hx
  exact⟨[],⟨none,0,0,0,rfl,Nat.le_refl _,Nat.zero_le _,.inl rfl,fun i hi=>(by cases hi),fun i hi=>(by cases hi)⟩,fun W' sp hd _ _=>⟨2,rfl⟩⟩
 ·cases hcs;cases hx
  rw[if_pos rfl]at hz;have e:(zs.take len).length=len:=by rw[List.length_take];omega
  have hmax:cap≤9223372036854775807:=by unfold maxLen at hm;omega
  have wf0:∀i,i<zs.length→I64 (zs.getD i 0):=fun i hi=>eK (hwz _ (by rw[List.getD_eq_getElem?_getD,List.getElem?_eq_getElem hi];exact List.getElem_mem hi))
  rcases Nat.eq_zero_or_pos zs.length with h0|h0
  ·have hl0:len=0:=by omega
   subst hl0;refine⟨[],⟨some a,cap,0,0,rfl,Nat.zero_le _,hmax,.inl rfl,fun i hi=>(by cases hi),fun i hi=>(by cases hi)⟩,fun W' sp hd _ _=>⟨2,?_⟩⟩;exact shut_ints 0 Tryz.underlying22 Tryz.underlying3 Qr (Nat.zero_le _) hl hm (by split<;>omega) (fun i hi=>by omega) hwz
  ·obtain⟨b,off,rfl,hc⟩:=ints_at hcell h0
   have hbl:b<W.heap.size:=World.block_lt_of_cell? _ _ (hc 0 h0);refine⟨zs.take len,⟨some ⟨b,off,none⟩,cap,b,off,by rw[e],by rw[e];exact hl,hmax,.inr ⟨rfl,hbl⟩,fun i hi=>?_,fun i hi=>?_⟩,fun W' sp hd hB hsp=>⟨2,?_⟩⟩
   ·rw[e]at hi
    have:=hc i (by omega);rw[List.getD_eq_getElem?_getD,List.getElem?_take,if_pos hi,←List.getD_eq_getElem?_getD];exact this
   ·rw[e]at hi
    have:=wf0 i (by omega);rw[List.getD_eq_getElem?_getD,List.getElem?_take,if_pos hi,←List.getD_eq_getElem?_getD];exact this
   ·have hs:sp b=true:=hsp (.cell b (off+0)) (MemPlace.mem_row.2 ⟨0,h0,rfl⟩)
    exact shut_ints' 0 Tryz.underlying22 Tryz.underlying3 Qr (Nat.zero_le _) hl hm (by rw[hs];simpa using hz) (fun i hi=>Ac hB (hc i hi)) hwz
end Go.Proofs.YtfhbinbjkpfedaaGreatDoor
namespace Go.Proofs.YtfhbinbjkpfedaaGreatDoor
open Go.RowKit Go.Proofs.Tryz
set_option maxHeartbeats 20000000
set_option maxRecDepth 100000
open Go.Lib renaming hid→Za
open Go.Proofs.Tryz renaming prog→Zb
open SFr renaming of_below→Zc
theorem fL(c n:Int)(hc:I64 c)(h0:0<n)(h1:n≤9223372036854775807)(w:World):
  Calls Zb 108 #[.int .i64 c,.int .i64 n] w fun e w'=>e=.returned (.int .i64 (Fh c n))∧w'=w:=by
 obtain⟨l,u⟩:=hc;unfold Fh
 by_cases hneg:c<0
 ·rw[if_pos hneg]
  have hn0:(n==0)=false:=by simp;omega
  go_enter func108,ntmps108
  go_wp2_with fail
  go_ret
  exact⟨Ii (by show -((c+1).tmod n)=_;rw[←Int.neg_tmod,Int.tmod_eq_emod_of_nonneg (by omega)]),rfl⟩
 ·rw[if_neg hneg]
  have hneg':0≤c:=by omega
  go_enter func108,ntmps108
  go_wp2_with fail
  go_ret
  exact⟨rfl,rfl⟩
theorem iS(n:Int)(h0:0≤n)(h1:n<256)(W:World)(b:Nat)(hc:W.cell? ⟨b,0,none⟩=some (.int .u8 n)):
  (convert 72 9 (.slice (some ⟨b,0,none⟩) 1 1)).run Zb W=.ok (.string (Aa [UInt8.ofNat n.toNat])) W:=by
 refine run_convert_bytes_back (P:=Zb) W 72 9 5 ⟨b,0,none⟩ 1 [UInt8.ofNat n.toNat] underlying72 underlying5 underlying9 (fun j hj=>?_);have hj0:j=0:=by simp at hj;omega
 subst hj0;have e:((UInt8.ofNat n.toNat).toNat:Int)=n:=by
  rw[UInt8.toNat_ofNat'];have:n.toNat % 2 ^ 8=n.toNat:=Nat.mod_eq_of_lt (by omega);omega
 show W.cell? _=some (.int .u8 ((UInt8.ofNat n.toNat).toNat:Int))
 rw[e];exact hc
theorem suf_at:∀j:Fin 12,([Value.string ⟨#[]⟩,Value.string ⟨#[49]⟩,Value.string ⟨#[95]⟩,Value.string ⟨#[90,57]⟩,Value.string ⟨#[105,102]⟩,Value.string ⟨#[120]⟩,Value.string ⟨#[48]⟩,Value.string ⟨#[97,97]⟩,Value.string ⟨#[105,110,116,105,110,116]⟩,Value.string ⟨#[113,55]⟩,Value.string ⟨#[66]⟩,Value.string ⟨#[48,48]⟩]:List Value)[j.val]'(by simp)=.string (Aa (Yl.getD j.val [])):=by
 intro j;obtain⟨j,hj⟩:=j;have:j=0∨j=1∨j=2∨j=3∨j=4∨j=5∨j=6∨j=7∨j=8∨j=9∨j=10∨j=11:=by omega
 rcases this with rfl|rfl|rfl|rfl|rfl|rfl|rfl|rfl|rfl|rfl|rfl|rfl<;>rfl
theorem Ui(c:Int)(hc:I64 c)(w:World):
  Calls Zb 63 #[.int .i64 c] w fun e w'=>e=.returned (.string (Aa (Hi c)))∧Below w.heap.size w w':=by
 have hk:=Jv c 312 (by decide);have E:Hid (Hi c=UInt8.ofNat (97+(Fh c 312 % 26).toNat)::Yl.getD (Fh c 312 / 26).toNat []):=rfl;rw[E.out];have HC:=Za hc;have HK:Hid (∀w,Calls Zb 108 #[.int .i64 c,.int .i64 312] w fun e w'=>e=.returned (.int .i64 (Fh c 312))∧w'=w):=fun w=>fL c 312 hc (by decide) (by decide) w
 clear hc E;generalize Fh c 312=k at*;obtain⟨hk0,hk1⟩:=hk;have hm0:0≤k % 26:=Int.emod_nonneg _ (by decide);have hm1:k % 26<26:=Int.emod_lt_of_pos _ (by decide);have hd0:0≤k / 26:=by omega
 have hd1:k / 26<12:=by omega
 have hd2:(k / 26).toNat<12:=by omega
 have HCV:=iS (97+k % 26) (by omega) (by omega);have HLD:=suf_at ⟨(k / 26).toNat,hd2⟩;dsimp only at HLD;have hlen:(Yl.getD (k / 26).toNat []).length≤6:=by
  have h:∀j:Fin 12,(Yl.getD j.val []).length≤6:=by decide
  exact h ⟨_,hd2⟩
 generalize Yl.getD (k / 26).toNat []=sf at*;have hno:¬((Aa [UInt8.ofNat (97+k % 26).toNat]).size+(Aa sf).size>9223372036854775807):=by
  show ¬([UInt8.ofNat (97+k % 26).toNat].toArray.size+sf.toArray.size>_)
  simp;omega
 have hsb:Hid (Aa [UInt8.ofNat (97+k % 26).toNat]++Aa sf=Aa (UInt8.ofNat (97+(k % 26).toNat)::sf)):=by
  show _=_
  rw[show 97+(k % 26).toNat=(97+k % 26).toNat by omega];rfl
 generalize Aa [UInt8.ofNat (97+k % 26).toNat]=cb at*;generalize hsf:Aa sf=sb at*;have HSF:=Za hsf;clear hsf hlen;go_enter func63,ntmps63
 go_wp2_with fail
 refine(HK.o _).mono ?_;rintro r w2 ⟨he,hw⟩;subst he;subst hw;go_wp2_with fail
 go_region
 all_goals go_wp2_with fail
 all_goals
  go_ret
  refine⟨?_,by repeat(first|exact Below.refl _ _|refine Below.drew ?_ |refine Below.alloc ?_ (by simp) _)⟩;exact congrArg (fun s=>Ending.returned (Value.string s)) hsb.out
abbrev scV(sc:Sc)(vv av fv:Value):Value:=.agg #[vv,av,fv,.bool sc.free,.bool sc.loop]
theorem Lm(raw:List Int)(a:Nat)(n:Int)(h:0<n)(h1:n≤1000000):I64 (Ad raw a n).1:=by
 have:=Af raw a n h;exact⟨by omega,by omega⟩
theorem An.alloc {w:World}{s:Nat}{raw:List Int}{a:Nat}(h:An w s raw a)(o:Obj):An (w.alloc o) s raw a:=h.old (bA)
theorem SFr.alloc {s:Nat}{w:World}(o:Obj):SFr s w (w.alloc o):=Zc (bA)
theorem jM(s:Nat)(raw:List Int)(a:Nat)(sc:Sc)(vv av fv lv:Value)(l:List Bs)(w:World)(hs:An w s raw a)(hl:Aq (· ≠s) w l lv)(h:(sc.free||l.isEmpty)=true):
  Calls Zb 61 #[scV sc vv av fv,.pointer (some ⟨s,0,none⟩),lv] w (Cw w s raw (.string (Aa (Fm sc.free l raw a).1)) (Fm sc.free l raw a).2):=by
 obtain⟨l1,l2,rfl⟩:=hl.shape;have E:Hid (Fm sc.free l raw a=(Hi (Ad raw a 312).1,(Ad raw a 312).2)):=by show _=_;unfold Fm;rw[if_pos h]
 rw[E.out];have HS1:=Za (hs.alloc (.cells #[vv,av,fv,.bool sc.free,.bool sc.loop] 62));have HF1:Hid (SFr s w (w.alloc (.cells #[vv,av,fv,.bool sc.free,.bool sc.loop] 62))):=SFr.alloc _;clear hs hl E;have key:∀w1,An w1 s raw a→SFr s w w1→Calls Zb 24 #[.pointer (some ⟨s,0,none⟩),.int .i64 312] w1 (Cw w1 s raw (.int .i64 (Ad raw a 312).1) (Ad raw a 312).2):=fun w1 h1 h2=>Bq s raw a 312 w1 h1 (by decide) (by decide)
 have HK:=Za key;clear key;have HV:Hid (∀w,Calls Zb 63 #[.int .i64 (Ad raw a 312).1] w fun e w'=>e=.returned (.string (Aa (Hi (Ad raw a 312).1)))∧Below w.heap.size w w'):=fun w=>Ui _ (Lm raw a 312 (by decide) (by decide)) w
 generalize Ad raw a 312=g at*
 cases hf:sc.free
 ·have hl:l.length=0:=by rw[hf]at h;simpa using h
  rw[hl];clear hl h;rw[hf]at HS1 HF1;go_enter func61,ntmps61
  go_wp2_with fail
  refine(HK.o _ HS1.o HF1.o).mono ?_;rintro r w2 ⟨rfl,hs2,hf2⟩;have HS2:=Za hs2;have HF2:=Za (HF1.o.trans hf2);clear hs2 hf2;go_wp2_with fail
  refine(HV.o _).mono ?_;rintro r w3 ⟨rfl,hb3⟩;have HS3:=Za (HS2.o.old hb3);have HF3:=Za (HF2.o.trans (Zc hb3));clear hb3;go_wp2_with fail
  go_ret
  exact⟨rfl,HS3.o,HF3.o⟩
 ·clear h
  rw[hf]at HS1 HF1;go_enter func61,ntmps61
  go_wp2_with fail
  refine(HK.o _ HS1.o HF1.o).mono ?_;rintro r w2 ⟨rfl,hs2,hf2⟩;have HS2:=Za hs2;have HF2:=Za (HF1.o.trans hf2);clear hs2 hf2;go_wp2_with fail
  refine(HV.o _).mono ?_;rintro r w3 ⟨rfl,hb3⟩;have HS3:=Za (HS2.o.old hb3);have HF3:=Za (HF2.o.trans (Zc hb3));clear hb3;go_wp2_with fail
  go_ret
  exact⟨rfl,HS3.o,HF3.o⟩
theorem name_of(s:Nat)(raw:List Int)(a:Nat)(sc:Sc)(vv av fv lv:Value)(l:List Bs)(w:World)(hs:An w s raw a)(hl:Aq (· ≠s) w l lv)(h:(sc.free||l.isEmpty)=false)(hn:l.length≤1000000):
  Calls Zb 61 #[scV sc vv av fv,.pointer (some ⟨s,0,none⟩),lv] w (Cw w s raw (.string (Aa (Fm sc.free l raw a).1)) (Fm sc.free l raw a).2):=by
 obtain⟨l1,l2,rfl⟩:=hl.shape;have hpos:0<l.length:=Xf (by rw[h];simp);have hf:sc.free=false:=by revert h;cases sc.free<;>simp
 have E:Hid (Fm sc.free l raw a=(l.getD (Ad raw a l.length).1.toNat [],(Ad raw a l.length).2)):=by show _=_;unfold Fm;rw[if_neg (by rw[h];simp)]
 rw[E.out];have HS1:=Za (hs.alloc (.cells #[vv,av,fv,.bool sc.free,.bool sc.loop] 62));have HF1:Hid (SFr s w (w.alloc (.cells #[vv,av,fv,.bool sc.free,.bool sc.loop] 62))):=SFr.alloc _;have HK:Hid (∀w1,An w1 s raw a→Calls Zb 24 #[.pointer (some ⟨s,0,none⟩),.int .i64 l.length] w1 (Cw w1 s raw (.int .i64 (Ad raw a l.length).1) (Ad raw a l.length).2)):=fun w1 h1=>Bq s raw a l.length w1 h1 (by omega) (by omega)
 have hr:=Af raw a l.length (by omega);have HL:=Za hl;have hne:((l.length:Int)==0)=false:=beq_eq_false_iff_ne.2 (by omega);clear hs hl E h;have hi64:=Lm raw a l.length (by omega) (by omega);clear hi64;generalize Ad raw a l.length=g at*;obtain⟨g,ga⟩:=g;obtain⟨g0,g1⟩:=hr;dsimp only at g0 g1 HK ⊢;obtain⟨i,rfl⟩:=Int.eq_ofNat_of_zero_le g0;rw[Int.toNat_natCast];have hi:i<l.length:=by omega
 unfold scV;rw[hf]at HS1 HF1 ⊢;clear hf;go_enter func61,ntmps61
 go_wp2_with fail
 refine(HK.o _ HS1.o).mono ?_;rintro r w2 ⟨rfl,hs2,hf2⟩;have HS2:=Za hs2;have HF2:=Za (HF1.o.trans hf2);clear hs2 hf2;obtain⟨b,off,rfl,hD,hbl,c⟩:=Jq (Aq.keep HF2.o.keeps HL.o) i hi;generalize l.getD i []=x at*;clear hD;go_wp2_with fail
 go_ret
 exact⟨rfl,HS2.o,HF2.o⟩
theorem To(s:Nat)(raw:List Int)(a:Nat)(sc:Sc)(vv av fv lv:Value)(l:List Bs)(w:World)(hs:An w s raw a)(hl:Aq (· ≠s) w l lv)(hn:l.length≤1000000):
  Calls Zb 61 #[scV sc vv av fv,.pointer (some ⟨s,0,none⟩),lv] w (Cw w s raw (.string (Aa (Fm sc.free l raw a).1)) (Fm sc.free l raw a).2):=by
 cases h:(sc.free||l.isEmpty)
 ·exact name_of s raw a sc vv av fv lv l w hs hl h hn
 ·exact jM s raw a sc vv av fv lv l w hs hl h
theorem An.other {w:World}{s:Nat}{raw:List Int}{a:Nat}(h:An w s raw a){k:Nat}(hk:s<k)(i:Nat)(v:Value):An (w.setCell ⟨k,i,none⟩ v) s raw a:=by
 obtain⟨u,h1,h2,h3⟩:=h;exact⟨u,(Below.heap_setCell _ _ _ _ (by show s≠k;omega)).trans h1,h2.keep (Co w (by omega) i v),h3⟩
theorem cV(s:Nat)(raw:List Int)(a:Nat)(sc:Sc)(vv av fv:Value)(w:World)(hs:An w s raw a)(hl:Br (· ≠s) w sc.arrays av)(h:(sc.free||sc.arrays.isEmpty)=true):
  Calls Zb 28 #[scV sc vv av fv,.pointer (some ⟨s,0,none⟩)] w (Cw w s raw (.agg #[.string (Aa (By sc.free sc.arrays raw a).1.name),.int .i64 (By sc.free sc.arrays raw a).1.size]) (By sc.free sc.arrays raw a).2):=by
 obtain⟨l1,l2,rfl⟩:=hl.shape;have hsl:=hs.lt;have E:Hid (By sc.free sc.arrays raw a=(⟨Hi (Ad raw a 312).1,1+(Ad raw (Ad raw a 312).2 1000).1⟩,(Ad raw (Ad raw a 312).2 1000).2)):=by show _=_;unfold By;rw[if_pos h]
 rw[E.out];have HK:Hid (∀w1,An w1 s raw a→Calls Zb 24 #[.pointer (some ⟨s,0,none⟩),.int .i64 312] w1 (Cw w1 s raw (.int .i64 (Ad raw a 312).1) (Ad raw a 312).2)):=fun w1 h1=>Bq s raw a 312 w1 h1 (by decide) (by decide)
 have HV:Hid (∀w,Calls Zb 63 #[.int .i64 (Ad raw a 312).1] w fun e w'=>e=.returned (.string (Aa (Hi (Ad raw a 312).1)))∧Below w.heap.size w w'):=fun w=>Ui _ (Lm raw a 312 (by decide) (by decide)) w
 have HN:Hid (∀w1,An w1 s raw (Ad raw a 312).2→Calls Zb 24 #[.pointer (some ⟨s,0,none⟩),.int .i64 1000] w1 (Cw w1 s raw (.int .i64 (Ad raw (Ad raw a 312).2 1000).1) (Ad raw (Ad raw a 312).2 1000).2)):=fun w1 h1=>Bq s raw _ 1000 w1 h1 (by decide) (by decide)
 have hr:=Af raw (Ad raw a 312).2 1000 (by decide);have hcase:(sc.free=false∧sc.arrays.length=0)∨sc.free=true:=by
  revert h;cases sc.free
  ·intro h;exact .inl ⟨rfl,by simpa using h⟩
  ·intro _;exact .inr rfl
 clear E h hl;unfold scV;generalize Ad raw (Ad raw a 312).2 1000=q at*;generalize Ad raw a 312=g at*;obtain⟨r0,r1⟩:=hr;generalize sc.free=fb at*;generalize sc.arrays.length=n at*;have hb1:Below w.heap.size w ((w.alloc (.cells #[vv,.slice l1 n l2,fv,.bool fb,.bool sc.loop] 62)).alloc (.cells #[.string ⟨#[]⟩,.int .i64 0] 66)):=(bA).alloc (by simp) _;have HS1:=Za (hs.old hb1);have HF1:Hid (SFr s w ((w.alloc (.cells #[vv,.slice l1 n l2,fv,.bool fb,.bool sc.loop] 62)).alloc (.cells #[.string ⟨#[]⟩,.int .i64 0] 66))):=Zc hb1;have hr1:=Ag.new (w.alloc (.cells #[vv,.slice l1 n l2,fv,.bool fb,.bool sc.loop] 62)) [.string ⟨#[]⟩,.int .i64 0] 66;rw[show(w.alloc (.cells #[vv,.slice l1 n l2,fv,.bool fb,.bool sc.loop] 62)).heap.size=w.heap.size+1 by simp]at hr1;have HZ:Hid (w.heap.size+1≠s):=by show _≠_;omega
 have HR:=Za hr1;clear hs hb1 hr1;have hsx:s<w.heap.size+1:=by omega
 have hge:w.heap.size≤w.heap.size+1:=by omega
 rcases hcase with⟨rfl,rfl⟩|rfl
 all_goals
  go_enter func28,ntmps28
  go_wp2_with fail
  refine(HK.o _ HS1.o).mono ?_;rintro r w2 ⟨rfl,hs2,hf2⟩;have HS2:=Za hs2;have HF2:=Za (HF1.o.trans hf2);have HR2:=Za (HR.o.sfr hf2 HZ.o);clear hs2 hf2;go_wp2_with fail
  refine(HV.o _).mono ?_;rintro r w3 ⟨rfl,hb3⟩;have HS3:=Za (HS2.o.old hb3);have HF3:=Za (HF2.o.trans (Zc hb3));have HR3:=Za (HR2.o.old hb3);clear hb3;go_wp2_with fail
  refine(HN.o _ HS3.o).mono ?_;rintro r w4 ⟨rfl,hs4,hf4⟩;have HS4:=Za hs4;have HF4:=Za (HF3.o.trans hf4);have HR4:=Za (HR3.o.sfr hf4 HZ.o);clear hs4 hf4;have c0:=HR4.o.at 0 _ rfl;have c1:=HR4.o.at 1 _ rfl;have z0:=HR4.o.fz 0;have z1:=HR4.o.fz 1;have HR5:=Za ((HR4.o.set 0 (.string (Aa (Hi g.1)))).set 1 (.int .i64 (1+q.1)));have HS5:=Za ((HS4.o.other hsx 0 (.string (Aa (Hi g.1)))).other hsx 1 (.int .i64 (1+q.1)));have HF5:=Za ((HF4.o.setNew hge 0 (.string (Aa (Hi g.1)))).setNew hge 1 (.int .i64 (1+q.1)));go_wp2_with fail
  have d0:=HR5.o.at 0 _ rfl;have d1:=HR5.o.at 1 _ rfl;exact bodyPost_ret (v:=.agg #[.string (Aa (Hi g.1)),.int .i64 (1+q.1)]) (by simp [results,results28,go_sem,d0,d1]) rfl ⟨rfl,HS5.o,HF5.o⟩
theorem gS(s:Nat)(raw:List Int)(a:Nat)(sc:Sc)(vv av fv:Value)(w:World)(hs:An w s raw a)(hl:Br (· ≠s) w sc.arrays av)(h:(sc.free||sc.arrays.isEmpty)=false)(hn:sc.arrays.length≤1000000):
  Calls Zb 28 #[scV sc vv av fv,.pointer (some ⟨s,0,none⟩)] w (Cw w s raw (.agg #[.string (Aa (By sc.free sc.arrays raw a).1.name),.int .i64 (By sc.free sc.arrays raw a).1.size]) (By sc.free sc.arrays raw a).2):=by
 obtain⟨l1,l2,rfl⟩:=hl.shape;have hsl:=hs.lt;have hpos:0<sc.arrays.length:=Xf (by rw[h];simp);have hf:sc.free=false:=by revert h;cases sc.free<;>simp
 have E:Hid (By sc.free sc.arrays raw a=(Iu sc.arrays (Ad raw a sc.arrays.length).1.toNat,(Ad raw a sc.arrays.length).2)):=by show _=_;unfold By;rw[if_neg (by rw[h];simp)]
 rw[E.out];have HK:Hid (∀w1,An w1 s raw a→Calls Zb 24 #[.pointer (some ⟨s,0,none⟩),.int .i64 sc.arrays.length] w1 (Cw w1 s raw (.int .i64 (Ad raw a sc.arrays.length).1) (Ad raw a sc.arrays.length).2)):=fun w1 h1=>Bq s raw a sc.arrays.length w1 h1 (by omega) (by omega)
 have hr:=Af raw a sc.arrays.length (by omega);clear E h;generalize Ad raw a sc.arrays.length=g at*;obtain⟨g,ga⟩:=g;obtain⟨g0,g1⟩:=hr;dsimp only at g0 g1 HK ⊢;obtain⟨i,rfl⟩:=Int.eq_ofNat_of_zero_le g0;rw[Int.toNat_natCast];have hi:i<sc.arrays.length:=by omega
 obtain⟨eb,off,rfl,hD,hbl,c0,c1⟩:=Br.cellAt hl i hi;have heb:eb≠s:=hD;generalize Iu sc.arrays i=x at*;have hne:((sc.arrays.length:Int)==0)=false:=beq_eq_false_iff_ne.2 (by omega);clear hl hD;unfold scV;rw[hf];clear hf;generalize sc.arrays.length=n at*;have hb1:Below w.heap.size w ((w.alloc (.cells #[vv,.slice (some ⟨eb,off,none⟩) n l2,fv,.bool false,.bool sc.loop] 62)).alloc (.cells #[.string ⟨#[]⟩,.int .i64 0] 66)):=(bA).alloc (by simp) _;have HS1:=Za (hs.old hb1);have HF1:Hid (SFr s w ((w.alloc (.cells #[vv,.slice (some ⟨eb,off,none⟩) n l2,fv,.bool false,.bool sc.loop] 62)).alloc (.cells #[.string ⟨#[]⟩,.int .i64 0] 66))):=Zc hb1;have hr1:=Ag.new (w.alloc (.cells #[vv,.slice (some ⟨eb,off,none⟩) n l2,fv,.bool false,.bool sc.loop] 62)) [.string ⟨#[]⟩,.int .i64 0] 66;rw[show(w.alloc (.cells #[vv,.slice (some ⟨eb,off,none⟩) n l2,fv,.bool false,.bool sc.loop] 62)).heap.size=w.heap.size+1 by simp]at hr1;have hc1:=(Ag.new w [vv,.slice (some ⟨eb,off,none⟩) n l2,fv,.bool false,.bool sc.loop] 62).alloc (.cells #[.string ⟨#[]⟩,.int .i64 0] 66);have e0:=Ac hb1 c0;have e1:=Ac hb1 c1;have HZ:Hid (w.heap.size+1≠s):=by show _≠_;omega
 have HY:Hid (w.heap.size≠s):=by show _≠_;omega
 have HR:=Za hr1;have HC:=Za hc1;have hsx:s<w.heap.size+1:=by omega
 have hge:w.heap.size≤w.heap.size+1:=by omega
 clear hs hb1 hr1 hc1 c0 c1;go_enter func28,ntmps28
 go_wp2_with fail
 generalize (w.alloc (.cells #[vv,.slice (some ⟨eb,off,none⟩) n l2,fv,.bool false,.bool sc.loop] 62)).alloc (.cells #[.string ⟨#[]⟩,.int .i64 0] 66)=W at*;have a1:=HC.o.at 1 _ rfl;have hdr:Below W.heap.size W W.drew:=(Below.refl _ _).drew;have HSd:=Za (HS1.o.old hdr);clear hdr;have hbe:eb≠w.heap.size+1:=by omega
 have hX1:w.heap.size+1<W.heap.size:=HR.o.lt;have z0:W.frozen? ⟨w.heap.size+1,0,none⟩=false:=HR.o.fz 0;have z1:W.frozen? ⟨w.heap.size+1,1,none⟩=false:=HR.o.fz 1;have y0:=HR.o.at 0 _ rfl;have y1:=HR.o.at 1 _ rfl
 go_region_held3 (fun w'=>w'.cell? ⟨w.heap.size,1,none⟩=some (.slice (some ⟨eb,off,none⟩) n l2)∧w'.cell? ⟨eb,off+i*2,none⟩=some (.string (Aa x.name))∧w'.cell? ⟨eb,off+i*2+1,none⟩=some (.int .i64 x.size)) (first|(simp [*,World.cell?_alloc_lt,Px];done)|go_keep) (first
  |(go_at_call 24;refine(HK.o _ HSd.o).mono ?_;rintro r w4 ⟨he,hs4,hf4⟩;subst he;have HS4:=Za hs4;have HF4:=Za (HF1.o.trans ((Zc (Below.refl _ _).drew).trans hf4));have hR4:=(HR.o.old (Below.refl _ _).drew).sfr hf4 HZ.o;have HR4:=Za hR4;have k1:w4.cell? ⟨w.heap.size,1,none⟩=some (.slice (some ⟨eb,off,none⟩) n l2):=hf4.cell HY.o a1;have m0:w4.cell? ⟨eb,off+i*2,none⟩=some (.string (Aa x.name)):=hf4.cell heb e0;have m1:w4.cell? ⟨eb,off+i*2+1,none⟩=some (.int .i64 x.size):=hf4.cell heb e1;have u0:=hR4.at 0 _ rfl;have u1:=hR4.at 1 _ rfl;have v0:=hR4.fz 0;have v1:=hR4.fz 1;have hX4:w.heap.size+1<w4.heap.size:=hR4.lt;clear hR4 hs4 hf4))
 go_wp2_with fail
 have HR5:=Za ((HR4.o.set 0 (.string (Aa x.name))).set 1 (.int .i64 x.size));have HS5:=Za ((HS4.o.other hsx 0 (.string (Aa x.name))).other hsx 1 (.int .i64 x.size));have HF5:=Za ((HF4.o.setNew hge 0 (.string (Aa x.name))).setNew hge 1 (.int .i64 x.size));have d0:=HR5.o.at 0 _ rfl;have d1:=HR5.o.at 1 _ rfl;exact bodyPost_ret (v:=.agg #[.string (Aa x.name),.int .i64 x.size]) (by simp [results,results28,go_sem,d0,d1]) rfl ⟨rfl,HS5.o,HF5.o⟩
theorem Mm(s:Nat)(raw:List Int)(a:Nat)(sc:Sc)(vv av fv:Value)(w:World)(hs:An w s raw a)(hl:Br (· ≠s) w sc.arrays av)(hn:sc.arrays.length≤1000000):
  Calls Zb 28 #[scV sc vv av fv,.pointer (some ⟨s,0,none⟩)] w (Cw w s raw (.agg #[.string (Aa (By sc.free sc.arrays raw a).1.name),.int .i64 (By sc.free sc.arrays raw a).1.size]) (By sc.free sc.arrays raw a).2):=by
 cases h:(sc.free||sc.arrays.isEmpty)
 ·exact gS s raw a sc vv av fv w hs hl h hn
 ·exact cV s raw a sc vv av fv w hs hl h
structure Ed (s:Nat)(w:World)(sc:Sc)(vv av fv:Value):Prop where
 vars:Aq (· ≠s) w sc.vars vv
 arrays:Br (· ≠s) w sc.arrays av
 funcs:Bj (· ≠s) w sc.funcs fv
 v1:sc.vars.length≤1000000
 a1:sc.arrays.length≤1000000
 f1:sc.funcs.length≤1000000
 p1:∀f,f∈sc.funcs→f.params.length≤1000000
theorem Ed.sfr {s:Nat}{w w':World}{sc:Sc}{vv av fv:Value}(h:Ed s w sc vv av fv)(hf:SFr s w w'):Ed s w' sc vv av fv:=
 ⟨h.vars.keep hf.keeps,h.arrays.keep hf.keeps,h.funcs.keep hf.keeps,h.v1,h.a1,h.f1,h.p1⟩
def Do(w:World)(s:Nat)(raw:List Int)(x:Ex ×Nat)(r:Ending)(w':World):Prop:=
 ∃v,r=.returned (exV x.1 v)∧An w' s raw x.2∧SFr s w w'∧Ai (w.heap.size≤ ·) w' x.1.args v∧I64 x.1.n
def Hb(d:Nat):Prop:= ∀(s:Nat) (raw:List Int) (a:Nat) (sc:Sc) (vv av fv:Value) (w:World),An w s raw a→Ed s w sc vv av fv→
 Calls Zb 27 #[scV sc vv av fv,.pointer (some ⟨s,0,none⟩),.int .i64 d] w (Do w s raw (Am sc raw d a))
theorem Rg(sc:Sc):sc.hasVars=(decide (0<sc.vars.length)||sc.free):=by
 unfold Sc.hasVars;cases sc.vars<;>simp
theorem Nt(sc:Sc):sc.hasArrays=(decide (0<sc.arrays.length)||sc.free):=by
 unfold Sc.hasArrays;cases sc.arrays<;>simp
theorem Pj(sc:Sc):sc.hasFuncs=(decide (0<sc.funcs.length)||sc.free):=by
 unfold Sc.hasFuncs;cases sc.funcs<;>simp
def gTop(sc:Sc)(raw:List Int)(d a:Nat):Ex ×Nat:=Dm sc raw (Am sc raw (d-1)) (gK raw d a) (Ad raw a 12).2
theorem eH(sc:Sc)(raw:List Int)(g h:Nat→Ex ×Nat)(k:Int)(a:Nat)(hk:k<4):Dm sc raw g k a=Dm sc raw h k a:=by
 unfold Dm;split
 ·rfl
 split
 ·rfl
 simp only[hk,if_true]
theorem fP(sc:Sc)(raw:List Int)(d a:Nat):Am sc raw d a=gTop sc raw d a:=by
 cases d with
 |zero=>rw[Am];unfold Pi gTop;exact eH _ _ _ _ _ _ (Vo raw 0 a (by omega))
 |succ d=>rw[Am];unfold Pi gTop;rw[Nat.add_sub_cancel]
def Yo(n:Nat):Code→Option Code
 |.seq (.region k o d) b=>if k==n then some b else Yo n b
 |.seq a b=>Yo n b
 |_=>none
noncomputable def geCode:Code:=(Tryz.f27.body.bind (Yo 6)).getD .skip
structure GeH (d s:Nat)(raw:List Int)(sc:Sc)(v1:Option Addr)(v2:Nat)(a1:Option Addr)(a2:Nat)(f1:Option Addr)(f2:Nat)(ga:Nat)(k:Int)(w w2:World):Prop where
 hd1:d≤1000
 lv:sc.vars.length≤1000000
 la:sc.arrays.length≤1000000
 lf:sc.funcs.length≤1000000
 hsl:s<w.heap.size
 hsc:Ed s w sc (.slice v1 sc.vars.length v2) (.slice a1 sc.arrays.length a2) (.slice f1 sc.funcs.length f2)
 hS2:An w2 s raw ga
 hF2:SFr s w w2
 hR2:Ag w2 (w.heap.size+1) [.int .i64 0,.int .i64 0,.int .i64 0,.string ⟨#[]⟩,.slice none 0 0] 31
 hC2:Ag w2 w.heap.size [.slice v1 sc.vars.length v2,.slice a1 sc.arrays.length a2,.slice f1 sc.funcs.length f2,.bool sc.free,.bool sc.loop] 62
 g0:0≤k
 g1:k<12
def GeG(d s:Nat)(raw:List Int)(sc:Sc)(v1:Option Addr)(v2:Nat)(a1:Option Addr)(a2:Nat)(f1:Option Addr)(f2:Nat)(k:Int)(w w2:World)(x:Ex ×Nat):Prop:=
 ∀q4 q5 q11 q12 q13 q14 q15 q16 q17 q18 q19 q20 q21 q22 q23 q24 q25 q26 q27 q28 q29 q30 q31 q32 q33 q34 q35 q36 q37 q38 q39 q40 q41 q42 q43 q44 q45 q46 q47 q48 q49 q50 q51 q52 q53 q54 q55 q56 q57 q58 q59 q60 q61 q62 q63 q64 q65 q66 q67 q68 q69 q70 q71 q72 q73 q74 q75 q76 q77 q78 q79 q80 q81 q82 q83 q84 q85 q86 q87 q88 q89 q90 q91 q92 q93 q94 q95 q96 q97 q98 q99 q100 q101 q102 q103 q104 q105 q106 q107 q108 q109 q110 q111 q112 q113 q114 q115 q116 q117 q118 q119 q120 q121 q122 q123 q124 q125 q126 q127 q128 q129 q130 q131 q132 q133 q134 q135 q136 q137 q138 q139 q140 q141 q142 q143 q144 q145 q146 q147 q148 q149 q150:Value,Code.wp Zb geCode (bodyPost Zb Tryz.f27 (Do w s raw x)) ⟨[scV sc (.slice v1 sc.vars.length v2) (.slice a1 sc.arrays.length a2) (.slice f1 sc.funcs.length f2),.pointer (some ⟨s,0,none⟩),.int .i64 d,.pointer (some ⟨w.heap.size,0,none⟩),q4,q5,.pointer (some ⟨w.heap.size+1,0,none⟩),.int .i64 k,.bool sc.hasVars,.bool sc.hasArrays,.bool sc.hasFuncs,q11,q12,q13,q14,q15,q16,q17,q18,q19,q20,q21,q22,q23,q24,q25,q26,q27,q28,q29,q30,q31,q32,q33,q34,q35,q36,q37,q38,q39,q40,q41,q42,q43,q44,q45,q46,q47,q48,q49,q50,q51,q52,q53,q54,q55,q56,q57,q58,q59,q60,q61,q62,q63,q64,q65,q66,q67,q68,q69,q70,q71,q72,q73,q74,q75,q76,q77,q78,q79,q80,q81,q82,q83,q84,q85,q86,q87,q88,q89,q90,q91,q92,q93,q94,q95,q96,q97,q98,q99,q100,q101,q102,q103,q104,q105,q106,q107,q108,q109,q110,q111,q112,q113,q114,q115,q116,q117,q118,q119,q120,q121,q122,q123,q124,q125,q126,q127,q128,q129,q130,q131,q132,q133,q134,q135,q136,q137,q138,q139,q140,q141,q142,q143,q144,q145,q146,q147,q148,q149,q150].toArray,[]⟩ w2
theorem ge_pre {d s:Nat}(hd1:d≤1000){raw:List Int}{a:Nat}{sc:Sc}{v1:Option Addr}{v2:Nat}{a1:Option Addr}{a2:Nat}{f1:Option Addr}{f2:Nat}{w:World}(hs:An w s raw a)(hsc:Ed s w sc (.slice v1 sc.vars.length v2) (.slice a1 sc.arrays.length a2) (.slice f1 sc.funcs.length f2)){k:Int}(hkk:gK raw d a=k){x:Ex ×Nat}(H:∀w2,GeH d s raw sc v1 v2 a1 a2 f1 f2 (Ad raw a 12).2 k w w2→GeG d s raw sc v1 v2 a1 a2 f1 f2 k w w2 x):
  Calls Zb 27 #[scV sc (.slice v1 sc.vars.length v2) (.slice a1 sc.arrays.length a2) (.slice f1 sc.funcs.length f2),.pointer (some ⟨s,0,none⟩),.int .i64 d] w (Do w s raw x):=by
 have lv:=hsc.v1;have la:=hsc.a1;have lf:=hsc.f1;have hsl:=hs.lt;have HK:Hid (∀w1,An w1 s raw a→Calls Zb 24 #[.pointer (some ⟨s,0,none⟩),.int .i64 12] w1 (Cw w1 s raw (.int .i64 (Ad raw a 12).1) (Ad raw a 12).2)):=fun w1 h1=>Bq s raw a 12 w1 h1 (by decide) (by decide)
 have hr:=Af raw a 12 (by decide);have hr0:0≤k∧k<12:=by rw[←hkk];unfold gK;split<;>omega
 have hcase:(d<2∧(Ad raw a 12).1 % 4=k)∨(2≤d∧(Ad raw a 12).1=k):=by
  unfold gK at hkk;split at hkk
  ·exact .inl ⟨by omega,hkk⟩
  ·exact .inr ⟨by omega,hkk⟩
 clear hkk;have HH:=Za H;clear H;generalize Ad raw a 12=g at*;obtain⟨g,ga⟩:=g;obtain⟨g0,g1⟩:=hr0;dsimp only at hr hcase HK HH;have hb1:Below w.heap.size w ((w.alloc (.cells #[.slice v1 sc.vars.length v2,.slice a1 sc.arrays.length a2,.slice f1 sc.funcs.length f2,.bool sc.free,.bool sc.loop] 62)).alloc (.cells #[.int .i64 0,.int .i64 0,.int .i64 0,.string ⟨#[]⟩,.slice none 0 0] 31)):=(bA).alloc (by simp) _;have hr1:=Ag.new (w.alloc (.cells #[.slice v1 sc.vars.length v2,.slice a1 sc.arrays.length a2,.slice f1 sc.funcs.length f2,.bool sc.free,.bool sc.loop] 62)) [.int .i64 0,.int .i64 0,.int .i64 0,.string ⟨#[]⟩,.slice none 0 0] 31;rw[show(w.alloc (.cells #[.slice v1 sc.vars.length v2,.slice a1 sc.arrays.length a2,.slice f1 sc.funcs.length f2,.bool sc.free,.bool sc.loop] 62)).heap.size=w.heap.size+1 by simp]at hr1;have HC:=Za ((Ag.new w [.slice v1 sc.vars.length v2,.slice a1 sc.arrays.length a2,.slice f1 sc.funcs.length f2,.bool sc.free,.bool sc.loop] 62).alloc (.cells #[.int .i64 0,.int .i64 0,.int .i64 0,.string ⟨#[]⟩,.slice none 0 0] 31));have HR:=Za hr1;have HS1:=Za (hs.old hb1);have HF1:Hid (SFr s w ((w.alloc (.cells #[.slice v1 sc.vars.length v2,.slice a1 sc.arrays.length a2,.slice f1 sc.funcs.length f2,.bool sc.free,.bool sc.loop] 62)).alloc (.cells #[.int .i64 0,.int .i64 0,.int .i64 0,.string ⟨#[]⟩,.slice none 0 0] 31))):=Zc hb1;have HSC:=Za hsc;have HZ:Hid (w.heap.size+1≠s):=by show _≠_;omega
 have HY:Hid (w.heap.size≠s):=by show _≠_;omega
 have hsx:s<w.heap.size+1:=by omega
 have hge:w.heap.size≤w.heap.size+1:=by omega
 have hd0:(0:Int)≤(d:Int):=by omega
 have hdM:(d:Int)≤1000:=by omega
 have hva:Hid (sc.hasVars=(decide (0<sc.vars.length)||sc.free)):=Rg sc;have haa:Hid (sc.hasArrays=(decide (0<sc.arrays.length)||sc.free)):=Nt sc;have hfa:Hid (sc.hasFuncs=(decide (0<sc.funcs.length)||sc.free)):=Pj sc;clear hb1 hr1 hs hsc;rcases hcase with⟨hd,hkk⟩|⟨hd,hkk⟩
 ·have hdI:(d:Int)<2:=by omega
  have HKK:=Za hkk;clear hkk;go_enter func27,ntmps27
  go_wp2_with fail
  refine(HK.o _ HS1.o).mono ?_;rintro r w2 ⟨rfl,hs2,hf2⟩;have HS2:=Za hs2;have HF2:=Za (HF1.o.trans hf2);have HR2:=Za (HR.o.sfr hf2 HZ.o);have HC2:=Za (HC.o.sfr hf2 HY.o);clear hs2 hf2 HS1 HF1 HR HC HK;have b0:=HC2.o.at 0 _ rfl;have b1:=HC2.o.at 1 _ rfl;have b2:=HC2.o.at 2 _ rfl;have b3:=HC2.o.at 3 _ rfl;have b4:=HC2.o.at 4 _ rfl;go_upto_region 4 with(fail)
  go_cut [8] (fun q wx=>q=.bool sc.hasVars∧w2=wx)
  case first=>
   by_cases hlv:0<sc.vars.length
   ·have hlv':(0:Int)<(sc.vars.length:Int):=by omega
    go_wp2_with fail
    go_meet;exact⟨by rw[hva.out,decide_eq_true hlv];rfl,rfl⟩
   ·have hlv':(sc.vars.length:Int)≤0:=by omega
    go_wp2_with fail
    go_meet;exact⟨by rw[hva.out,decide_eq_false hlv];rfl,rfl⟩
  case rest=>
  obtain⟨rfl,rfl⟩:=hcut;go_upto_region 5 with(fail)
  go_cut [9] (fun q wx=>q=.bool sc.hasArrays∧w2=wx)
  case first=>
   by_cases hlv:0<sc.arrays.length
   ·have hlv':(0:Int)<(sc.arrays.length:Int):=by omega
    go_wp2_with fail
    go_meet;exact⟨by rw[haa.out,decide_eq_true hlv];rfl,rfl⟩
   ·have hlv':(sc.arrays.length:Int)≤0:=by omega
    go_wp2_with fail
    go_meet;exact⟨by rw[haa.out,decide_eq_false hlv];rfl,rfl⟩
  case rest=>
  obtain⟨rfl,rfl⟩:=hcut;go_upto_region 6 with(fail)
  go_cut [10] (fun q wx=>q=.bool sc.hasFuncs∧w2=wx)
  case first=>
   by_cases hlv:0<sc.funcs.length
   ·have hlv':(0:Int)<(sc.funcs.length:Int):=by omega
    go_wp2_with fail
    go_meet;exact⟨by rw[hfa.out,decide_eq_true hlv];rfl,rfl⟩
   ·have hlv':(sc.funcs.length:Int)≤0:=by omega
    go_wp2_with fail
    go_meet;exact⟨by rw[hfa.out,decide_eq_false hlv];rfl,rfl⟩
  case rest=>
  obtain⟨rfl,rfl⟩:=hcut;rw[HKK.o];apply_assumption
  refine HH.o w2 ⟨hd1,lv,la,lf,hsl,HSC.o,HS2.o,HF2.o,HR2.o,HC2.o,g0,g1⟩ _ _ _ _ _ _ _ _ _ _ _ _ _ _ _ _ _ _ _ _ _ _ _ _ _ _ _ _ _ _ _ _ _ _ _ _ _ _ _ _ _ _ _ _ _ _ _ _ _ _ _ _ _ _ _ _ _ _ _ _ _ _ _ _ _ _ _ _ _ _ _ _ _ _ _ _ _ _ _ _ _ _ _ _ _ _ _ _ _ _ _ _ _ _ _ _ _ _ _ _ _ _ _ _ _ _ _ _ _ _ _ _ _ _ _ _ _ _ _ _ _ _ _ _ _ _ _ _ _ _ _ _ _ _ _ _ _ _ _ _ _ _
 ·have hdI:(2:Int)≤(d:Int):=by omega
  subst hkk;go_enter func27,ntmps27
  go_wp2_with fail
  refine(HK.o _ HS1.o).mono ?_;rintro r w2 ⟨rfl,hs2,hf2⟩;have HS2:=Za hs2;have HF2:=Za (HF1.o.trans hf2);have HR2:=Za (HR.o.sfr hf2 HZ.o);have HC2:=Za (HC.o.sfr hf2 HY.o);clear hs2 hf2 HS1 HF1 HR HC HK;have b0:=HC2.o.at 0 _ rfl;have b1:=HC2.o.at 1 _ rfl;have b2:=HC2.o.at 2 _ rfl;have b3:=HC2.o.at 3 _ rfl;have b4:=HC2.o.at 4 _ rfl;go_upto_region 4 with(fail)
  go_cut [8] (fun q wx=>q=.bool sc.hasVars∧w2=wx)
  case first=>
   by_cases hlv:0<sc.vars.length
   ·have hlv':(0:Int)<(sc.vars.length:Int):=by omega
    go_wp2_with fail
    go_meet;exact⟨by rw[hva.out,decide_eq_true hlv];rfl,rfl⟩
   ·have hlv':(sc.vars.length:Int)≤0:=by omega
    go_wp2_with fail
    go_meet;exact⟨by rw[hva.out,decide_eq_false hlv];rfl,rfl⟩
  case rest=>
  obtain⟨rfl,rfl⟩:=hcut;go_upto_region 5 with(fail)
  go_cut [9] (fun q wx=>q=.bool sc.hasArrays∧w2=wx)
  case first=>
   by_cases hlv:0<sc.arrays.length
   ·have hlv':(0:Int)<(sc.arrays.length:Int):=by omega
    go_wp2_with fail
    go_meet;exact⟨by rw[haa.out,decide_eq_true hlv];rfl,rfl⟩
   ·have hlv':(sc.arrays.length:Int)≤0:=by omega
    go_wp2_with fail
    go_meet;exact⟨by rw[haa.out,decide_eq_false hlv];rfl,rfl⟩
  case rest=>
  obtain⟨rfl,rfl⟩:=hcut;go_upto_region 6 with(fail)
  go_cut [10] (fun q wx=>q=.bool sc.hasFuncs∧w2=wx)
  case first=>
   by_cases hlv:0<sc.funcs.length
   ·have hlv':(0:Int)<(sc.funcs.length:Int):=by omega
    go_wp2_with fail
    go_meet;exact⟨by rw[hfa.out,decide_eq_true hlv];rfl,rfl⟩
   ·have hlv':(sc.funcs.length:Int)≤0:=by omega
    go_wp2_with fail
    go_meet;exact⟨by rw[hfa.out,decide_eq_false hlv];rfl,rfl⟩
  case rest=>
  obtain⟨rfl,rfl⟩:=hcut;apply_assumption
  refine HH.o w2 ⟨hd1,lv,la,lf,hsl,HSC.o,HS2.o,HF2.o,HR2.o,HC2.o,g0,g1⟩ _ _ _ _ _ _ _ _ _ _ _ _ _ _ _ _ _ _ _ _ _ _ _ _ _ _ _ _ _ _ _ _ _ _ _ _ _ _ _ _ _ _ _ _ _ _ _ _ _ _ _ _ _ _ _ _ _ _ _ _ _ _ _ _ _ _ _ _ _ _ _ _ _ _ _ _ _ _ _ _ _ _ _ _ _ _ _ _ _ _ _ _ _ _ _ _ _ _ _ _ _ _ _ _ _ _ _ _ _ _ _ _ _ _ _ _ _ _ _ _ _ _ _ _ _ _ _ _ _ _ _ _ _ _ _ _ _ _ _ _ _ _
theorem gG {d s:Nat}{raw:List Int}{sc:Sc}{v1:Option Addr}{v2:Nat}{a1:Option Addr}{a2:Nat}{f1:Option Addr}{f2:Nat}{ga:Nat}{k:Int}{w w2:World}(h:GeH d s raw sc v1 v2 a1 a2 f1 f2 ga k w w2)(hk:k=1∨k=2)(hv:sc.hasVars=true):GeG d s raw sc v1 v2 a1 a2 f1 f2 k w w2 (Dm sc raw (Am sc raw (d-1)) k ga):=by
 obtain⟨hd1,lv,la,lf,hsl,hsc,hS2,hF2,hR2,hC2,g0,g1⟩:=h;have HSC:=Za hsc;have HS2:=Za hS2;have HF2:=Za hF2;have HR2:=Za hR2;have HC2:=Za hC2;have HZ:Hid (w.heap.size+1≠s):=by show _≠_;omega
 have HY:Hid (w.heap.size≠s):=by show _≠_;omega
 have hsx:s<w.heap.size+1:=by omega
 have hge:w.heap.size≤w.heap.size+1:=by omega
 have hd0:(0:Int)≤(d:Int):=by omega
 have hdM:(d:Int)≤1000:=by omega
 clear hsc hS2 hF2 hR2 hC2;have E:Dm sc raw (Am sc raw (d-1)) k ga=(.mk 2 0 0 (Fm sc.free sc.vars raw ga).1 [],(Fm sc.free sc.vars raw ga).2):=by unfold Dm;rw[if_pos ⟨hk,hv⟩]
 rw[E];clear E;have HNM:Hid (∀w1,An w1 s raw ga→Aq (· ≠s) w1 sc.vars (.slice v1 sc.vars.length v2)→Calls Zb 61 #[scV sc (.slice v1 sc.vars.length v2) (.slice a1 sc.arrays.length a2) (.slice f1 sc.funcs.length f2),.pointer (some ⟨s,0,none⟩),.slice v1 sc.vars.length v2] w1 (Cw w1 s raw (.string (Aa (Fm sc.free sc.vars raw ga).1)) (Fm sc.free sc.vars raw ga).2)):=fun w1 h1 h2=>To s raw ga sc _ _ _ _ sc.vars w1 h1 h2 lv
 generalize Fm sc.free sc.vars raw ga=n at*;unfold GeG;intros
 conv=>arg 2;whnf
 rcases hk with rfl|rfl
 all_goals
  have b0:=HC2.o.at 0 _ rfl;have b1:=HC2.o.at 1 _ rfl;have b2:=HC2.o.at 2 _ rfl;have b3:=HC2.o.at 3 _ rfl;have b4:=HC2.o.at 4 _ rfl;go_wp2_with fail
  refine(HNM.o _ HS2.o (HSC.o.vars.keep HF2.o.keeps)).mono ?_;rintro r w3 ⟨rfl,hs3,hf3⟩;have HS3:=Za hs3;have HF3:=Za (HF2.o.trans hf3);have HR3:=Za (HR2.o.sfr hf3 HZ.o);have HC3:=Za (HC2.o.sfr hf3 HY.o);clear hs3 hf3;have x0:=HR3.o.at 0 _ rfl;have x1:=HR3.o.at 1 _ rfl;have x2:=HR3.o.at 2 _ rfl;have x3:=HR3.o.at 3 _ rfl;have x4:=HR3.o.at 4 _ rfl;have fx0:=HR3.o.fz 0;have fx1:=HR3.o.fz 1;have fx2:=HR3.o.fz 2;have fx3:=HR3.o.fz 3;have fx4:=HR3.o.fz 4;have HRE:=Za (((((HR3.o.set 0 (.int .i64 2)).set 1 (.int .i64 0)).set 2 (.int .i64 0)).set 3 (.string (Aa n.1))).set 4 (.slice none 0 0));have HSE:=Za (((((HS3.o.other hsx 0 (.int .i64 2)).other hsx 1 (.int .i64 0)).other hsx 2 (.int .i64 0)).other hsx 3 (.string (Aa n.1))).other hsx 4 (.slice none 0 0));have HFE:=Za (((((HF3.o.setNew hge 0 (.int .i64 2)).setNew hge 1 (.int .i64 0)).setNew hge 2 (.int .i64 0)).setNew hge 3 (.string (Aa n.1))).setNew hge 4 (.slice none 0 0));go_wp2_with fail
  have d0:=HRE.o.at 0 _ rfl;have d1:=HRE.o.at 1 _ rfl;have d2:=HRE.o.at 2 _ rfl;have d3:=HRE.o.at 3 _ rfl;have d4:=HRE.o.at 4 _ rfl;exact bodyPost_ret (v:=.agg #[.int .i64 2,.int .i64 0,.int .i64 0,.string (Aa n.1),.slice none 0 0]) (by simp [results,results27,go_sem,d0,d1,d2,d3,d4]) rfl ⟨.slice none 0 0,rfl,HSE.o,HFE.o,Ai.zero,(Cx ⟨by show _≤(0:Int);decide,by show(0:Int)≤_;decide⟩)⟩
theorem ge_read {d s:Nat}{raw:List Int}{sc:Sc}{v1:Option Addr}{v2:Nat}{a1:Option Addr}{a2:Nat}{f1:Option Addr}{f2:Nat}{ga:Nat}{k:Int}{w w2:World}(h:GeH d s raw sc v1 v2 a1 a2 f1 f2 ga k w w2)(hk:k=3)(hq:(Ad raw ga 3).1=2):GeG d s raw sc v1 v2 a1 a2 f1 f2 k w w2 (Dm sc raw (Am sc raw (d-1)) k ga):=by
 obtain⟨hd1,lv,la,lf,hsl,hsc,hS2,hF2,hR2,hC2,g0,g1⟩:=h;have HSC:=Za hsc;have HS2:=Za hS2;have HF2:=Za hF2;have HR2:=Za hR2;have HC2:=Za hC2;have HZ:Hid (w.heap.size+1≠s):=by show _≠_;omega
 have HY:Hid (w.heap.size≠s):=by show _≠_;omega
 have hsx:s<w.heap.size+1:=by omega
 have hge:w.heap.size≤w.heap.size+1:=by omega
 have hd0:(0:Int)≤(d:Int):=by omega
 have hdM:(d:Int)≤1000:=by omega
 clear hsc hS2 hF2 hR2 hC2;have E:Dm sc raw (Am sc raw (d-1)) k ga=(.mk 7 0 0 [] [],(Ad raw ga 3).2):=by unfold Dm;rw[if_neg (by omega),if_pos ⟨hk,hq⟩]
 rw[E];clear E;have HN:Hid (∀w1,An w1 s raw ga→Calls Zb 24 #[.pointer (some ⟨s,0,none⟩),.int .i64 3] w1 (Cw w1 s raw (.int .i64 (Ad raw ga 3).1) (Ad raw ga 3).2)):=fun w1 h1=>Bq s raw ga 3 w1 h1 (by decide) (by decide)
 have qr:=Af raw ga 3 (by decide);generalize Ad raw ga 3=q at*;obtain⟨q,qa⟩:=q;dsimp only at*;subst hq;unfold GeG;intros
 conv=>arg 2;whnf
 subst hk;go_wp2_with fail
 refine(HN.o _ HS2.o).mono ?_;rintro r w3 ⟨rfl,hs3,hf3⟩;have HS3:=Za hs3;have HF3:=Za (HF2.o.trans hf3);have HR3:=Za (HR2.o.sfr hf3 HZ.o);have HC3:=Za (HC2.o.sfr hf3 HY.o);clear hs3 hf3;have x0:=HR3.o.at 0 _ rfl;have x1:=HR3.o.at 1 _ rfl;have x2:=HR3.o.at 2 _ rfl;have x3:=HR3.o.at 3 _ rfl;have x4:=HR3.o.at 4 _ rfl;have fx0:=HR3.o.fz 0;have fx1:=HR3.o.fz 1;have fx2:=HR3.o.fz 2;have fx3:=HR3.o.fz 3;have fx4:=HR3.o.fz 4;have HRE:=Za (((((HR3.o.set 0 (.int .i64 7)).set 1 (.int .i64 0)).set 2 (.int .i64 0)).set 3 (.string ⟨#[]⟩)).set 4 (.slice none 0 0));have HSE:=Za (((((HS3.o.other hsx 0 (.int .i64 7)).other hsx 1 (.int .i64 0)).other hsx 2 (.int .i64 0)).other hsx 3 (.string ⟨#[]⟩)).other hsx 4 (.slice none 0 0));have HFE:=Za (((((HF3.o.setNew hge 0 (.int .i64 7)).setNew hge 1 (.int .i64 0)).setNew hge 2 (.int .i64 0)).setNew hge 3 (.string ⟨#[]⟩)).setNew hge 4 (.slice none 0 0));go_wp2_with fail
 have d0:=HRE.o.at 0 _ rfl;have d1:=HRE.o.at 1 _ rfl;have d2:=HRE.o.at 2 _ rfl;have d3:=HRE.o.at 3 _ rfl;have d4:=HRE.o.at 4 _ rfl;exact bodyPost_ret (v:=.agg #[.int .i64 7,.int .i64 0,.int .i64 0,.string ⟨#[]⟩,.slice none 0 0]) (by simp [results,results27,go_sem,d0,d1,d2,d3,d4]) rfl ⟨.slice none 0 0,rfl,HSE.o,HFE.o,Ai.zero,(Cx ⟨by show _≤(0:Int);decide,by show(0:Int)≤_;decide⟩)⟩
theorem ge_one {d s:Nat}{raw:List Int}{sc:Sc}{v1:Option Addr}{v2:Nat}{a1:Option Addr}{a2:Nat}{f1:Option Addr}{f2:Nat}{ga:Nat}{k:Int}{w w2:World}(hd:2≤d)(h:GeH d s raw sc v1 v2 a1 a2 f1 f2 ga k w w2)(hk:k=4)(ih:Hb (d-1)):GeG d s raw sc v1 v2 a1 a2 f1 f2 k w w2 (Dm sc raw (Am sc raw (d-1)) k ga):=by
 obtain⟨hd1,lv,la,lf,hsl,hsc,hS2,hF2,hR2,hC2,g0,g1⟩:=h;have HSC:=Za hsc;have HS2:=Za hS2;have HF2:=Za hF2;have HR2:=Za hR2;have HC2:=Za hC2;have HZ:Hid (w.heap.size+1≠s):=by show _≠_;omega
 have HY:Hid (w.heap.size≠s):=by show _≠_;omega
 have hsx:s<w.heap.size+1:=by omega
 have hge:w.heap.size≤w.heap.size+1:=by omega
 have hd0:(0:Int)≤(d:Int):=by omega
 have hdI:(2:Int)≤(d:Int):=by omega
 have hdM:(d:Int)≤1000:=by omega
 clear hsc hS2 hF2 hR2 hC2;have E:Dm sc raw (Am sc raw (d-1)) k ga=(.mk 3 (17+(Ad raw ga 3).1) 0 [] [(Am sc raw (d-1) (Ad raw ga 3).2).1],(Am sc raw (d-1) (Ad raw ga 3).2).2):=by unfold Dm;rw[if_neg (by omega),if_neg (by omega),if_neg (by omega),if_pos hk]
 rw[E];clear E;have HN:Hid (∀w1,An w1 s raw ga→Calls Zb 24 #[.pointer (some ⟨s,0,none⟩),.int .i64 3] w1 (Cw w1 s raw (.int .i64 (Ad raw ga 3).1) (Ad raw ga 3).2)):=fun w1 h1=>Bq s raw ga 3 w1 h1 (by decide) (by decide)
 have qr:=Af raw ga 3 (by decide);generalize Ad raw ga 3=q at*;obtain⟨q,qa⟩:=q;dsimp only at*;have HDM:Hid (((d-1:Nat):Int)=(d:Int)-1):=by show _=_;omega
 have HIH:Hid (∀w1 b,An w1 s raw b→Ed s w1 sc (.slice v1 sc.vars.length v2) (.slice a1 sc.arrays.length a2) (.slice f1 sc.funcs.length f2)→Calls Zb 27 #[scV sc (.slice v1 sc.vars.length v2) (.slice a1 sc.arrays.length a2) (.slice f1 sc.funcs.length f2),.pointer (some ⟨s,0,none⟩),.int .i64 ((d:Int)-1)] w1 (Do w1 s raw (Am sc raw (d-1) b))):=fun w1 b h1 h2=>by have q:=ih s raw b sc _ _ _ w1 h1 h2;rw[HDM.o]at q;exact q
 obtain⟨q0,q1⟩:=qr;unfold GeG;intros
 conv=>arg 2;whnf
 subst hk;have b0:=HC2.o.at 0 _ rfl;have b1:=HC2.o.at 1 _ rfl;have b2:=HC2.o.at 2 _ rfl;have b3:=HC2.o.at 3 _ rfl;have b4:=HC2.o.at 4 _ rfl;go_wp2_with fail
 refine(HN.o _ HS2.o).mono ?_;rintro r w3 ⟨rfl,hs3,hf3⟩;have HS3:=Za hs3;have HF3:=Za (HF2.o.trans hf3);have HR3:=Za (HR2.o.sfr hf3 HZ.o);have HC3:=Za (HC2.o.sfr hf3 HY.o);clear hs3 hf3;clear b0 b1 b2 b3 b4;have b0:=HC3.o.at 0 _ rfl;have b1:=HC3.o.at 1 _ rfl;have b2:=HC3.o.at 2 _ rfl;have b3:=HC3.o.at 3 _ rfl;have b4:=HC3.o.at 4 _ rfl;go_wp2_with fail
 refine(HIH.o _ qa HS3.o (HSC.o.sfr HF3.o)).mono ?_;generalize Am sc raw (d-1) qa=x at*;obtain⟨x,xa⟩:=x;rintro r w4 ⟨xv,rfl,hs4,hf4,hx4,hn4⟩;obtain⟨xs,xc,rfl⟩:=hx4.shape;dsimp only at hs4 hx4 hn4 ⊢;have HS4:=Za hs4;have HF4:=Za (HF3.o.trans hf4);have HR4:=Za (HR3.o.sfr hf4 HZ.o);have HC4:=Za (HC3.o.sfr hf4 HY.o);have hg4:w.heap.size+2≤w3.heap.size:=by have:=HR3.o.lt;omega
 have Hx:=Za (hx4.mono (D':=(w.heap.size+2≤ ·)) (fun b h=>Nat.le_trans hg4 h));have HNx:=Za hn4;have HFJ4:=Za hf4;clear hs4 hf4 hx4 hn4;clear b0 b1 b2 b3 b4;have hB:w.heap.size+1<w.heap.size+2:=by omega
 have hw5:Below w4.heap.size w4 (w4.alloc (.cells #[.int .i64 x.kind,.int .i64 x.op,.int .i64 x.n,.string (Aa x.name),.slice xs x.args.length xc] 31)):=bA;have HS5:=Za (HS4.o.old hw5);have HF5:=Za (HF4.o.trans (Zc hw5));have HR5:=Za (HR4.o.old hw5);have HC5:=Za (HC4.o.old hw5);have HX5:Hid (Ai (w.heap.size+2≤ ·) (w4.alloc (.cells #[.int .i64 x.kind,.int .i64 x.op,.int .i64 x.n,.string (Aa x.name),.slice xs x.args.length xc] 31)) [x] (.slice (some ⟨w4.heap.size,0,none⟩) 1 1)):=.one x (.slice xs x.args.length xc) (by show _≤_;have:=HR4.o.lt;omega) (Ca.new w4 (Au x (.slice xs x.args.length xc)) 31) (Hx.out.old hw5) HNx.o;clear hw5;have HW5:Hid True:=trivial;have HS5':=HS5;have x0:=HR5.o.at 0 _ rfl;have x1:=HR5.o.at 1 _ rfl;have x2:=HR5.o.at 2 _ rfl;have x3:=HR5.o.at 3 _ rfl;have x4:=HR5.o.at 4 _ rfl;have fx0:=HR5.o.fz 0;have fx1:=HR5.o.fz 1;have fx2:=HR5.o.fz 2;have fx3:=HR5.o.fz 3;have fx4:=HR5.o.fz 4;have HRE:=Za (((((HR5.o.set 0 (.int .i64 3)).set 1 (.int .i64 (17+q))).set 2 (.int .i64 0)).set 3 (.string ⟨#[]⟩)).set 4 (.slice (some ⟨w4.heap.size,0,none⟩) 1 1));have HSE:=Za (((((HS5.o.other hsx 0 (.int .i64 3)).other hsx 1 (.int .i64 (17+q))).other hsx 2 (.int .i64 0)).other hsx 3 (.string ⟨#[]⟩)).other hsx 4 (.slice (some ⟨w4.heap.size,0,none⟩) 1 1));have HFE:=Za (((((HF5.o.setNew hge 0 (.int .i64 3)).setNew hge 1 (.int .i64 (17+q))).setNew hge 2 (.int .i64 0)).setNew hge 3 (.string ⟨#[]⟩)).setNew hge 4 (.slice (some ⟨w4.heap.size,0,none⟩) 1 1))
 go_wp2_with fail
 have d0:=HRE.o.at 0 _ rfl;have d1:=HRE.o.at 1 _ rfl;have d2:=HRE.o.at 2 _ rfl;have d3:=HRE.o.at 3 _ rfl;have d4:=HRE.o.at 4 _ rfl;exact bodyPost_ret (v:=.agg #[.int .i64 3,.int .i64 (17+q),.int .i64 0,.string ⟨#[]⟩,.slice (some ⟨w4.heap.size,0,none⟩) 1 1]) (by simp [results,results27,go_sem,d0,d1,d2,d3,d4]) rfl ⟨.slice (some ⟨w4.heap.size,0,none⟩) 1 1,rfl,HSE.o,HFE.o,((((((HX5.o.keep (Aw _ hB 0 _)).keep (Aw _ hB 1 _)).keep (Aw _ hB 2 _)).keep (Aw _ hB 3 _)).keep (Aw _ hB 4 _)).mono (fun b h=>(Nat.le_trans (by omega) h:w.heap.size≤b))),(Cx ⟨by show _≤(0:Int);decide,by show(0:Int)≤_;decide⟩)⟩
@[go_sem] theorem field_ar0 (a b:Value) (w:World):(Instr.field 66 (.agg #[a,b]) 0).run Zb w=.ok a w:=by kernel_rfl
theorem gJ {d s:Nat}{raw:List Int}{sc:Sc}{v1:Option Addr}{v2:Nat}{a1:Option Addr}{a2:Nat}{f1:Option Addr}{f2:Nat}{ga:Nat}{k:Int}{w w2:World}(hd:2≤d)(h:GeH d s raw sc v1 v2 a1 a2 f1 f2 ga k w w2)(hk:k=5)(hA:sc.hasArrays=true)(ih:Hb (d-1)):GeG d s raw sc v1 v2 a1 a2 f1 f2 k w w2 (Dm sc raw (Am sc raw (d-1)) k ga):=by
 obtain⟨hd1,lv,la,lf,hsl,hsc,hS2,hF2,hR2,hC2,g0,g1⟩:=h;have HSC:=Za hsc;have HS2:=Za hS2;have HF2:=Za hF2;have HR2:=Za hR2;have HC2:=Za hC2;have HZ:Hid (w.heap.size+1≠s):=by show _≠_;omega
 have HY:Hid (w.heap.size≠s):=by show _≠_;omega
 have hsx:s<w.heap.size+1:=by omega
 have hge:w.heap.size≤w.heap.size+1:=by omega
 have hd0:(0:Int)≤(d:Int):=by omega
 have hdI:(2:Int)≤(d:Int):=by omega
 have hdM:(d:Int)≤1000:=by omega
 clear hsc hS2 hF2 hR2 hC2;have E:Dm sc raw (Am sc raw (d-1)) k ga=(.mk 6 0 0 (By sc.free sc.arrays raw ga).1.name [(Am sc raw (d-1) (By sc.free sc.arrays raw ga).2).1],(Am sc raw (d-1) (By sc.free sc.arrays raw ga).2).2):=by unfold Dm;rw[if_neg (by omega),if_neg (by omega),if_neg (by omega),if_neg (by omega),if_pos ⟨hk,hA⟩]
 rw[E];clear E;have HN:Hid (∀w1,An w1 s raw ga→Br (· ≠s) w1 sc.arrays (.slice a1 sc.arrays.length a2)→Calls Zb 28 #[scV sc (.slice v1 sc.vars.length v2) (.slice a1 sc.arrays.length a2) (.slice f1 sc.funcs.length f2),.pointer (some ⟨s,0,none⟩)] w1 (Cw w1 s raw (.agg #[.string (Aa (By sc.free sc.arrays raw ga).1.name),.int .i64 (By sc.free sc.arrays raw ga).1.size]) (By sc.free sc.arrays raw ga).2)):=fun w1 h1 h2=>Mm s raw ga sc _ _ _ w1 h1 h2 la
 generalize By sc.free sc.arrays raw ga=q at*;obtain⟨⟨qn,qz⟩,qa⟩:=q;dsimp only at*;have HDM:Hid (((d-1:Nat):Int)=(d:Int)-1):=by show _=_;omega
 have HIH:Hid (∀w1 b,An w1 s raw b→Ed s w1 sc (.slice v1 sc.vars.length v2) (.slice a1 sc.arrays.length a2) (.slice f1 sc.funcs.length f2)→Calls Zb 27 #[scV sc (.slice v1 sc.vars.length v2) (.slice a1 sc.arrays.length a2) (.slice f1 sc.funcs.length f2),.pointer (some ⟨s,0,none⟩),.int .i64 ((d:Int)-1)] w1 (Do w1 s raw (Am sc raw (d-1) b))):=fun w1 b h1 h2=>by have q:=ih s raw b sc _ _ _ w1 h1 h2;rw[HDM.o]at q;exact q
 unfold GeG;intros
 conv=>arg 2;whnf
 subst hk;have b0:=HC2.o.at 0 _ rfl;have b1:=HC2.o.at 1 _ rfl;have b2:=HC2.o.at 2 _ rfl;have b3:=HC2.o.at 3 _ rfl;have b4:=HC2.o.at 4 _ rfl;go_wp2_with fail
 refine(HN.o _ HS2.o (HSC.o.arrays.keep HF2.o.keeps)).mono ?_;rintro r w3 ⟨rfl,hs3,hf3⟩;have HS3:=Za hs3;have HF3:=Za (HF2.o.trans hf3);have HR3:=Za (HR2.o.sfr hf3 HZ.o);have HC3:=Za (HC2.o.sfr hf3 HY.o);clear hs3 hf3;clear b0 b1 b2 b3 b4;have b0:=HC3.o.at 0 _ rfl;have b1:=HC3.o.at 1 _ rfl;have b2:=HC3.o.at 2 _ rfl;have b3:=HC3.o.at 3 _ rfl;have b4:=HC3.o.at 4 _ rfl;go_wp2_with fail
 refine(HIH.o _ qa HS3.o (HSC.o.sfr HF3.o)).mono ?_;generalize Am sc raw (d-1) qa=x at*;obtain⟨x,xa⟩:=x;rintro r w4 ⟨xv,rfl,hs4,hf4,hx4,hn4⟩;obtain⟨xs,xc,rfl⟩:=hx4.shape;dsimp only at hs4 hx4 hn4 ⊢;have HS4:=Za hs4;have HF4:=Za (HF3.o.trans hf4);have HR4:=Za (HR3.o.sfr hf4 HZ.o);have HC4:=Za (HC3.o.sfr hf4 HY.o);have hg4:w.heap.size+2≤w3.heap.size:=by have:=HR3.o.lt;omega
 have Hx:=Za (hx4.mono (D':=(w.heap.size+2≤ ·)) (fun b h=>Nat.le_trans hg4 h));have HNx:=Za hn4;have HFJ4:=Za hf4;clear hs4 hf4 hx4 hn4;clear b0 b1 b2 b3 b4;have hB:w.heap.size+1<w.heap.size+2:=by omega
 have hw5:Below w4.heap.size w4 (w4.alloc (.cells #[.int .i64 x.kind,.int .i64 x.op,.int .i64 x.n,.string (Aa x.name),.slice xs x.args.length xc] 31)):=bA;have HS5:=Za (HS4.o.old hw5);have HF5:=Za (HF4.o.trans (Zc hw5));have HR5:=Za (HR4.o.old hw5);have HC5:=Za (HC4.o.old hw5);have HX5:Hid (Ai (w.heap.size+2≤ ·) (w4.alloc (.cells #[.int .i64 x.kind,.int .i64 x.op,.int .i64 x.n,.string (Aa x.name),.slice xs x.args.length xc] 31)) [x] (.slice (some ⟨w4.heap.size,0,none⟩) 1 1)):=.one x (.slice xs x.args.length xc) (by show _≤_;have:=HR4.o.lt;omega) (Ca.new w4 (Au x (.slice xs x.args.length xc)) 31) (Hx.out.old hw5) HNx.o;clear hw5;have x0:=HR5.o.at 0 _ rfl;have x1:=HR5.o.at 1 _ rfl;have x2:=HR5.o.at 2 _ rfl;have x3:=HR5.o.at 3 _ rfl;have x4:=HR5.o.at 4 _ rfl;have fx0:=HR5.o.fz 0;have fx1:=HR5.o.fz 1;have fx2:=HR5.o.fz 2;have fx3:=HR5.o.fz 3;have fx4:=HR5.o.fz 4;have HRE:=Za (((((HR5.o.set 0 (.int .i64 6)).set 1 (.int .i64 0)).set 2 (.int .i64 0)).set 3 (.string (Aa qn))).set 4 (.slice (some ⟨w4.heap.size,0,none⟩) 1 1));have HSE:=Za (((((HS5.o.other hsx 0 (.int .i64 6)).other hsx 1 (.int .i64 0)).other hsx 2 (.int .i64 0)).other hsx 3 (.string (Aa qn))).other hsx 4 (.slice (some ⟨w4.heap.size,0,none⟩) 1 1));have HFE:=Za (((((HF5.o.setNew hge 0 (.int .i64 6)).setNew hge 1 (.int .i64 0)).setNew hge 2 (.int .i64 0)).setNew hge 3 (.string (Aa qn))).setNew hge 4 (.slice (some ⟨w4.heap.size,0,none⟩) 1 1))
 go_wp2_with fail
 have d0:=HRE.o.at 0 _ rfl;have d1:=HRE.o.at 1 _ rfl;have d2:=HRE.o.at 2 _ rfl;have d3:=HRE.o.at 3 _ rfl;have d4:=HRE.o.at 4 _ rfl;exact bodyPost_ret (v:=.agg #[.int .i64 6,.int .i64 0,.int .i64 0,.string (Aa qn),.slice (some ⟨w4.heap.size,0,none⟩) 1 1]) (by simp [results,results27,go_sem,d0,d1,d2,d3,d4]) rfl ⟨.slice (some ⟨w4.heap.size,0,none⟩) 1 1,rfl,HSE.o,HFE.o,((((((HX5.o.keep (Aw _ hB 0 _)).keep (Aw _ hB 1 _)).keep (Aw _ hB 2 _)).keep (Aw _ hB 3 _)).keep (Aw _ hB 4 _)).mono (fun b h=>(Nat.le_trans (by omega) h:w.heap.size≤b))),(Cx ⟨by show _≤(0:Int);decide,by show(0:Int)≤_;decide⟩)⟩
end Go.Proofs.YtfhbinbjkpfedaaGreatDoor

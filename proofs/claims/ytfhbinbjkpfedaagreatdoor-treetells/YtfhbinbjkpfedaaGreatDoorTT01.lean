/-
  scope.expr: a raw expression: an array's word. Conditions: the source and the scope lie in memory as the types say.
-/
import Derived.Test.YtfhbinbjkpfedaaGreatDoorTT00
import Derived.IntWalk
set_option linter.unusedVariables false
set_option linter.unusedSimpArgs false
namespace Go.Proofs.YtfhbinbjkpfedaaGreatDoor
open Go.RowKit Go.Proofs.Tryz
set_option maxHeartbeats 20000000
set_option maxRecDepth 100000
open Go.Lib renaming hid→Za,cell_of_heap→Zi
open Go.Proofs.Tryz renaming prog→Zb
open List renaming all_eq_true→Zc,mem_singleton→Zd,mem_cons→Zg
open Nat renaming le_trans→Ze
open Below renaming heap_setCell→Zf
open World renaming setCell→Zh,block_lt_of_cell?→Zj
structure SFr (s:Nat)(w w':World):Prop where
 os:w'.os=w.os
 tape:w'.tape=w.tape
 output:w'.output=w.output
 size:w.heap.size≤w'.heap.size
 block:∀k,k<w.heap.size→k≠s→w'.heap[k]? =w.heap[k]?
theorem SFr.refl(s:Nat)(w:World):SFr s w w:=⟨rfl,rfl,rfl,Nat.le_refl _,fun _ _ _=>rfl⟩
theorem SFr.trans {s:Nat}{u v w:World}(h:SFr s u v)(k:SFr s v w):SFr s u w:=
 ⟨k.os.trans h.os,k.tape.trans h.tape,k.output.trans h.output,Ze h.size k.size,fun i hi hb=>(k.block i (Nat.lt_of_lt_of_le hi h.size) hb).trans (h.block i hi hb)⟩
theorem SFr.of_below {s:Nat}{w w':World}(h:Below w.heap.size w w'):SFr s w w':=⟨h.os,h.tape,h.output,h.size,fun k hk _=>h.block k hk⟩
theorem SFr.below {s:Nat}{w w':World}(h:SFr s w w')(hs:s≤w.heap.size):Below s w w':=
 ⟨h.os,h.tape,h.output,h.size,fun k hk=>h.block k (by omega) (by omega)⟩
theorem SFr.cell {s:Nat}{w w':World}(h:SFr s w w'){b off:Nat}{x:Value}(hb:b≠s)(hx:w.cell? ⟨b,off,none⟩=some x):w'.cell? ⟨b,off,none⟩=some x:=by
 rw[World.cell?_of_block (w:=w) (h.block b (Zj _ _ hx) hb)];exact hx
theorem SFr.keeps {s:Nat}{w w':World}(h:SFr s w w'):Fe (· ≠s) w w':=fun _ _ _ hD hx=>h.cell hD hx
theorem SFr.keepsD {s:Nat}{w w':World}(h:SFr s w w'){D:Nat→Prop}(hD:∀b,D b→b≠s):Fe D w w':=fun _ _ _ hd hx=>h.cell (hD _ hd) hx
theorem SFr.drewN {s n:Nat}{w w1:World}(h:SFr s w w1):SFr s w (w1.drewN n):=⟨h.os,h.tape,h.output,h.size,h.block⟩
def Al(w:World)(b:Nat)(cs:List Value)(T:TypeId):Prop:=w.heap[b]? =some (.cells cs.toArray T (0,0))
theorem Al.new(w:World)(cs:List Value)(T:TypeId):Al (w.alloc (.cells cs.toArray T)) w.heap.size cs T:=Array.getElem?_push_size
theorem Al.lt {w:World}{b:Nat}{cs:List Value}{T:TypeId}(h:Al w b cs T):b<w.heap.size:=by
 rcases Nat.lt_or_ge b w.heap.size with h'|h'
 ·exact h'
 ·unfold Al at h;simp [Array.getElem?_eq_none h']at h
theorem Al.at {w:World}{b:Nat}{cs:List Value}{T:TypeId}(h:Al w b cs T)(i:Nat)(v:Value)(hi:cs[i]? =some v):w.cell? ⟨b,i,none⟩=some v:=by
 rw[Zi h];simpa using hi
theorem Al.fz {w:World}{b:Nat}{cs:List Value}{T:TypeId}(h:Al w b cs T)(i:Nat):w.frozen? ⟨b,i,none⟩=false:=Lib.frozen_of_heap h i
theorem Al.old {w w':World}{b:Nat}{cs:List Value}{T:TypeId}(h:Al w b cs T)(hb:Below w.heap.size w w'):Al w' b cs T:=(hb.block b h.lt).trans h
theorem Al.alloc {w:World}{b:Nat}{cs:List Value}{T:TypeId}(h:Al w b cs T)(o:Obj):Al (w.alloc o) b cs T:=h.old (bA)
theorem Al.sfr {s:Nat}{w w':World}{b:Nat}{cs:List Value}{T:TypeId}(h:Al w b cs T)(hf:SFr s w w')(hb:b≠s):Al w' b cs T:=(hf.block b h.lt hb).trans h
theorem Al.set {w:World}{b:Nat}{cs:List Value}{T:TypeId}(h:Al w b cs T)(i:Nat)(v:Value):Al (w.setCell ⟨b,i,none⟩ v) b (cs.set i v) T:=by
 unfold Al at*;simp [Zh,Array.getElem?_modify,h]
theorem Al.other {w:World}{b:Nat}{cs:List Value}{T:TypeId}(h:Al w b cs T){k:Nat}(hk:b≠k)(i:Nat)(v:Value):Al (w.setCell ⟨k,i,none⟩ v) b cs T:=by
 unfold Al at*;rw[Zf _ _ _ _ hk];exact h
theorem Cq {D:Nat→Prop}(w:World){k:Nat}(hD:¬D k)(i:Nat)(v:Value):Fe D w (w.setCell ⟨k,i,none⟩ v):=fun b off x hb hx=>by
 rw[World.cell?_of_block (w:=w) (Zf _ _ _ _ (by rintro rfl;exact hD hb))];exact hx
theorem Pn(w:World){b c i j:Nat}{v:Value}(h:c≠b):(w.setCell ⟨b,i,none⟩ v).cell? ⟨c,j,none⟩=w.cell? ⟨c,j,none⟩:=
 World.cell?_of_block (w:=w) (Zf _ _ _ _ h)
theorem SFr.setNew {s:Nat}{w w1:World}(h:SFr s w w1){b:Nat}(hb:w.heap.size≤b)(i:Nat)(v:Value):SFr s w (w1.setCell ⟨b,i,none⟩ v):=
 ⟨h.os,h.tape,h.output,by simpa [Zh]using h.size,fun k hk hs=>(Zf _ _ _ _ (by show k≠b;omega)).trans (h.block k hk hs)⟩
theorem SFr.fresh {s:Nat}{w w':World}(h:SFr s w w'){B:Nat}(hB:s<B):Fe (B≤ ·) w w':=h.keepsD (fun b hb=>by show b≠s;have:B≤b:=hb;omega)
theorem Bi(w:World){B k:Nat}(hk:k<B)(i:Nat)(v:Value):Fe (B≤ ·) w (w.setCell ⟨k,i,none⟩ v):=Cq w (by omega) i v
def Gc(c n:Int):Int:=(if c<0 then -(c+1)else c) % n
theorem Kf(c n:Int)(h:0<n):0≤Gc c n∧Gc c n<n:=⟨Int.emod_nonneg _ (by omega),Int.emod_lt_of_pos _ h⟩
def Ad(raw:List Int)(a:Nat)(n:Int):Int ×Nat:=if raw.length≤a then(0,a)else(Gc (raw.getD a 0) n,a+1)
theorem Ak(raw:List Int)(a:Nat)(n:Int)(h:0<n):0≤(Ad raw a n).1∧(Ad raw a n).1<n:=by
 unfold Ad;split
 ·exact⟨Int.le_refl _,h⟩
 ·exact Kf _ _ h
def cL:List Bs:=[[],[49],[95],[90,57],[105,102],[120],[48],[97,97],[105,110,116,105,110,116],[113,55],[66],[48,48]]
def Hn(c:Int):Bs:=UInt8.ofNat (97+(Gc c 312 % 26).toNat)::cL.getD (Gc c 312 / 26).toNat []
theorem var_all:∀k:Fin 312,An (UInt8.ofNat (97+(k.val % 26))::cL.getD (k.val / 26) [])=true:=by decide+kernel
theorem Hu(c:Int):An (Hn c)=true:=by
 have h:=Kf c 312 (by decide);have q:=var_all ⟨(Gc c 312).toNat,by omega⟩;unfold Hn;have e1:(Gc c 312 % 26).toNat=(Gc c 312).toNat % 26:=by omega
 have e2:(Gc c 312 / 26).toNat=(Gc c 312).toNat / 26:=by omega
 rw[e1,e2];exact q
structure Sc where
 vars:List Bs
 arrays:List Ar
 funcs:List Fu
 free:Bool
 loop:Bool
def Gj(free:Bool)(l:List Bs)(raw:List Int)(a:Nat):Bs ×Nat:=
 if free||l.isEmpty then(Hn (Ad raw a 312).1,(Ad raw a 312).2)else(l.getD (Ad raw a l.length).1.toNat [],(Ad raw a l.length).2)
def Cr(free:Bool)(l:List Ar)(raw:List Int)(a:Nat):Ar ×Nat:=
 if free||l.isEmpty then(⟨Hn (Ad raw a 312).1,1+(Ad raw (Ad raw a 312).2 1000).1⟩,(Ad raw (Ad raw a 312).2 1000).2)else(Dj l (Ad raw a l.length).1.toNat,(Ad raw a l.length).2)
def Ei(n j:Int):Int:=
 if j=0 then 0 else if j=1 then 1 else if j=2 then 2 else if j=3 then 3 else if j=4 then n else if j=5 then n*n else if j=6 then 2 ^ (n % 63).toNat else 9223372036854775807
def Gf(g:Nat→Ex ×Nat):Nat→Nat→List Ex ×Nat
 |0,a=>([],a)
 |c+1,a=>((Gf g c a).1++[(g (Gf g c a).2).1],(g (Gf g c a).2).2)
def Gw(sc:Sc)(raw:List Int)(g:Nat→Ex ×Nat)(a:Nat):Ex ×Nat:=
 if sc.free||sc.funcs.isEmpty then
  let r:=Ad raw a 312;let q:=Ad raw r.2 7;let m:=Gf g q.1.toNat q.2
  (.mk 5 0 0 (Hn r.1) m.1,m.2)
 else
  let r:=Ad raw a sc.funcs.length;let f:=Bc sc.funcs r.1.toNat;let m:=Gf g f.params.length r.2
  (.mk 5 0 0 f.name m.1,m.2)
def Sc.hasVars(sc:Sc):Bool:= !sc.vars.isEmpty||sc.free
def Sc.hasArrays(sc:Sc):Bool:= !sc.arrays.isEmpty||sc.free
def Sc.hasFuncs(sc:Sc):Bool:= !sc.funcs.isEmpty||sc.free
def gK(raw:List Int)(d a:Nat):Int:=if d<2 then(Ad raw a 12).1 % 4 else(Ad raw a 12).1
def Eg(sc:Sc)(raw:List Int)(g:Nat→Ex ×Nat)(k:Int)(a:Nat):Ex ×Nat:=
 if(k=1∨k=2)∧sc.hasVars=true then
  let n:=Gj sc.free sc.vars raw a
  (.mk 2 0 0 n.1 [],n.2)
 else if k=3∧(Ad raw a 3).1=2 then(.mk 7 0 0 [] [],(Ad raw a 3).2)
 else if k<4 then
  let b:=if k=3 then(Ad raw a 3).2 else a
  let n:=Ad raw b 1000;let j:=Ad raw n.2 8
  (.mk 1 0 (Ei n.1 j.1) [] [],j.2)
 else if k=4 then
  let o:=Ad raw a 3;let x:=g o.2
  (.mk 3 (17+o.1) 0 [] [x.1],x.2)
 else if k=5∧sc.hasArrays=true then
  let n:=Cr sc.free sc.arrays raw a;let x:=g n.2
  (.mk 6 0 0 n.1.name [x.1],x.2)
 else if k=6∧sc.hasFuncs=true then Gw sc raw g a
 else
  let o:=Ad raw a 16;let x:=g o.2;let y:=g x.2
  (.mk 4 (1+o.1) 0 [] [x.1,y.1],y.2)
def Pg(sc:Sc)(raw:List Int)(d:Nat)(g:Nat→Ex ×Nat)(a:Nat):Ex ×Nat:=Eg sc raw g (gK raw d a) (Ad raw a 12).2
def Az(sc:Sc)(raw:List Int):Nat→Nat→Ex ×Nat
 |0=>Pg sc raw 0 (fun a=>(Ex.nil,a))
 |d+1=>Pg sc raw (d+1) (Az sc raw d)
structure Sc.Ok (sc:Sc):Prop where
 vars:∀x,x∈sc.vars→An x=true
 arrays:∀x,x∈sc.arrays→An x.name=true
 funcs:∀x,x∈sc.funcs→An x.name=true∧x.params.length≤6
theorem iD {α:Type}{l:List α}{d:α}{i:Nat}(h:i<l.length):l.getD i d∈l:=by
 rw[List.getD_eq_getElem?_getD,List.getElem?_eq_getElem h];exact List.getElem_mem h
theorem Wa {α:Type}{l:List α}{b:Bool}(h:¬(b||l.isEmpty)=true):0<l.length:=by
 cases l with
 |nil=>simp at h
 |cons x l=>simp
theorem Mw {sc:Sc}(h:sc.Ok)(raw:List Int)(a:Nat):An (Gj sc.free sc.vars raw a).1=true:=by
 unfold Gj;split
 ·exact Hu _
 ·rename_i hn
  have hl:=Wa hn;have:=Ak raw a sc.vars.length (by omega);exact h.vars _ (iD (by omega))
theorem Mb {sc:Sc}(h:sc.Ok)(raw:List Int)(a:Nat):An (Cr sc.free sc.arrays raw a).1.name=true:=by
 unfold Cr;split
 ·exact Hu _
 ·rename_i hn
  have hl:=Wa hn;have:=Ak raw a sc.arrays.length (by omega);exact h.arrays _ (iD (by omega))
def Km(d:Nat)(e:Ex):Prop:=Fn (max d 1) e=true∧Bb e=true
theorem Gt(g:Nat→Ex ×Nat):∀c a,(Gf g c a).1.length=c
 |0,a=>rfl
 |c+1,a=>by rw[Gf];simp [Gt g c a]
theorem Hs(g:Nat→Ex ×Nat)(P:Ex→Prop)(hg:∀a,P (g a).1):∀c a,∀x,x∈(Gf g c a).1→P x
 |0,a,x,hx=>by cases hx
 |c+1,a,x,hx=>by
  rw[Gf]at hx;rcases List.mem_append.1 hx with h|h
  ·exact Hs g P hg c a x h
  ·rw[Zd.1 h];exact hg _
theorem Kn {d:Nat}{k o n:Int}{nm:Bs}{args:List Ex}(hh:Bw (.mk k o n nm args)=true)(ha:∀x,x∈args→Km d x)(hd:args=[]∨1≤d):Km (d+1) (.mk k o n nm args):=by
 refine⟨?_,?_⟩
 ·rw[show max (d+1) 1=d+1 by omega]
  show args.all (Fn d)=true
  rw[Zc];intro x hx;have h1:=(ha x hx).1;rcases hd with rfl|hd
  ·cases hx
  ·rwa[show max d 1=d by omega]at h1
 ·rw[Hf,hh,Bool.true_and,Zc]
  exact fun x hx=>(ha x hx).2
theorem Od {d:Nat}{k o n:Int}{nm:Bs}(hh:Bw (.mk k o n nm [])=true):Km d (.mk k o n nm []):=by
 refine⟨?_,?_⟩
 ·obtain⟨m,hm⟩:∃m,max d 1=m+1:=⟨max d 1-1,by omega⟩
  rw[hm];rfl
 ·rw[Hf,hh,Bool.true_and];rfl
theorem Kz(n j:Int)(h:0≤n∧n<1000):0≤Ei n j∧Ei n j≤9223372036854775807:=by
 unfold Ei
 repeat' split
 all_goals try omega
 ·constructor
  ·exact Int.mul_nonneg h.1 h.1
  ·have:n*n≤999*999:=Int.mul_le_mul (by omega) (by omega) (by omega) (by omega)
   omega
 ·have h1:(n % 63).toNat≤62:=by omega
  have h2:(2:Nat) ^ (n % 63).toNat≤2 ^ 62:=Nat.pow_le_pow_right (by decide) h1;have h3:((2:Int) ^ (n % 63).toNat)=((2 ^ (n % 63).toNat:Nat):Int):=by simp
  rw[h3];constructor
  ·exact Int.natCast_nonneg _
  ·have:(2:Nat) ^ 62≤9223372036854775807:=by decide
   exact Int.ofNat_le.2 (Ze h2 this)
theorem Vr:∀i:Fin 16,0<Au (1+(i.val:Int)):=by decide+kernel
theorem jB(o:Int)(h:0≤o∧o<16):0<Au (1+o):=by
 have:=Vr ⟨o.toNat,by omega⟩;simpa only[Int.toNat_of_nonneg h.1]using this
theorem Wp {sc:Sc}(hs:sc.Ok)(raw:List Int)(d:Nat)(g:Nat→Ex ×Nat)(k:Int)(hk:4≤k→1≤d∧∀a,Km d (g a).1)(a:Nat):Km (d+1) (Eg sc raw g k a).1:=by
 unfold Eg;split
 ·refine Od ?_
  have:=Mw hs raw a;simp [Bw,Du,Gd,Ho,Ds,Ca,Ex.kind,Ex.op,Ex.n,Ex.name,Ex.args,this]
 split
 ·exact Od (by decide)
 split
 ·refine Od ?_
  have h1:=Ak raw (if k=3 then(Ad raw a 3).2 else a) 1000 (by decide);have h2:=(Kz _ (Ad raw (Ad raw (if k=3 then(Ad raw a 3).2 else a) 1000).2 8).1 h1).1;simp only[Bw,Du,Gd,Ho,Ds,Ca,Ex.kind,Ex.op,Ex.n,Ex.name,Ex.args];simp [h2]
 rename_i h1 h2 h3;obtain⟨hk,hg⟩:=hk (by omega);split
 ·refine Kn ?_ (fun x hx=>by rw[Zd.1 hx];exact hg _) (.inr hk)
  have:=Ak raw a 3 (by decide);have e:17+(Ad raw a 3).1=17∨17+(Ad raw a 3).1=18∨17+(Ad raw a 3).1=19:=by omega
  simp only[Bw,Du,Gd,Ho,Ds,Ca,Ex.kind,Ex.op,Ex.n,Ex.name,Ex.args];simp [e]
 split
 ·refine Kn ?_ (fun x hx=>by rw[Zd.1 hx];exact hg _) (.inr hk)
  have:=Mb hs raw a;simp [Bw,Du,Gd,Ho,Ds,Ca,Ex.kind,Ex.op,Ex.n,Ex.name,Ex.args,this]
 split
 ·unfold Gw
  split
  ·refine Kn ?_ (Hs g _ hg _ _) (.inr hk)
   have h7:=Ak raw (Ad raw a 312).2 7 (by decide);have hn:=Hu (Ad raw a 312).1;simp only[Bw,Du,Gd,Ho,Ds,Ca,Ex.kind,Ex.op,Ex.n,Ex.name,Ex.args,Gt];simp [hn];omega
  ·rename_i hn
   have hl:=Wa hn;have hr:=Ak raw a sc.funcs.length (by omega);have hf:An (Bc sc.funcs (Ad raw a sc.funcs.length).1.toNat).name=true∧(Bc sc.funcs (Ad raw a sc.funcs.length).1.toNat).params.length≤6:=hs.funcs _ (iD (d:=Fu.nil) (i:=(Ad raw a sc.funcs.length).1.toNat) (by omega));dsimp only;generalize Bc sc.funcs (Ad raw a sc.funcs.length).1.toNat=f at hf ⊢;refine Kn ?_ (Hs g _ hg _ _) (.inr hk);simp only[Bw,Du,Gd,Ho,Ds,Ca,Ex.kind,Ex.op,Ex.n,Ex.name,Ex.args,Gt];simp only[hf.1];simp;omega
 ·refine Kn ?_ (fun x hx=>?_) (.inr hk)
  ·have:=jB _ (Ak raw a 16 (by decide))
   simp only[Bw,Du,Gd,Ho,Ds,Ca,Ex.kind,Ex.op,Ex.n,Ex.name,Ex.args];simp [this]
  ·rcases Zg.1 hx with rfl|hx
   ·exact hg _
   ·rw[Zd.1 hx];exact hg _
theorem Uc(raw:List Int)(d a:Nat)(h:d<2):gK raw d a<4:=by
 unfold gK;rw[if_pos h];have:=Ak raw a 12 (by decide);omega
theorem Qs {sc:Sc}(hs:sc.Ok)(raw:List Int):∀d a,Km d (Az sc raw d a).1
 |0,a=>by
  rw[Az];unfold Pg;exact Wp hs raw 0 _ _ (fun h4=>by have:=Uc raw 0 a (by omega);omega) _
 |d+1,a=>by
  rw[Az];unfold Pg;refine Wp hs raw d _ _ (fun h4=>⟨?_,fun b=>Qs hs raw d b⟩) _;rcases Nat.lt_or_ge (d+1) 2 with h|h
  ·have:=Uc raw (d+1) a h;omega
  ·omega
def Cb(sc:Sc)(raw:List Int)(gs gl:Nat→List St ×Nat)(k:Int)(a:Nat):St ×Nat:=
 if k<4∧sc.hasVars=true then
  let n:=Gj sc.free sc.vars raw a
  (.mk 1 n.1 [] [] [],n.2)
 else if k=4∧sc.hasArrays=true then
  let n:=Cr sc.free sc.arrays raw a;let e:=Az sc raw 3 n.2
  (.mk 2 n.1.name [e.1] [] [],e.2)
 else if k=5∧sc.hasFuncs=true then
  let c:=Gw sc raw (Az sc raw 2) a
  (.mk 10 [] [c.1] [] [],c.2)
 else if k=6∧(Ad raw a 3).1=2 then
  let j:=Ad raw (Ad raw a 3).2 2
  (.mk (if j.1=0 then 7 else 9) [] [] [] [],j.2)
 else if k=7∨k=8 then
  let e:=Az sc raw 3 a;let t:=gs e.2;let u:=gs t.2
  (.mk 3 [] [e.1] t.1 u.1,u.2)
 else if k=9∨k=10 then
  let e:=Az sc raw 3 a;let t:=gl e.2
  (.mk 4 [] [e.1] t.1 [],t.2)
 else if k=11∧(sc.loop||sc.free)=true∧(Ad raw a 2).1=1 then
  let j:=Ad raw (Ad raw a 2).2 2
  (.mk (if j.1=0 then 5 else 6) [] [] [] [],j.2)
 else(.mk 8 [] [] [] [],if k=6 then(Ad raw a 3).2 else if k=11∧(sc.loop||sc.free)=true then(Ad raw a 2).2 else a)
def Cx(k:Int):Nat:=if k=2 then 2 else if k=5∨k=6 then 0 else 1
def Ib(sc:Sc)(raw:List Int)(x:St)(a:Nat):St ×Nat:=
 if x.args.length<Cx x.kind then(.mk x.kind x.name (x.args++[(Az sc raw 4 a).1]) x.thn x.els,(Az sc raw 4 a).2)else(x,a)
def Oo(raw:List Int)(d a:Nat):Int:=if d<2∧7≤(Ad raw a 14).1∧(Ad raw a 14).1<11 then 0 else(Ad raw a 14).1
def gSt(sc:Sc)(raw:List Int)(gs gl:Nat→List St ×Nat)(d:Nat)(a:Nat):St ×Nat:=
 let h:=Cb sc raw gs gl (Oo raw d a) (Ad raw a 14).2
 Ib sc raw h.1 h.2
def Gy(one:Nat→St ×Nat):Nat→Nat→List St ×Nat
 |0,a=>([],a)
 |c+1,a=>((Gy one c a).1++[(one (Gy one c a).2).1],(one (Gy one c a).2).2)
def Sc.inLoop(sc:Sc):Sc:=⟨sc.vars,sc.arrays,sc.funcs,sc.free,true⟩
def Fi(raw:List Int):Nat→Sc→Nat→List St ×Nat
 |0,sc,a=>Gy (gSt sc raw (fun a=>([],a)) (fun a=>([],a)) 0) (Ad raw a 5).1.toNat (Ad raw a 5).2
 |d+1,sc,a=>Gy (gSt sc raw (Fi raw d sc) (Fi raw d sc.inLoop) (d+1)) (Ad raw a 5).1.toNat (Ad raw a 5).2
theorem Po:∀(m n:Nat) (e:Ex),m≤n→Fn m e=true→Fn n e=true
 |0,_,_,_,h=>by cases h
 |m+1,0,e,hmn,_=>by omega
 |m+1,n+1,e,hmn,h=>by
  have h:e.args.all (Fn m)=true:=h;show e.args.all (Fn n)=true
  rw[Zc]at*;exact fun x hx=>Po m n x (by omega) (h x hx)
theorem Rk {d:Nat}{e:Ex}(hd:d≤40)(h:Km d e):Be e=true:=by
 unfold Be;rw[Po _ _ _ (by omega) h.1,h.2];rfl
theorem aN {sc:Sc}(hs:sc.Ok)(raw:List Int)(d:Nat)(hd:1≤d)(g:Nat→Ex ×Nat)(hg:∀a,Km d (g a).1)(a:Nat):Km (d+1) (Gw sc raw g a).1∧(Gw sc raw g a).1.kind=5:=by
 unfold Gw;split
 ·refine⟨Kn ?_ (Hs g _ hg _ _) (.inr hd),rfl⟩
  have h7:=Ak raw (Ad raw a 312).2 7 (by decide);have hn:=Hu (Ad raw a 312).1;simp only[Bw,Du,Gd,Ho,Ds,Ca,Ex.kind,Ex.op,Ex.n,Ex.name,Ex.args,Gt];simp [hn];omega
 ·rename_i hn
  have hl:=Wa hn;have hr:=Ak raw a sc.funcs.length (by omega);have hf:An (Bc sc.funcs (Ad raw a sc.funcs.length).1.toNat).name=true∧(Bc sc.funcs (Ad raw a sc.funcs.length).1.toNat).params.length≤6:=hs.funcs _ (iD (d:=Fu.nil) (i:=(Ad raw a sc.funcs.length).1.toNat) (by omega));dsimp only;generalize Bc sc.funcs (Ad raw a sc.funcs.length).1.toNat=f at hf ⊢;refine⟨Kn ?_ (Hs g _ hg _ _) (.inr hd),rfl⟩;simp only[Bw,Du,Gd,Ho,Ds,Ca,Ex.kind,Ex.op,Ex.n,Ex.name,Ex.args,Gt];simp only[hf.1];simp;omega
theorem Hz {m:Nat}{k:Int}{nm:Bs}{args:List Ex}{thn els:List St}(hm:1≤m)(h1:fOk k=true)(h2:(args.length:Int)=Ea k)(h3:Gv k=true∨thn=[])(h4:Gu k=true∨els=[])(h5:Dq k=An nm)
  (h6:Dq k=true∨nm=[]) (h7:k≠10∨(args.headD (.mk 0 0 0 [] [])).kind=5) (h8:∀x,x∈args→Be x=true) (h9:∀x,x∈thn→De (m-1) x=true) (h10:∀x,x∈els→De (m-1) x=true):De m (.mk k nm args thn els)=true:=by
 obtain⟨n,rfl⟩:∃n,m=n+1:=⟨m-1,by omega⟩;rw[Nat.add_sub_cancel]at h9 h10;simp only[De,Ge,In,St.kind,St.args,St.thn,St.els,St.name,Bool.and_eq_true,Bool.not_eq_true',Bool.or_eq_false_iff,Bool.not_eq_false',Zc];refine⟨⟨⟨⟨⟨⟨⟨⟨h1,?_⟩,?_⟩,?_⟩,?_⟩,⟨⟨?_,?_⟩,?_⟩⟩,h8⟩,h9⟩,h10⟩
 ·simp;omega
 ·simpa using h2
 ·rcases h3 with h|rfl
  ·simp [h]
  ·simp
 ·rcases h4 with h|rfl
  ·simp [h]
  ·simp
 ·simp [h5]
 ·rcases h6 with h|rfl
  ·simp [h]
  ·simp
 ·rcases h7 with h|h
  ·simp [h]
  ·rw[h];simp
theorem Sc.Ok.inLoop {sc:Sc}(h:sc.Ok):sc.inLoop.Ok:=⟨h.vars,h.arrays,h.funcs⟩
theorem Lx(one:Nat→St ×Nat)(P:St→Prop)(hg:∀a,P (one a).1):∀c a,∀x,x∈(Gy one c a).1→P x
 |0,a,x,hx=>by cases hx
 |c+1,a,x,hx=>by
  rw[Gy]at hx;rcases List.mem_append.1 hx with h|h
  ·exact Lx one P hg c a x h
  ·rw[Zd.1 h];exact hg _
theorem Jt(one:Nat→St ×Nat):∀c a,(Gy one c a).1.length=c
 |0,a=>rfl
 |c+1,a=>by rw[Gy];simp [Jt one c a]
theorem Ii {sc:Sc}(hs:sc.Ok)(raw:List Int)(d a:Nat)(hd:d≤40):Be (Az sc raw d a).1=true:=Rk hd (Qs hs raw d a)
theorem Iq(sc:Sc)(raw:List Int){k:Int}{nm:Bs}{args:List Ex}{t e:List St}(a:Nat)(h:args.length<Cx k):Ib sc raw (.mk k nm args t e) a=(.mk k nm (args++[(Az sc raw 4 a).1]) t e,(Az sc raw 4 a).2):=if_pos h
theorem Iy(sc:Sc)(raw:List Int){k:Int}{nm:Bs}{args:List Ex}{t e:List St}(a:Nat)(h:¬args.length<Cx k):Ib sc raw (.mk k nm args t e) a=(.mk k nm args t e,a):=if_neg h
theorem jL {sc:Sc}(hs:sc.Ok)(raw:List Int)(gs gl:Nat→List St ×Nat)(d:Nat)(m:Nat)(hm:1≤m)(hgs:2≤d→∀a x,x∈(gs a).1→De (m-1) x=true)(hgl:2≤d→∀a x,x∈(gl a).1→De (m-1) x=true)(a:Nat):De m (gSt sc raw gs gl d a).1=true:=by
 unfold gSt;have hk:∀k,Oo raw d a=k→7≤k→k<11→2≤d:=by
  intro k hk h1 h2;unfold Oo at hk;split at hk
  ·omega
  ·omega
 generalize Oo raw d a=k at hk;have hk:=hk k rfl;generalize (Ad raw a 14).2=b;dsimp only;have e4:∀a,∀x,x∈[(Az sc raw 4 a).1]→Be x=true:=fun a x hx=>by rw[Zd.1 hx];exact Ii hs raw 4 a (by omega)
 have e3:∀a,∀x,x∈[(Az sc raw 3 a).1]→Be x=true:=fun a x hx=>by rw[Zd.1 hx];exact Ii hs raw 3 a (by omega)
 have nn:∀x:St,x∈([]:List St)→De (m-1) x=true:=fun x hx=>by cases hx
 unfold Cb;split
 ·have:=Mw hs raw b
  dsimp only;rw[Iq _ _ _ (by simp [Cx])];exact Hz hm rfl rfl (.inr rfl) (.inr rfl) (by rw[this];rfl) (.inl rfl) (.inl (by decide)) (e4 _) nn nn
 split
 ·have:=Mb hs raw b
  dsimp only;rw[Iq _ _ _ (by simp [Cx])];exact Hz hm rfl rfl (.inr rfl) (.inr rfl) (by rw[this];rfl) (.inl rfl) (.inl (by decide)) (fun x hx=>by
   rcases Zg.1 hx with rfl|hx
   ·exact Ii hs raw 3 _ (by omega)
   ·exact e4 _ x hx) nn nn
 split
 ·have:=aN hs raw 2 (by omega) (Az sc raw 2) (Qs hs raw 2) b
  dsimp only;rw[Iy _ _ _ (by simp [Cx])];exact Hz hm rfl rfl (.inr rfl) (.inr rfl) rfl (.inr rfl) (.inr this.2) (fun x hx=>by rw[Zd.1 hx];exact Rk (by omega) this.1) nn nn
 split
 ·dsimp only
  split
  ·rw[Iq _ _ _ (by simp [Cx])]
   exact Hz hm rfl rfl (.inr rfl) (.inr rfl) rfl (.inr rfl) (.inl (by decide)) (e4 _) nn nn
  ·rw[Iq _ _ _ (by simp [Cx])]
   exact Hz hm rfl rfl (.inr rfl) (.inr rfl) rfl (.inr rfl) (.inl (by decide)) (e4 _) nn nn
 split
 ·dsimp only
  rw[Iy _ _ _ (by simp [Cx])];exact Hz hm rfl rfl (.inl rfl) (.inl rfl) rfl (.inr rfl) (.inl (by decide)) (e3 _) (hgs (hk (by omega) (by omega)) _) (hgs (hk (by omega) (by omega)) _)
 split
 ·dsimp only
  rw[Iy _ _ _ (by simp [Cx])];exact Hz hm rfl rfl (.inl rfl) (.inr rfl) rfl (.inr rfl) (.inl (by decide)) (e3 _) (hgl (hk (by omega) (by omega)) _) nn
 split
 ·dsimp only
  split
  ·rw[Iy _ _ _ (by simp [Cx])]
   exact Hz hm rfl rfl (.inr rfl) (.inr rfl) rfl (.inr rfl) (.inl (by decide)) (fun x hx=>by cases hx) nn nn
  ·rw[Iy _ _ _ (by simp [Cx])]
   exact Hz hm rfl rfl (.inr rfl) (.inr rfl) rfl (.inr rfl) (.inl (by decide)) (fun x hx=>by cases hx) nn nn
 ·dsimp only
  rw[Iq _ _ _ (by simp [Cx])];exact Hz hm rfl rfl (.inr rfl) (.inr rfl) rfl (.inr rfl) (.inl (by decide)) (e4 _) nn nn
theorem Oq(raw:List Int):∀(d:Nat) (sc:Sc),sc.Ok→∀m,1≤m→d≤m→∀a x,x∈(Fi raw d sc a).1→De m x=true
 |0,sc,hs,m,hm,hd,a,x,hx=>by
  rw[Fi]at hx;exact Lx _ (fun x=>De m x=true) (jL hs raw _ _ 0 m hm (fun h=>by omega) (fun h=>by omega)) _ _ x hx
 |d+1,sc,hs,m,hm,hd,a,x,hx=>by
  rw[Fi]at hx;exact Lx _ (fun x=>De m x=true) (jL hs raw _ _ (d+1) m hm (fun h=>Oq raw d sc hs (m-1) (by omega) (by omega)) (fun h=>Oq raw d sc.inLoop hs.inLoop (m-1) (by omega) (by omega))) _ _ x hx
def Fc:List Bs:=[[97],[98],[99]]
def Em:List Bs:=[[102],[103],[104]]
def Gp:List Bs:=[[112],[113],[114],[115],[116],[117]]
def Cy:List Bs:=[[120],[121],[122],[105],[107]]
def Ey:List Int:=[1,4,10,1000]
def Ri(free:Bool)(raw:List Int)(i:Nat)(a:Nat):Ar ×Nat:=
 if free then Cr true [] raw (Ad raw a 4).2 else(⟨Fc.getD i [],Ey.getD (Ad raw a 4).1.toNat 0⟩,(Ad raw a 4).2)
def Hg(free:Bool)(raw:List Int):Nat→Nat→List Ar ×Nat
 |0,a=>([],a)
 |i+1,a=>((Ri free raw (i+1) a).1::(Hg free raw i (Ri free raw (i+1) a).2).1,(Hg free raw i (Ri free raw (i+1) a).2).2)
def Wt(raw:List Int)(i a:Nat):Fu ×Nat:=(⟨Em.getD i [],Gp.take (Ad raw a 7).1.toNat,[],[]⟩,(Ad raw a 7).2)
def Gx(raw:List Int):Nat→Nat→List Fu ×Nat
 |0,a=>([],a)
 |i+1,a=>((Wt raw (i+1) a).1::(Gx raw i (Wt raw (i+1) a).2).1,(Gx raw i (Wt raw (i+1) a).2).2)
def Md(raw:List Int)(sc:Sc)(f:Fu)(a:Nat):Fu ×Nat:=
 let l:=Cy.take (Ad raw a 6).1.toNat
 let b:=Fi raw 4 ⟨f.params++l,sc.arrays,sc.funcs,sc.free,false⟩ (Ad raw a 6).2
 (⟨f.name,f.params,l,b.1⟩,b.2)
def Dd(raw:List Int)(sc:Sc):List Fu→Nat→List Fu ×Nat
 |[],a=>([],a)
 |f::l,a=>((Md raw sc f a).1::(Dd raw sc l (Md raw sc f a).2).1,(Dd raw sc l (Md raw sc f a).2).2)
def Io:Fu:=⟨[109,97,105,110],[],[],[]⟩
def Hm(raw:List Int)(free:Bool):List Ar ×Nat:=Hg free raw (Ad raw 0 3).1.toNat (Ad raw 0 3).2
def Mn(raw:List Int)(a:Nat):List Fu ×Nat:=Gx raw (Ad raw a 3).1.toNat (Ad raw a 3).2
def Fr(raw:List Int)(free:Bool):Sc:=⟨[],(Hm raw free).1,Io::(Mn raw (Hm raw free).2).1,free,false⟩
def Gg(raw0:List Int)(free:Bool):Pr:=
 let raw:=raw0.take 400
 ⟨(Hm raw free).1,(Dd raw (Fr raw free) (Fr raw free).funcs (Mn raw (Hm raw free).2).2).1⟩
def Ih(raw0:List Int):Ex:=(Az ⟨[],[],[],true,false⟩ (raw0.take 100) 6 0).1
theorem gArr_ok(free:Bool)(raw:List Int)(i a:Nat)(hi:i=1∨i=2):Ch (Ri free raw i a).1=true:=by
 unfold Ri;split
 ·have h1:=Hu (Ad raw (Ad raw a 4).2 312).1
  have h2:=Ak raw (Ad raw (Ad raw a 4).2 312).2 1000 (by decide);unfold Cr;rw[if_pos (by simp)];simp only[Ch,h1,Bool.true_and];simp;omega
 ·have h2:=Ak raw a 4 (by decide)
  have h3:(Ad raw a 4).1=0∨(Ad raw a 4).1=1∨(Ad raw a 4).1=2∨(Ad raw a 4).1=3:=by omega
  dsimp only;rcases hi with rfl|rfl<;>rcases h3 with h|h|h|h<;>rw[h]<;>decide
theorem Xa(free:Bool)(raw:List Int):∀i a,i≤2→∀x,x∈(Hg free raw i a).1→Ch x=true
 |0,a,_,x,hx=>by cases hx
 |i+1,a,hi,x,hx=>by
  rw[Hg]at hx;rcases Zg.1 hx with rfl|hx
  ·exact gArr_ok free raw (i+1) a (by omega)
  ·exact Xa free raw i _ (by omega) x hx
def Vb(f:Fu):Prop:=An f.name=true∧f.params.length≤6∧∀x,x∈f.params→An x=true
theorem fI:∀x,x∈Gp→An x=true:=by decide
theorem Tf:∀x,x∈Cy→An x=true:=by decide
theorem Xs(raw:List Int):∀i a,i≤2→∀x,x∈(Gx raw i a).1→Vb x
 |0,a,_,x,hx=>by cases hx
 |i+1,a,hi,x,hx=>by
  rw[Gx]at hx;rcases Zg.1 hx with rfl|hx
  ·have hi':i=0∨i=1:=by omega
   refine⟨?_,?_,fun x hx=>fI x (List.mem_of_mem_take hx)⟩
   ·show An (Em.getD (i+1) [])=true
    rcases hi' with rfl|rfl<;>decide
   ·show(Gp.take _).length≤6
    rw[List.length_take];exact Nat.min_le_right _ _
  ·exact Xs raw i _ (by omega) x hx
theorem Re(raw:List Int)(sc:Sc)(ha:∀x,x∈sc.arrays→An x.name=true)(hf:∀x,x∈sc.funcs→Vb x):∀l a,(∀x,x∈l→Vb x)→∀x,x∈(Dd raw sc l a).1→Co x=true
 |[],a,_,x,hx=>by cases hx
 |f::l,a,hl,x,hx=>by
  rw[Dd]at hx;rcases Zg.1 hx with rfl|hx
  ·have h:=hl f List.mem_cons_self
   have hL:∀x,x∈Cy.take (Ad raw a 6).1.toNat→An x=true:=fun x hx=>Tf x (List.mem_of_mem_take hx)
   have hsc:Sc.Ok ⟨f.params++Cy.take (Ad raw a 6).1.toNat,sc.arrays,sc.funcs,sc.free,false⟩:=⟨fun x hx=>by
    rcases List.mem_append.1 hx with hx|hx
    ·exact h.2.2 x hx
    ·exact hL x hx,ha,fun x hx=>⟨(hf x hx).1,(hf x hx).2.1⟩⟩
   have hb:=Oq raw 4 _ hsc 40 (by omega) (by omega) (Ad raw a 6).2;unfold Md Co;dsimp only;rw[h.1,Zc.2 h.2.2,Zc.2 hL,Zc.2 hb,decide_eq_true h.2.1];rfl
  ·exact Re raw sc ha hf l _ (fun x hx=>hl x (List.mem_cons_of_mem _ hx)) x hx
theorem Ev(raw:List Int)(free:Bool):∀x,x∈(Fr raw free).funcs→Vb x:=by
 intro x hx;rcases Zg.1 hx with rfl|hx
 ·exact⟨by decide,by decide,fun x hx=>by cases hx⟩
 ·exact Xs raw _ _ (by have:=Ak raw (Hm raw free).2 3 (by decide);omega) x hx
theorem Kj(raw:List Int)(free:Bool):∀x,x∈(Hm raw free).1→Ch x=true:=
 Xa free raw _ _ (by have:=Ak raw 0 3 (by decide);omega)
theorem Ic(raw0:List Int)(free:Bool):Cd (Gg raw0 free)=true:=by
 unfold Gg Cd;dsimp only;rw[Bool.and_eq_true,Zc,Zc];refine⟨Kj _ _,Re _ _ (fun x hx=>?_) (Ev _ _) _ _ (Ev _ _)⟩;have:=Kj (raw0.take 400) free x hx;unfold Ch at this;exact((Bool.and_eq_true _ _).mp this).1
theorem Sb(raw0:List Int):Be (Ih raw0)=true:=
 Ii ⟨fun _ hx=>(List.not_mem_nil hx).elim,fun _ hx=>(List.not_mem_nil hx).elim,fun _ hx=>(List.not_mem_nil hx).elim⟩ _ 6 0 (by omega)
theorem jO(c n:Int)(hc:I64 c)(h0:0<n)(h1:n≤9223372036854775807)(w:World):
  Calls Zb 60 #[.int .i64 c,.int .i64 n] w fun e w'=>e=.returned (.int .i64 (Gc c n))∧w'=w:=by
 obtain⟨l,u⟩:=hc;unfold Gc
 by_cases hneg:c<0
 ·rw[if_pos hneg]
  have hn0:(n==0)=false:=by simp;omega
  go_enter func60,ntmps60
  go_wp2_with fail
  go_ret
  exact⟨Je (by show -((c+1).tmod n)=_;rw[←Int.neg_tmod,Int.tmod_eq_emod_of_nonneg (by omega)]),rfl⟩
 ·rw[if_neg hneg]
  have hneg':0≤c:=by omega
  go_enter func60,ntmps60
  go_wp2_with fail
  go_ret
  exact⟨rfl,rfl⟩
def Ez(D:Nat→Prop)(w:World)(l:List Int)(v:Value):Prop:=
 ∃a cap b off,v=.slice a l.length cap∧l.length≤cap∧Ci l.length∧(l.length=0∨(a=some ⟨b,off,none⟩∧D b))∧
  (∀i,i<l.length→w.cell? ⟨b,off+i,none⟩=some (.int .i64 (l.getD i 0)))∧∀i,i<l.length→I64 (l.getD i 0)
theorem Ez.keep {D:Nat→Prop}{w w':World}(hk:Fe D w w'){l:List Int}{v:Value}(h:Ez D w l v):Ez D w' l v:=by
 obtain⟨a,cap,b,off,hv,h1,h2,h3,h4,h5⟩:=h;refine⟨a,cap,b,off,hv,h1,h2,h3,fun i hi=>?_,h5⟩;rcases h3 with h3|⟨_,hD⟩
 ·omega
 ·exact hk _ _ _ hD (h4 i hi)
theorem Ez.shape {D:Nat→Prop}{w:World}{l:List Int}{v:Value}(h:Ez D w l v):∃a cap,v=.slice a l.length cap:=by
 obtain⟨a,cap,b,off,hv,_⟩:=h;exact⟨a,cap,hv⟩
theorem Ez.fits {D:Nat→Prop}{w:World}{l:List Int}{v:Value}(h:Ez D w l v):Ci l.length:=by
 obtain⟨a,cap,b,off,hv,h1,h2,_⟩:=h;exact h2
theorem Ez.cellAt {D:Nat→Prop}{w:World}{l:List Int}{a:Option Addr}{n cap:Nat}(h:Ez D w l (.slice a n cap))(i:Nat)(hl:i<l.length):∃b off,a=some ⟨b,off,none⟩∧D b∧b<w.heap.size∧
  w.cell? ⟨b,off+i,none⟩=some (.int .i64 (l.getD i 0))∧I64 (l.getD i 0):=by
 obtain⟨a',cap',b,off,hv,h1,h2,h3,h4,h5⟩:=h
 cases hv
 rcases h3 with h3|⟨h3,hD⟩
 ·omega
 ·exact⟨b,off,h3,hD,Zj _ _ (h4 i hl),h4 i hl,h5 i hl⟩
def As(w:World)(s:Nat)(raw:List Int)(a:Nat):Prop:=
 ∃v,w.heap[s]? =some (.cells #[v,.int .i64 a] 59 (0,0))∧Ez (· <s) w raw v∧a≤raw.length
theorem As.lt {w:World}{s:Nat}{raw:List Int}{a:Nat}(h:As w s raw a):s<w.heap.size:=by
 obtain⟨v,hb,_⟩:=h;rcases Nat.lt_or_ge s w.heap.size with h'|h'
 ·exact h'
 ·simp [Array.getElem?_eq_none h']at hb
theorem As.old {w w':World}{s:Nat}{raw:List Int}{a:Nat}(h:As w s raw a)(hb:Below w.heap.size w w'):As w' s raw a:=by
 have hl:=h.lt;obtain⟨v,h1,h2,h3⟩:=h;exact⟨v,(hb.block s hl).trans h1,h2.keep (Dp hb),h3⟩
theorem As.set {w:World}{s:Nat}{raw:List Int}{a:Nat}(h:As w s raw a)(ha:a<raw.length):As (w.setCell ⟨s,1,none⟩ (.int .i64 ((a:Int)+1))) s raw (a+1)∧SFr s w (w.setCell ⟨s,1,none⟩ (.int .i64 ((a:Int)+1))):=by
 obtain⟨v,h1,h2,h3⟩:=h;have hf:SFr s w (w.setCell ⟨s,1,none⟩ (.int .i64 ((a:Int)+1))):=⟨rfl,rfl,rfl,by simp [Zh],fun k _ hk=>Zf _ _ _ _ hk⟩;refine⟨⟨v,?_,h2.keep (hf.keepsD (fun b h=>Nat.ne_of_lt h)),ha⟩,hf⟩;rw[show((a+1:Nat):Int)=(a:Int)+1 from by omega];simp [Zh,Array.getElem?_modify,h1]
def Dr(w:World)(s:Nat)(raw:List Int)(x:Value)(a':Nat)(r:Ending)(w':World):Prop:=r=.returned x∧As w' s raw a'∧SFr s w w'
theorem As.drewN {s n:Nat}{w1:World}{raw:List Int}{a:Nat}(h:As w1 s raw a):As (w1.drewN n) s raw a:=h
theorem Bn(s:Nat)(raw:List Int)(a:Nat)(n:Int)(w:World)(hs:As w s raw a)(h0:0<n)(h1:n≤1000000):
  Calls Zb 24 #[.pointer (some ⟨s,0,none⟩),.int .i64 n] w (Dr w s raw (.int .i64 (Ad raw a n).1) (Ad raw a n).2):=by
 have HS:=Za hs;obtain⟨v,hb,hr,ha⟩:=hs;obtain⟨ra,rc,rfl⟩:=hr.shape;have l63:=hr.fits.out;have c0:w.cell? ⟨s,0,none⟩=some (.slice ra raw.length rc):=by rw[Zi hb];rfl
 have c1:w.cell? ⟨s,1,none⟩=some (.int .i64 a):=by rw[Zi hb];rfl
 have fz:w.frozen? ⟨s,1,none⟩=false:=Lib.frozen_of_heap hb 1;unfold Ad
 by_cases hge:raw.length≤a
 ·rw[if_pos hge]
  clear hb hr;go_enter func24,ntmps24
  go_wp2_with fail
  go_quiet (fail)
  go_wp2_with fail
  go_ret
  exact⟨rfl,HS.o,SFr.drewN (SFr.refl _ _)⟩
 ·rw[if_neg hge]
  have hlt:a<raw.length:=by omega
  obtain⟨b,off,rfl,hD,hbl,cr,hI⟩:=hr.cellAt a hlt;have HSET:=Za (HS.o.set hlt);have HI:=Za hI;have hD':b≠s:=Nat.ne_of_lt hD;have HCR:=Za (HSET.o.2.cell hD' cr);obtain⟨v',hb',_,_⟩:=HSET.o.1;have hsl:=HS.o.lt;have g0:(w.setCell ⟨s,1,none⟩ (.int .i64 ((a:Int)+1))).cell? ⟨s,0,none⟩=some (.slice (some ⟨b,off,none⟩) raw.length rc):=by
   have h:=hb;simp [Zh,World.cell?,Array.getElem?_modify,h]
  clear hb hr hI hD hge hb';generalize hc:raw.getD a 0=c at*;clear hc;go_enter func24,ntmps24
  go_wp2_with fail
  go_quiet (fail)
  go_wp2_with fail
  have hsv:As ((w.drewN nq).setCell ⟨s,1,none⟩ (.int .i64 ((a:Int)+1))) s raw (a+1):=HSET.o.1.drewN (n:=nq);have hfv:SFr s w ((w.drewN nq).setCell ⟨s,1,none⟩ (.int .i64 ((a:Int)+1))):=HSET.o.2.drewN (n:=nq);have k0:((w.drewN nq).setCell ⟨s,1,none⟩ (.int .i64 ((a:Int)+1))).cell? ⟨s,0,none⟩=some (.slice (some ⟨b,off,none⟩) raw.length rc):=g0;have k1:((w.drewN nq).setCell ⟨s,1,none⟩ (.int .i64 ((a:Int)+1))).cell? ⟨s,1,none⟩=some (.int .i64 ((a:Int)+1)):=by
   obtain⟨v2,hb2,_⟩:=hsv;rw[Zi hb2];show some (Value.int .i64 ((a+1:Nat):Int))=_;rw[show((a+1:Nat):Int)=(a:Int)+1 from by omega]
  have kr:((w.drewN nq).setCell ⟨s,1,none⟩ (.int .i64 ((a:Int)+1))).cell? ⟨b,off+a,none⟩=some (.int .i64 c):=HCR.o;have HSV:=Za hsv;have HFV:=Za hfv;clear hsv hfv g0 c0 c1 cr fz HSET HCR HS;generalize (w.drewN nq).setCell ⟨s,1,none⟩ (.int .i64 ((a:Int)+1))=V at*;have S1:IntKind.i64.wrap ((a:Int)+1-1)=a:=by rw[IntWalk.i64_in _ (by omega)];omega
  have S2:IntKind.i64.wrap (a:Int)=a:=IntWalk.i64_in _ (by omega);have i0:(0:Int)≤(a:Int):=by omega
  have i1:(a:Int)<(raw.length:Int):=by omega
  have hbv:b<V.heap.size:=Zj _ _ kr;have hsv:s<V.heap.size:=HSV.o.lt
  go_region_held3 (fun w'=>w'.cell? ⟨s,0,none⟩=some (.slice (some ⟨b,off,none⟩) raw.length rc)∧w'.cell? ⟨s,1,none⟩=some (.int .i64 ((a:Int)+1))∧w'.cell? ⟨b,off+a,none⟩=some (.int .i64 c)) (first|(simp [*,World.cell?_alloc_lt];done)|go_keep) (first
   |(go_at_call 60;refine(jO c n HI.o h0 (by omega) _).mono ?_;rintro r w2 ⟨he,hw⟩;subst he;subst hw))
  go_wp2_with fail
  go_ret
  exact⟨rfl,HSV.o,SFr.drewN (n:=1) HFV.o⟩
theorem dR(c n:Int)(hc:I64 c)(h0:0<n)(h1:n≤9223372036854775807)(w:World):
  Calls Zb 108 #[.int .i64 c,.int .i64 n] w fun e w'=>e=.returned (.int .i64 (Gc c n))∧w'=w:=by
 obtain⟨l,u⟩:=hc;unfold Gc
 by_cases hneg:c<0
 ·rw[if_pos hneg]
  have hn0:(n==0)=false:=by simp;omega
  go_enter func108,ntmps108
  go_wp2_with fail
  go_ret
  exact⟨Je (by show -((c+1).tmod n)=_;rw[←Int.neg_tmod,Int.tmod_eq_emod_of_nonneg (by omega)]),rfl⟩
 ·rw[if_neg hneg]
  have hneg':0≤c:=by omega
  go_enter func108,ntmps108
  go_wp2_with fail
  go_ret
  exact⟨rfl,rfl⟩
theorem Wy(n:Int)(h0:0≤n)(h1:n<256)(W:World)(b:Nat)(hc:W.cell? ⟨b,0,none⟩=some (.int .u8 n)):
  (convert 72 9 (.slice (some ⟨b,0,none⟩) 1 1)).run Zb W=.ok (.string (Aa [UInt8.ofNat n.toNat])) W:=by
 refine run_convert_bytes_back (P:=Zb) W 72 9 5 ⟨b,0,none⟩ 1 [UInt8.ofNat n.toNat] underlying72 underlying5 underlying9 (fun j hj=>?_);have hj0:j=0:=by simp at hj;omega
 subst hj0;have e:((UInt8.ofNat n.toNat).toNat:Int)=n:=by
  rw[UInt8.toNat_ofNat'];have:n.toNat % 2 ^ 8=n.toNat:=Nat.mod_eq_of_lt (by omega);omega
 show W.cell? _=some (.int .u8 ((UInt8.ofNat n.toNat).toNat:Int))
 rw[e];exact hc
theorem suf_at:∀j:Fin 12,([Value.string ⟨#[]⟩,Value.string ⟨#[49]⟩,Value.string ⟨#[95]⟩,Value.string ⟨#[90,57]⟩,Value.string ⟨#[105,102]⟩,Value.string ⟨#[120]⟩,Value.string ⟨#[48]⟩,Value.string ⟨#[97,97]⟩,Value.string ⟨#[105,110,116,105,110,116]⟩,Value.string ⟨#[113,55]⟩,Value.string ⟨#[66]⟩,Value.string ⟨#[48,48]⟩]:List Value)[j.val]'(by simp)=.string (Aa (cL.getD j.val [])):=by
 intro j;obtain⟨j,hj⟩:=j;have:j=0∨j=1∨j=2∨j=3∨j=4∨j=5∨j=6∨j=7∨j=8∨j=9∨j=10∨j=11:=by omega
 rcases this with rfl|rfl|rfl|rfl|rfl|rfl|rfl|rfl|rfl|rfl|rfl|rfl<;>rfl
theorem Ug(c:Int)(hc:I64 c)(w:World):
  Calls Zb 63 #[.int .i64 c] w fun e w'=>e=.returned (.string (Aa (Hn c)))∧Below w.heap.size w w':=by
 have hk:=Kf c 312 (by decide);have E:Hid (Hn c=UInt8.ofNat (97+(Gc c 312 % 26).toNat)::cL.getD (Gc c 312 / 26).toNat []):=rfl;rw[E.out];have HC:=Za hc;have HK:Hid (∀w,Calls Zb 108 #[.int .i64 c,.int .i64 312] w fun e w'=>e=.returned (.int .i64 (Gc c 312))∧w'=w):=fun w=>dR c 312 hc (by decide) (by decide) w
 clear hc E;generalize Gc c 312=k at*;obtain⟨hk0,hk1⟩:=hk;have hm0:0≤k % 26:=Int.emod_nonneg _ (by decide);have hm1:k % 26<26:=Int.emod_lt_of_pos _ (by decide);have hd0:0≤k / 26:=by omega
 have hd1:k / 26<12:=by omega
 have hd2:(k / 26).toNat<12:=by omega
 have HCV:=Wy (97+k % 26) (by omega) (by omega);have HLD:=suf_at ⟨(k / 26).toNat,hd2⟩;dsimp only at HLD;have hlen:(cL.getD (k / 26).toNat []).length≤6:=by
  have h:∀j:Fin 12,(cL.getD j.val []).length≤6:=by decide
  exact h ⟨_,hd2⟩
 generalize cL.getD (k / 26).toNat []=sf at*;have hno:¬((Aa [UInt8.ofNat (97+k % 26).toNat]).size+(Aa sf).size>9223372036854775807):=by
  show ¬([UInt8.ofNat (97+k % 26).toNat].toArray.size+sf.toArray.size>_)
  simp;omega
 have hsb:Hid (Aa [UInt8.ofNat (97+k % 26).toNat]++Aa sf=Aa (UInt8.ofNat (97+(k % 26).toNat)::sf)):=by
  show _=_
  rw[show 97+(k % 26).toNat=(97+k % 26).toNat by omega];rfl
 generalize Aa [UInt8.ofNat (97+k % 26).toNat]=cb at*;generalize hsf:Aa sf=sb at*;have HSF:=Za hsf;clear hsf hlen;go_enter func63,ntmps63
 go_wp2_with fail
 refine(HK.o _).mono ?_;rintro r w2 ⟨he,hw⟩;subst he;subst hw;go_wp2_with fail
 go_region
 all_goals go_wp2_with fail
 all_goals
  go_ret
  refine⟨?_,by repeat(first|exact Below.refl _ _|refine Below.drew ?_ |refine Below.alloc ?_ (by simp) _)⟩;exact congrArg (fun s=>Ending.returned (Value.string s)) hsb.out
abbrev scV(sc:Sc)(vv av fv:Value):Value:=.agg #[vv,av,fv,.bool sc.free,.bool sc.loop]
theorem Lz(raw:List Int)(a:Nat)(n:Int)(h:0<n)(h1:n≤1000000):I64 (Ad raw a n).1:=by
 have:=Ak raw a n h;exact⟨by omega,by omega⟩
theorem As.alloc {w:World}{s:Nat}{raw:List Int}{a:Nat}(h:As w s raw a)(o:Obj):As (w.alloc o) s raw a:=h.old (bA)
theorem SFr.alloc {s:Nat}{w:World}(o:Obj):SFr s w (w.alloc o):=SFr.of_below (bA)
theorem kS(s:Nat)(raw:List Int)(a:Nat)(sc:Sc)(vv av fv lv:Value)(l:List Bs)(w:World)(hs:As w s raw a)(hl:Ay (· ≠s) w l lv)(h:(sc.free||l.isEmpty)=true):
  Calls Zb 61 #[scV sc vv av fv,.pointer (some ⟨s,0,none⟩),lv] w (Dr w s raw (.string (Aa (Gj sc.free l raw a).1)) (Gj sc.free l raw a).2):=by
 obtain⟨l1,l2,rfl⟩:=hl.shape;have E:Hid (Gj sc.free l raw a=(Hn (Ad raw a 312).1,(Ad raw a 312).2)):=by show _=_;unfold Gj;rw[if_pos h]
 rw[E.out];have HS1:=Za (hs.alloc (.cells #[vv,av,fv,.bool sc.free,.bool sc.loop] 62));have HF1:Hid (SFr s w (w.alloc (.cells #[vv,av,fv,.bool sc.free,.bool sc.loop] 62))):=SFr.alloc _;clear hs hl E;have key:∀w1,As w1 s raw a→SFr s w w1→Calls Zb 24 #[.pointer (some ⟨s,0,none⟩),.int .i64 312] w1 (Dr w1 s raw (.int .i64 (Ad raw a 312).1) (Ad raw a 312).2):=fun w1 h1 h2=>Bn s raw a 312 w1 h1 (by decide) (by decide)
 have HK:=Za key;clear key;have HV:Hid (∀w,Calls Zb 63 #[.int .i64 (Ad raw a 312).1] w fun e w'=>e=.returned (.string (Aa (Hn (Ad raw a 312).1)))∧Below w.heap.size w w'):=fun w=>Ug _ (Lz raw a 312 (by decide) (by decide)) w
 generalize Ad raw a 312=g at*
 cases hf:sc.free
 ·have hl:l.length=0:=by rw[hf]at h;simpa using h
  rw[hl];clear hl h;rw[hf]at HS1 HF1;go_enter func61,ntmps61
  go_wp2_with fail
  refine(HK.o _ HS1.o HF1.o).mono ?_;rintro r w2 ⟨rfl,hs2,hf2⟩;have HS2:=Za hs2;have HF2:=Za (HF1.o.trans hf2);clear hs2 hf2;go_wp2_with fail
  refine(HV.o _).mono ?_;rintro r w3 ⟨rfl,hb3⟩;have HS3:=Za (HS2.o.old hb3);have HF3:=Za (HF2.o.trans (SFr.of_below hb3));clear hb3;go_wp2_with fail
  go_ret
  exact⟨rfl,HS3.o,HF3.o⟩
 ·clear h
  rw[hf]at HS1 HF1;go_enter func61,ntmps61
  go_wp2_with fail
  refine(HK.o _ HS1.o HF1.o).mono ?_;rintro r w2 ⟨rfl,hs2,hf2⟩;have HS2:=Za hs2;have HF2:=Za (HF1.o.trans hf2);clear hs2 hf2;go_wp2_with fail
  refine(HV.o _).mono ?_;rintro r w3 ⟨rfl,hb3⟩;have HS3:=Za (HS2.o.old hb3);have HF3:=Za (HF2.o.trans (SFr.of_below hb3));clear hb3;go_wp2_with fail
  go_ret
  exact⟨rfl,HS3.o,HF3.o⟩
theorem name_of(s:Nat)(raw:List Int)(a:Nat)(sc:Sc)(vv av fv lv:Value)(l:List Bs)(w:World)(hs:As w s raw a)(hl:Ay (· ≠s) w l lv)(h:(sc.free||l.isEmpty)=false)(hn:l.length≤1000000):
  Calls Zb 61 #[scV sc vv av fv,.pointer (some ⟨s,0,none⟩),lv] w (Dr w s raw (.string (Aa (Gj sc.free l raw a).1)) (Gj sc.free l raw a).2):=by
 obtain⟨l1,l2,rfl⟩:=hl.shape;have hpos:0<l.length:=Wa (by rw[h];simp);have hf:sc.free=false:=by revert h;cases sc.free<;>simp
 have E:Hid (Gj sc.free l raw a=(l.getD (Ad raw a l.length).1.toNat [],(Ad raw a l.length).2)):=by show _=_;unfold Gj;rw[if_neg (by rw[h];simp)]
 rw[E.out];have HS1:=Za (hs.alloc (.cells #[vv,av,fv,.bool sc.free,.bool sc.loop] 62));have HF1:Hid (SFr s w (w.alloc (.cells #[vv,av,fv,.bool sc.free,.bool sc.loop] 62))):=SFr.alloc _;have HK:Hid (∀w1,As w1 s raw a→Calls Zb 24 #[.pointer (some ⟨s,0,none⟩),.int .i64 l.length] w1 (Dr w1 s raw (.int .i64 (Ad raw a l.length).1) (Ad raw a l.length).2)):=fun w1 h1=>Bn s raw a l.length w1 h1 (by omega) (by omega)
 have hr:=Ak raw a l.length (by omega);have HL:=Za hl;have hne:((l.length:Int)==0)=false:=beq_eq_false_iff_ne.2 (by omega);clear hs hl E h;have hi64:=Lz raw a l.length (by omega) (by omega);clear hi64;generalize Ad raw a l.length=g at*;obtain⟨g,ga⟩:=g;obtain⟨g0,g1⟩:=hr;dsimp only at g0 g1 HK ⊢;obtain⟨i,rfl⟩:=Int.eq_ofNat_of_zero_le g0;rw[Int.toNat_natCast];have hi:i<l.length:=by omega
 unfold scV;rw[hf]at HS1 HF1 ⊢;clear hf;go_enter func61,ntmps61
 go_wp2_with fail
 refine(HK.o _ HS1.o).mono ?_;rintro r w2 ⟨rfl,hs2,hf2⟩;have HS2:=Za hs2;have HF2:=Za (HF1.o.trans hf2);clear hs2 hf2;obtain⟨b,off,rfl,hD,hbl,c⟩:=Js (Ay.keep HF2.o.keeps HL.o) i hi;generalize l.getD i []=x at*;clear hD;go_wp2_with fail
 go_ret
 exact⟨rfl,HS2.o,HF2.o⟩
theorem Tj(s:Nat)(raw:List Int)(a:Nat)(sc:Sc)(vv av fv lv:Value)(l:List Bs)(w:World)(hs:As w s raw a)(hl:Ay (· ≠s) w l lv)(hn:l.length≤1000000):
  Calls Zb 61 #[scV sc vv av fv,.pointer (some ⟨s,0,none⟩),lv] w (Dr w s raw (.string (Aa (Gj sc.free l raw a).1)) (Gj sc.free l raw a).2):=by
 cases h:(sc.free||l.isEmpty)
 ·exact name_of s raw a sc vv av fv lv l w hs hl h hn
 ·exact kS s raw a sc vv av fv lv l w hs hl h
theorem As.other {w:World}{s:Nat}{raw:List Int}{a:Nat}(h:As w s raw a){k:Nat}(hk:s<k)(i:Nat)(v:Value):As (w.setCell ⟨k,i,none⟩ v) s raw a:=by
 obtain⟨u,h1,h2,h3⟩:=h;exact⟨u,(Zf _ _ _ _ (by show s≠k;omega)).trans h1,h2.keep (Cq w (by omega) i v),h3⟩
theorem eY(s:Nat)(raw:List Int)(a:Nat)(sc:Sc)(vv av fv:Value)(w:World)(hs:As w s raw a)(hl:Bp (· ≠s) w sc.arrays av)(h:(sc.free||sc.arrays.isEmpty)=true):
  Calls Zb 28 #[scV sc vv av fv,.pointer (some ⟨s,0,none⟩)] w (Dr w s raw (.agg #[.string (Aa (Cr sc.free sc.arrays raw a).1.name),.int .i64 (Cr sc.free sc.arrays raw a).1.size]) (Cr sc.free sc.arrays raw a).2):=by
 obtain⟨l1,l2,rfl⟩:=hl.shape;have hsl:=hs.lt;have E:Hid (Cr sc.free sc.arrays raw a=(⟨Hn (Ad raw a 312).1,1+(Ad raw (Ad raw a 312).2 1000).1⟩,(Ad raw (Ad raw a 312).2 1000).2)):=by show _=_;unfold Cr;rw[if_pos h]
 rw[E.out];have HK:Hid (∀w1,As w1 s raw a→Calls Zb 24 #[.pointer (some ⟨s,0,none⟩),.int .i64 312] w1 (Dr w1 s raw (.int .i64 (Ad raw a 312).1) (Ad raw a 312).2)):=fun w1 h1=>Bn s raw a 312 w1 h1 (by decide) (by decide)
 have HV:Hid (∀w,Calls Zb 63 #[.int .i64 (Ad raw a 312).1] w fun e w'=>e=.returned (.string (Aa (Hn (Ad raw a 312).1)))∧Below w.heap.size w w'):=fun w=>Ug _ (Lz raw a 312 (by decide) (by decide)) w
 have HN:Hid (∀w1,As w1 s raw (Ad raw a 312).2→Calls Zb 24 #[.pointer (some ⟨s,0,none⟩),.int .i64 1000] w1 (Dr w1 s raw (.int .i64 (Ad raw (Ad raw a 312).2 1000).1) (Ad raw (Ad raw a 312).2 1000).2)):=fun w1 h1=>Bn s raw _ 1000 w1 h1 (by decide) (by decide)
 have hr:=Ak raw (Ad raw a 312).2 1000 (by decide);have hcase:(sc.free=false∧sc.arrays.length=0)∨sc.free=true:=by
  revert h;cases sc.free
  ·intro h;exact .inl ⟨rfl,by simpa using h⟩
  ·intro _;exact .inr rfl
 clear E h hl;unfold scV;generalize Ad raw (Ad raw a 312).2 1000=q at*;generalize Ad raw a 312=g at*;obtain⟨r0,r1⟩:=hr;generalize sc.free=fb at*;generalize sc.arrays.length=n at*;have hb1:Below w.heap.size w ((w.alloc (.cells #[vv,.slice l1 n l2,fv,.bool fb,.bool sc.loop] 62)).alloc (.cells #[.string ⟨#[]⟩,.int .i64 0] 66)):=(bA).alloc (by simp) _;have HS1:=Za (hs.old hb1);have HF1:Hid (SFr s w ((w.alloc (.cells #[vv,.slice l1 n l2,fv,.bool fb,.bool sc.loop] 62)).alloc (.cells #[.string ⟨#[]⟩,.int .i64 0] 66))):=SFr.of_below hb1;have hr1:=Al.new (w.alloc (.cells #[vv,.slice l1 n l2,fv,.bool fb,.bool sc.loop] 62)) [.string ⟨#[]⟩,.int .i64 0] 66;rw[show(w.alloc (.cells #[vv,.slice l1 n l2,fv,.bool fb,.bool sc.loop] 62)).heap.size=w.heap.size+1 by simp]at hr1;have HZ:Hid (w.heap.size+1≠s):=by show _≠_;omega
 have HR:=Za hr1;clear hs hb1 hr1;have hsx:s<w.heap.size+1:=by omega
 have hge:w.heap.size≤w.heap.size+1:=by omega
 rcases hcase with⟨rfl,rfl⟩|rfl
 all_goals
  go_enter func28,ntmps28
  go_wp2_with fail
  refine(HK.o _ HS1.o).mono ?_;rintro r w2 ⟨rfl,hs2,hf2⟩;have HS2:=Za hs2;have HF2:=Za (HF1.o.trans hf2);have HR2:=Za (HR.o.sfr hf2 HZ.o);clear hs2 hf2;go_wp2_with fail
  refine(HV.o _).mono ?_;rintro r w3 ⟨rfl,hb3⟩;have HS3:=Za (HS2.o.old hb3);have HF3:=Za (HF2.o.trans (SFr.of_below hb3));have HR3:=Za (HR2.o.old hb3);clear hb3;go_wp2_with fail
  refine(HN.o _ HS3.o).mono ?_;rintro r w4 ⟨rfl,hs4,hf4⟩;have HS4:=Za hs4;have HF4:=Za (HF3.o.trans hf4);have HR4:=Za (HR3.o.sfr hf4 HZ.o);clear hs4 hf4;have c0:=HR4.o.at 0 _ rfl;have c1:=HR4.o.at 1 _ rfl;have z0:=HR4.o.fz 0;have z1:=HR4.o.fz 1;have HR5:=Za ((HR4.o.set 0 (.string (Aa (Hn g.1)))).set 1 (.int .i64 (1+q.1)));have HS5:=Za ((HS4.o.other hsx 0 (.string (Aa (Hn g.1)))).other hsx 1 (.int .i64 (1+q.1)));have HF5:=Za ((HF4.o.setNew hge 0 (.string (Aa (Hn g.1)))).setNew hge 1 (.int .i64 (1+q.1)));go_wp2_with fail
  have d0:=HR5.o.at 0 _ rfl;have d1:=HR5.o.at 1 _ rfl;exact bodyPost_ret (v:=.agg #[.string (Aa (Hn g.1)),.int .i64 (1+q.1)]) (by simp [results,results28,go_sem,d0,d1]) rfl ⟨rfl,HS5.o,HF5.o⟩
theorem iI(s:Nat)(raw:List Int)(a:Nat)(sc:Sc)(vv av fv:Value)(w:World)(hs:As w s raw a)(hl:Bp (· ≠s) w sc.arrays av)(h:(sc.free||sc.arrays.isEmpty)=false)(hn:sc.arrays.length≤1000000):
  Calls Zb 28 #[scV sc vv av fv,.pointer (some ⟨s,0,none⟩)] w (Dr w s raw (.agg #[.string (Aa (Cr sc.free sc.arrays raw a).1.name),.int .i64 (Cr sc.free sc.arrays raw a).1.size]) (Cr sc.free sc.arrays raw a).2):=by
 obtain⟨l1,l2,rfl⟩:=hl.shape;have hsl:=hs.lt;have hpos:0<sc.arrays.length:=Wa (by rw[h];simp);have hf:sc.free=false:=by revert h;cases sc.free<;>simp
 have E:Hid (Cr sc.free sc.arrays raw a=(Dj sc.arrays (Ad raw a sc.arrays.length).1.toNat,(Ad raw a sc.arrays.length).2)):=by show _=_;unfold Cr;rw[if_neg (by rw[h];simp)]
 rw[E.out];have HK:Hid (∀w1,As w1 s raw a→Calls Zb 24 #[.pointer (some ⟨s,0,none⟩),.int .i64 sc.arrays.length] w1 (Dr w1 s raw (.int .i64 (Ad raw a sc.arrays.length).1) (Ad raw a sc.arrays.length).2)):=fun w1 h1=>Bn s raw a sc.arrays.length w1 h1 (by omega) (by omega)
 have hr:=Ak raw a sc.arrays.length (by omega);clear E h;generalize Ad raw a sc.arrays.length=g at*;obtain⟨g,ga⟩:=g;obtain⟨g0,g1⟩:=hr;dsimp only at g0 g1 HK ⊢;obtain⟨i,rfl⟩:=Int.eq_ofNat_of_zero_le g0;rw[Int.toNat_natCast];have hi:i<sc.arrays.length:=by omega
 obtain⟨eb,off,rfl,hD,hbl,c0,c1⟩:=Bp.cellAt hl i hi;have heb:eb≠s:=hD;generalize Dj sc.arrays i=x at*;have hne:((sc.arrays.length:Int)==0)=false:=beq_eq_false_iff_ne.2 (by omega);clear hl hD;unfold scV;rw[hf];clear hf;generalize sc.arrays.length=n at*;have hb1:Below w.heap.size w ((w.alloc (.cells #[vv,.slice (some ⟨eb,off,none⟩) n l2,fv,.bool false,.bool sc.loop] 62)).alloc (.cells #[.string ⟨#[]⟩,.int .i64 0] 66)):=(bA).alloc (by simp) _;have HS1:=Za (hs.old hb1);have HF1:Hid (SFr s w ((w.alloc (.cells #[vv,.slice (some ⟨eb,off,none⟩) n l2,fv,.bool false,.bool sc.loop] 62)).alloc (.cells #[.string ⟨#[]⟩,.int .i64 0] 66))):=SFr.of_below hb1;have hr1:=Al.new (w.alloc (.cells #[vv,.slice (some ⟨eb,off,none⟩) n l2,fv,.bool false,.bool sc.loop] 62)) [.string ⟨#[]⟩,.int .i64 0] 66;rw[show(w.alloc (.cells #[vv,.slice (some ⟨eb,off,none⟩) n l2,fv,.bool false,.bool sc.loop] 62)).heap.size=w.heap.size+1 by simp]at hr1;have hc1:=(Al.new w [vv,.slice (some ⟨eb,off,none⟩) n l2,fv,.bool false,.bool sc.loop] 62).alloc (.cells #[.string ⟨#[]⟩,.int .i64 0] 66);have e0:=Ac hb1 c0;have e1:=Ac hb1 c1;have HZ:Hid (w.heap.size+1≠s):=by show _≠_;omega
 have HY:Hid (w.heap.size≠s):=by show _≠_;omega
 have HR:=Za hr1;have HC:=Za hc1;have hsx:s<w.heap.size+1:=by omega
 have hge:w.heap.size≤w.heap.size+1:=by omega
 clear hs hb1 hr1 hc1 c0 c1;go_enter func28,ntmps28
 go_wp2_with fail
 generalize (w.alloc (.cells #[vv,.slice (some ⟨eb,off,none⟩) n l2,fv,.bool false,.bool sc.loop] 62)).alloc (.cells #[.string ⟨#[]⟩,.int .i64 0] 66)=W at*;have a1:=HC.o.at 1 _ rfl;have hdr:Below W.heap.size W W.drew:=(Below.refl _ _).drew;have HSd:=Za (HS1.o.old hdr);clear hdr;have hbe:eb≠w.heap.size+1:=by omega
 have hX1:w.heap.size+1<W.heap.size:=HR.o.lt;have z0:W.frozen? ⟨w.heap.size+1,0,none⟩=false:=HR.o.fz 0;have z1:W.frozen? ⟨w.heap.size+1,1,none⟩=false:=HR.o.fz 1;have y0:=HR.o.at 0 _ rfl;have y1:=HR.o.at 1 _ rfl
 go_region_held3 (fun w'=>w'.cell? ⟨w.heap.size,1,none⟩=some (.slice (some ⟨eb,off,none⟩) n l2)∧w'.cell? ⟨eb,off+i*2,none⟩=some (.string (Aa x.name))∧w'.cell? ⟨eb,off+i*2+1,none⟩=some (.int .i64 x.size)) (first|(simp [*,World.cell?_alloc_lt,Pn];done)|go_keep) (first
  |(go_at_call 24;refine(HK.o _ HSd.o).mono ?_;rintro r w4 ⟨he,hs4,hf4⟩;subst he;have HS4:=Za hs4;have HF4:=Za (HF1.o.trans ((SFr.of_below (Below.refl _ _).drew).trans hf4));have hR4:=(HR.o.old (Below.refl _ _).drew).sfr hf4 HZ.o;have HR4:=Za hR4;have k1:w4.cell? ⟨w.heap.size,1,none⟩=some (.slice (some ⟨eb,off,none⟩) n l2):=hf4.cell HY.o a1;have m0:w4.cell? ⟨eb,off+i*2,none⟩=some (.string (Aa x.name)):=hf4.cell heb e0;have m1:w4.cell? ⟨eb,off+i*2+1,none⟩=some (.int .i64 x.size):=hf4.cell heb e1;have u0:=hR4.at 0 _ rfl;have u1:=hR4.at 1 _ rfl;have v0:=hR4.fz 0;have v1:=hR4.fz 1;have hX4:w.heap.size+1<w4.heap.size:=hR4.lt;clear hR4 hs4 hf4))
 go_wp2_with fail
 have HR5:=Za ((HR4.o.set 0 (.string (Aa x.name))).set 1 (.int .i64 x.size));have HS5:=Za ((HS4.o.other hsx 0 (.string (Aa x.name))).other hsx 1 (.int .i64 x.size));have HF5:=Za ((HF4.o.setNew hge 0 (.string (Aa x.name))).setNew hge 1 (.int .i64 x.size));have d0:=HR5.o.at 0 _ rfl;have d1:=HR5.o.at 1 _ rfl;exact bodyPost_ret (v:=.agg #[.string (Aa x.name),.int .i64 x.size]) (by simp [results,results28,go_sem,d0,d1]) rfl ⟨rfl,HS5.o,HF5.o⟩
theorem Mm(s:Nat)(raw:List Int)(a:Nat)(sc:Sc)(vv av fv:Value)(w:World)(hs:As w s raw a)(hl:Bp (· ≠s) w sc.arrays av)(hn:sc.arrays.length≤1000000):
  Calls Zb 28 #[scV sc vv av fv,.pointer (some ⟨s,0,none⟩)] w (Dr w s raw (.agg #[.string (Aa (Cr sc.free sc.arrays raw a).1.name),.int .i64 (Cr sc.free sc.arrays raw a).1.size]) (Cr sc.free sc.arrays raw a).2):=by
 cases h:(sc.free||sc.arrays.isEmpty)
 ·exact iI s raw a sc vv av fv w hs hl h hn
 ·exact eY s raw a sc vv av fv w hs hl h
structure Ec (s:Nat)(w:World)(sc:Sc)(vv av fv:Value):Prop where
 vars:Ay (· ≠s) w sc.vars vv
 arrays:Bp (· ≠s) w sc.arrays av
 funcs:Bk (· ≠s) w sc.funcs fv
 v1:sc.vars.length≤1000000
 a1:sc.arrays.length≤1000000
 f1:sc.funcs.length≤1000000
 p1:∀f,f∈sc.funcs→f.params.length≤1000000
theorem Ec.sfr {s:Nat}{w w':World}{sc:Sc}{vv av fv:Value}(h:Ec s w sc vv av fv)(hf:SFr s w w'):Ec s w' sc vv av fv:=
 ⟨h.vars.keep hf.keeps,h.arrays.keep hf.keeps,h.funcs.keep hf.keeps,h.v1,h.a1,h.f1,h.p1⟩
def El(w:World)(s:Nat)(raw:List Int)(x:Ex ×Nat)(r:Ending)(w':World):Prop:=
 ∃v,r=.returned (exV x.1 v)∧As w' s raw x.2∧SFr s w w'∧Aj (w.heap.size≤ ·) w' x.1.args v∧I64 x.1.n
def Hh(d:Nat):Prop:= ∀(s:Nat) (raw:List Int) (a:Nat) (sc:Sc) (vv av fv:Value) (w:World),As w s raw a→Ec s w sc vv av fv→
 Calls Zb 27 #[scV sc vv av fv,.pointer (some ⟨s,0,none⟩),.int .i64 d] w (El w s raw (Az sc raw d a))
theorem Ry(sc:Sc):sc.hasVars=(decide (0<sc.vars.length)||sc.free):=by
 unfold Sc.hasVars;cases sc.vars<;>simp
theorem Oa(sc:Sc):sc.hasArrays=(decide (0<sc.arrays.length)||sc.free):=by
 unfold Sc.hasArrays;cases sc.arrays<;>simp
theorem Pv(sc:Sc):sc.hasFuncs=(decide (0<sc.funcs.length)||sc.free):=by
 unfold Sc.hasFuncs;cases sc.funcs<;>simp
def gTop(sc:Sc)(raw:List Int)(d a:Nat):Ex ×Nat:=Eg sc raw (Az sc raw (d-1)) (gK raw d a) (Ad raw a 12).2
theorem fS(sc:Sc)(raw:List Int)(g h:Nat→Ex ×Nat)(k:Int)(a:Nat)(hk:k<4):Eg sc raw g k a=Eg sc raw h k a:=by
 unfold Eg;split
 ·rfl
 split
 ·rfl
 simp only[hk,if_true]
theorem fT(sc:Sc)(raw:List Int)(d a:Nat):Az sc raw d a=gTop sc raw d a:=by
 cases d with
 |zero=>rw[Az];unfold Pg gTop;exact fS _ _ _ _ _ _ (Uc raw 0 a (by omega))
 |succ d=>rw[Az];unfold Pg gTop;rw[Nat.add_sub_cancel]
def Yr(n:Nat):Code→Option Code
 |.seq (.region k o d) b=>if k==n then some b else Yr n b
 |.seq a b=>Yr n b
 |_=>none
noncomputable def geCode:Code:=(Tryz.f27.body.bind (Yr 6)).getD .skip
structure GeH (d s:Nat)(raw:List Int)(sc:Sc)(v1:Option Addr)(v2:Nat)(a1:Option Addr)(a2:Nat)(f1:Option Addr)(f2:Nat)(ga:Nat)(k:Int)(w w2:World):Prop where
 hd1:d≤1000
 lv:sc.vars.length≤1000000
 la:sc.arrays.length≤1000000
 lf:sc.funcs.length≤1000000
 hsl:s<w.heap.size
 hsc:Ec s w sc (.slice v1 sc.vars.length v2) (.slice a1 sc.arrays.length a2) (.slice f1 sc.funcs.length f2)
 hS2:As w2 s raw ga
 hF2:SFr s w w2
 hR2:Al w2 (w.heap.size+1) [.int .i64 0,.int .i64 0,.int .i64 0,.string ⟨#[]⟩,.slice none 0 0] 31
 hC2:Al w2 w.heap.size [.slice v1 sc.vars.length v2,.slice a1 sc.arrays.length a2,.slice f1 sc.funcs.length f2,.bool sc.free,.bool sc.loop] 62
 g0:0≤k
 g1:k<12
def GeG(d s:Nat)(raw:List Int)(sc:Sc)(v1:Option Addr)(v2:Nat)(a1:Option Addr)(a2:Nat)(f1:Option Addr)(f2:Nat)(k:Int)(w w2:World)(x:Ex ×Nat):Prop:=
 ∀q4 q5 q11 q12 q13 q14 q15 q16 q17 q18 q19 q20 q21 q22 q23 q24 q25 q26 q27 q28 q29 q30 q31 q32 q33 q34 q35 q36 q37 q38 q39 q40 q41 q42 q43 q44 q45 q46 q47 q48 q49 q50 q51 q52 q53 q54 q55 q56 q57 q58 q59 q60 q61 q62 q63 q64 q65 q66 q67 q68 q69 q70 q71 q72 q73 q74 q75 q76 q77 q78 q79 q80 q81 q82 q83 q84 q85 q86 q87 q88 q89 q90 q91 q92 q93 q94 q95 q96 q97 q98 q99 q100 q101 q102 q103 q104 q105 q106 q107 q108 q109 q110 q111 q112 q113 q114 q115 q116 q117 q118 q119 q120 q121 q122 q123 q124 q125 q126 q127 q128 q129 q130 q131 q132 q133 q134 q135 q136 q137 q138 q139 q140 q141 q142 q143 q144 q145 q146 q147 q148 q149 q150:Value,Code.wp Zb geCode (bodyPost Zb Tryz.f27 (El w s raw x)) ⟨[scV sc (.slice v1 sc.vars.length v2) (.slice a1 sc.arrays.length a2) (.slice f1 sc.funcs.length f2),.pointer (some ⟨s,0,none⟩),.int .i64 d,.pointer (some ⟨w.heap.size,0,none⟩),q4,q5,.pointer (some ⟨w.heap.size+1,0,none⟩),.int .i64 k,.bool sc.hasVars,.bool sc.hasArrays,.bool sc.hasFuncs,q11,q12,q13,q14,q15,q16,q17,q18,q19,q20,q21,q22,q23,q24,q25,q26,q27,q28,q29,q30,q31,q32,q33,q34,q35,q36,q37,q38,q39,q40,q41,q42,q43,q44,q45,q46,q47,q48,q49,q50,q51,q52,q53,q54,q55,q56,q57,q58,q59,q60,q61,q62,q63,q64,q65,q66,q67,q68,q69,q70,q71,q72,q73,q74,q75,q76,q77,q78,q79,q80,q81,q82,q83,q84,q85,q86,q87,q88,q89,q90,q91,q92,q93,q94,q95,q96,q97,q98,q99,q100,q101,q102,q103,q104,q105,q106,q107,q108,q109,q110,q111,q112,q113,q114,q115,q116,q117,q118,q119,q120,q121,q122,q123,q124,q125,q126,q127,q128,q129,q130,q131,q132,q133,q134,q135,q136,q137,q138,q139,q140,q141,q142,q143,q144,q145,q146,q147,q148,q149,q150].toArray,[]⟩ w2
theorem ge_pre {d s:Nat}(hd1:d≤1000){raw:List Int}{a:Nat}{sc:Sc}{v1:Option Addr}{v2:Nat}{a1:Option Addr}{a2:Nat}{f1:Option Addr}{f2:Nat}{w:World}(hs:As w s raw a)(hsc:Ec s w sc (.slice v1 sc.vars.length v2) (.slice a1 sc.arrays.length a2) (.slice f1 sc.funcs.length f2)){k:Int}(hkk:gK raw d a=k){x:Ex ×Nat}(H:∀w2,GeH d s raw sc v1 v2 a1 a2 f1 f2 (Ad raw a 12).2 k w w2→GeG d s raw sc v1 v2 a1 a2 f1 f2 k w w2 x):
  Calls Zb 27 #[scV sc (.slice v1 sc.vars.length v2) (.slice a1 sc.arrays.length a2) (.slice f1 sc.funcs.length f2),.pointer (some ⟨s,0,none⟩),.int .i64 d] w (El w s raw x):=by
 have lv:=hsc.v1;have la:=hsc.a1;have lf:=hsc.f1;have hsl:=hs.lt;have HK:Hid (∀w1,As w1 s raw a→Calls Zb 24 #[.pointer (some ⟨s,0,none⟩),.int .i64 12] w1 (Dr w1 s raw (.int .i64 (Ad raw a 12).1) (Ad raw a 12).2)):=fun w1 h1=>Bn s raw a 12 w1 h1 (by decide) (by decide)
 have hr:=Ak raw a 12 (by decide);have hr0:0≤k∧k<12:=by rw[←hkk];unfold gK;split<;>omega
 have hcase:(d<2∧(Ad raw a 12).1 % 4=k)∨(2≤d∧(Ad raw a 12).1=k):=by
  unfold gK at hkk;split at hkk
  ·exact .inl ⟨by omega,hkk⟩
  ·exact .inr ⟨by omega,hkk⟩
 clear hkk;have HH:=Za H;clear H;generalize Ad raw a 12=g at*;obtain⟨g,ga⟩:=g;obtain⟨g0,g1⟩:=hr0;dsimp only at hr hcase HK HH;have hb1:Below w.heap.size w ((w.alloc (.cells #[.slice v1 sc.vars.length v2,.slice a1 sc.arrays.length a2,.slice f1 sc.funcs.length f2,.bool sc.free,.bool sc.loop] 62)).alloc (.cells #[.int .i64 0,.int .i64 0,.int .i64 0,.string ⟨#[]⟩,.slice none 0 0] 31)):=(bA).alloc (by simp) _;have hr1:=Al.new (w.alloc (.cells #[.slice v1 sc.vars.length v2,.slice a1 sc.arrays.length a2,.slice f1 sc.funcs.length f2,.bool sc.free,.bool sc.loop] 62)) [.int .i64 0,.int .i64 0,.int .i64 0,.string ⟨#[]⟩,.slice none 0 0] 31;rw[show(w.alloc (.cells #[.slice v1 sc.vars.length v2,.slice a1 sc.arrays.length a2,.slice f1 sc.funcs.length f2,.bool sc.free,.bool sc.loop] 62)).heap.size=w.heap.size+1 by simp]at hr1;have HC:=Za ((Al.new w [.slice v1 sc.vars.length v2,.slice a1 sc.arrays.length a2,.slice f1 sc.funcs.length f2,.bool sc.free,.bool sc.loop] 62).alloc (.cells #[.int .i64 0,.int .i64 0,.int .i64 0,.string ⟨#[]⟩,.slice none 0 0] 31));have HR:=Za hr1;have HS1:=Za (hs.old hb1);have HF1:Hid (SFr s w ((w.alloc (.cells #[.slice v1 sc.vars.length v2,.slice a1 sc.arrays.length a2,.slice f1 sc.funcs.length f2,.bool sc.free,.bool sc.loop] 62)).alloc (.cells #[.int .i64 0,.int .i64 0,.int .i64 0,.string ⟨#[]⟩,.slice none 0 0] 31))):=SFr.of_below hb1;have HSC:=Za hsc;have HZ:Hid (w.heap.size+1≠s):=by show _≠_;omega
 have HY:Hid (w.heap.size≠s):=by show _≠_;omega
 have hsx:s<w.heap.size+1:=by omega
 have hge:w.heap.size≤w.heap.size+1:=by omega
 have hd0:(0:Int)≤(d:Int):=by omega
 have hdM:(d:Int)≤1000:=by omega
 have hva:Hid (sc.hasVars=(decide (0<sc.vars.length)||sc.free)):=Ry sc;have haa:Hid (sc.hasArrays=(decide (0<sc.arrays.length)||sc.free)):=Oa sc;have hfa:Hid (sc.hasFuncs=(decide (0<sc.funcs.length)||sc.free)):=Pv sc;clear hb1 hr1 hs hsc;rcases hcase with⟨hd,hkk⟩|⟨hd,hkk⟩
 ·have hdI:(d:Int)<2:=by omega
  have HKK:=Za hkk;clear hkk;go_enter func27,ntmps27
  go_wp2_with fail
  refine(HK.o _ HS1.o).mono ?_;rintro r w2 ⟨rfl,hs2,hf2⟩;have HS2:=Za hs2;have HF2:=Za (HF1.o.trans hf2);have HR2:=Za (HR.o.sfr hf2 HZ.o);have HC2:=Za (HC.o.sfr hf2 HY.o);clear hs2 hf2 HS1 HF1 HR HC HK;have b0:=HC2.o.at 0 _ rfl;have b1:=HC2.o.at 1 _ rfl;have b2:=HC2.o.at 2 _ rfl;have b3:=HC2.o.at 3 _ rfl;have b4:=HC2.o.at 4 _ rfl;go_upto_region 4 with(fail)
  go_cut [8] (fun q wx=>q=.bool sc.hasVars∧w2=wx)
  case first=>
   by_cases hlv:0<sc.vars.length
   ·have hlv':(0:Int)<(sc.vars.length:Int):=by omega
    go_wp2_with fail
    go_meet;exact⟨by rw[hva.out,decide_eq_true hlv];rfl,rfl⟩
   ·have hlv':(sc.vars.length:Int)≤0:=by omega
    go_wp2_with fail
    go_meet;exact⟨by rw[hva.out,decide_eq_false hlv];rfl,rfl⟩
  case rest=>
  obtain⟨rfl,rfl⟩:=hcut;go_upto_region 5 with(fail)
  go_cut [9] (fun q wx=>q=.bool sc.hasArrays∧w2=wx)
  case first=>
   by_cases hlv:0<sc.arrays.length
   ·have hlv':(0:Int)<(sc.arrays.length:Int):=by omega
    go_wp2_with fail
    go_meet;exact⟨by rw[haa.out,decide_eq_true hlv];rfl,rfl⟩
   ·have hlv':(sc.arrays.length:Int)≤0:=by omega
    go_wp2_with fail
    go_meet;exact⟨by rw[haa.out,decide_eq_false hlv];rfl,rfl⟩
  case rest=>
  obtain⟨rfl,rfl⟩:=hcut;go_upto_region 6 with(fail)
  go_cut [10] (fun q wx=>q=.bool sc.hasFuncs∧w2=wx)
  case first=>
   by_cases hlv:0<sc.funcs.length
   ·have hlv':(0:Int)<(sc.funcs.length:Int):=by omega
    go_wp2_with fail
    go_meet;exact⟨by rw[hfa.out,decide_eq_true hlv];rfl,rfl⟩
   ·have hlv':(sc.funcs.length:Int)≤0:=by omega
    go_wp2_with fail
    go_meet;exact⟨by rw[hfa.out,decide_eq_false hlv];rfl,rfl⟩
  case rest=>
  obtain⟨rfl,rfl⟩:=hcut;rw[HKK.o];apply_assumption
  refine HH.o w2 ⟨hd1,lv,la,lf,hsl,HSC.o,HS2.o,HF2.o,HR2.o,HC2.o,g0,g1⟩ _ _ _ _ _ _ _ _ _ _ _ _ _ _ _ _ _ _ _ _ _ _ _ _ _ _ _ _ _ _ _ _ _ _ _ _ _ _ _ _ _ _ _ _ _ _ _ _ _ _ _ _ _ _ _ _ _ _ _ _ _ _ _ _ _ _ _ _ _ _ _ _ _ _ _ _ _ _ _ _ _ _ _ _ _ _ _ _ _ _ _ _ _ _ _ _ _ _ _ _ _ _ _ _ _ _ _ _ _ _ _ _ _ _ _ _ _ _ _ _ _ _ _ _ _ _ _ _ _ _ _ _ _ _ _ _ _ _ _ _ _ _
 ·have hdI:(2:Int)≤(d:Int):=by omega
  subst hkk;go_enter func27,ntmps27
  go_wp2_with fail
  refine(HK.o _ HS1.o).mono ?_;rintro r w2 ⟨rfl,hs2,hf2⟩;have HS2:=Za hs2;have HF2:=Za (HF1.o.trans hf2);have HR2:=Za (HR.o.sfr hf2 HZ.o);have HC2:=Za (HC.o.sfr hf2 HY.o);clear hs2 hf2 HS1 HF1 HR HC HK;have b0:=HC2.o.at 0 _ rfl;have b1:=HC2.o.at 1 _ rfl;have b2:=HC2.o.at 2 _ rfl;have b3:=HC2.o.at 3 _ rfl;have b4:=HC2.o.at 4 _ rfl;go_upto_region 4 with(fail)
  go_cut [8] (fun q wx=>q=.bool sc.hasVars∧w2=wx)
  case first=>
   by_cases hlv:0<sc.vars.length
   ·have hlv':(0:Int)<(sc.vars.length:Int):=by omega
    go_wp2_with fail
    go_meet;exact⟨by rw[hva.out,decide_eq_true hlv];rfl,rfl⟩
   ·have hlv':(sc.vars.length:Int)≤0:=by omega
    go_wp2_with fail
    go_meet;exact⟨by rw[hva.out,decide_eq_false hlv];rfl,rfl⟩
  case rest=>
  obtain⟨rfl,rfl⟩:=hcut;go_upto_region 5 with(fail)
  go_cut [9] (fun q wx=>q=.bool sc.hasArrays∧w2=wx)
  case first=>
   by_cases hlv:0<sc.arrays.length
   ·have hlv':(0:Int)<(sc.arrays.length:Int):=by omega
    go_wp2_with fail
    go_meet;exact⟨by rw[haa.out,decide_eq_true hlv];rfl,rfl⟩
   ·have hlv':(sc.arrays.length:Int)≤0:=by omega
    go_wp2_with fail
    go_meet;exact⟨by rw[haa.out,decide_eq_false hlv];rfl,rfl⟩
  case rest=>
  obtain⟨rfl,rfl⟩:=hcut;go_upto_region 6 with(fail)
  go_cut [10] (fun q wx=>q=.bool sc.hasFuncs∧w2=wx)
  case first=>
   by_cases hlv:0<sc.funcs.length
   ·have hlv':(0:Int)<(sc.funcs.length:Int):=by omega
    go_wp2_with fail
    go_meet;exact⟨by rw[hfa.out,decide_eq_true hlv];rfl,rfl⟩
   ·have hlv':(sc.funcs.length:Int)≤0:=by omega
    go_wp2_with fail
    go_meet;exact⟨by rw[hfa.out,decide_eq_false hlv];rfl,rfl⟩
  case rest=>
  obtain⟨rfl,rfl⟩:=hcut;apply_assumption
  refine HH.o w2 ⟨hd1,lv,la,lf,hsl,HSC.o,HS2.o,HF2.o,HR2.o,HC2.o,g0,g1⟩ _ _ _ _ _ _ _ _ _ _ _ _ _ _ _ _ _ _ _ _ _ _ _ _ _ _ _ _ _ _ _ _ _ _ _ _ _ _ _ _ _ _ _ _ _ _ _ _ _ _ _ _ _ _ _ _ _ _ _ _ _ _ _ _ _ _ _ _ _ _ _ _ _ _ _ _ _ _ _ _ _ _ _ _ _ _ _ _ _ _ _ _ _ _ _ _ _ _ _ _ _ _ _ _ _ _ _ _ _ _ _ _ _ _ _ _ _ _ _ _ _ _ _ _ _ _ _ _ _ _ _ _ _ _ _ _ _ _ _ _ _ _
theorem iF {d s:Nat}{raw:List Int}{sc:Sc}{v1:Option Addr}{v2:Nat}{a1:Option Addr}{a2:Nat}{f1:Option Addr}{f2:Nat}{ga:Nat}{k:Int}{w w2:World}(h:GeH d s raw sc v1 v2 a1 a2 f1 f2 ga k w w2)(hk:k=1∨k=2)(hv:sc.hasVars=true):GeG d s raw sc v1 v2 a1 a2 f1 f2 k w w2 (Eg sc raw (Az sc raw (d-1)) k ga):=by
 obtain⟨hd1,lv,la,lf,hsl,hsc,hS2,hF2,hR2,hC2,g0,g1⟩:=h;have HSC:=Za hsc;have HS2:=Za hS2;have HF2:=Za hF2;have HR2:=Za hR2;have HC2:=Za hC2;have HZ:Hid (w.heap.size+1≠s):=by show _≠_;omega
 have HY:Hid (w.heap.size≠s):=by show _≠_;omega
 have hsx:s<w.heap.size+1:=by omega
 have hge:w.heap.size≤w.heap.size+1:=by omega
 have hd0:(0:Int)≤(d:Int):=by omega
 have hdM:(d:Int)≤1000:=by omega
 clear hsc hS2 hF2 hR2 hC2;have E:Eg sc raw (Az sc raw (d-1)) k ga=(.mk 2 0 0 (Gj sc.free sc.vars raw ga).1 [],(Gj sc.free sc.vars raw ga).2):=by unfold Eg;rw[if_pos ⟨hk,hv⟩]
 rw[E];clear E;have HNM:Hid (∀w1,As w1 s raw ga→Ay (· ≠s) w1 sc.vars (.slice v1 sc.vars.length v2)→Calls Zb 61 #[scV sc (.slice v1 sc.vars.length v2) (.slice a1 sc.arrays.length a2) (.slice f1 sc.funcs.length f2),.pointer (some ⟨s,0,none⟩),.slice v1 sc.vars.length v2] w1 (Dr w1 s raw (.string (Aa (Gj sc.free sc.vars raw ga).1)) (Gj sc.free sc.vars raw ga).2)):=fun w1 h1 h2=>Tj s raw ga sc _ _ _ _ sc.vars w1 h1 h2 lv
 generalize Gj sc.free sc.vars raw ga=n at*;unfold GeG;intros
 conv=>arg 2;whnf
 rcases hk with rfl|rfl
 all_goals
  have b0:=HC2.o.at 0 _ rfl;have b1:=HC2.o.at 1 _ rfl;have b2:=HC2.o.at 2 _ rfl;have b3:=HC2.o.at 3 _ rfl;have b4:=HC2.o.at 4 _ rfl;go_wp2_with fail
  refine(HNM.o _ HS2.o (HSC.o.vars.keep HF2.o.keeps)).mono ?_;rintro r w3 ⟨rfl,hs3,hf3⟩;have HS3:=Za hs3;have HF3:=Za (HF2.o.trans hf3);have HR3:=Za (HR2.o.sfr hf3 HZ.o);have HC3:=Za (HC2.o.sfr hf3 HY.o);clear hs3 hf3;have x0:=HR3.o.at 0 _ rfl;have x1:=HR3.o.at 1 _ rfl;have x2:=HR3.o.at 2 _ rfl;have x3:=HR3.o.at 3 _ rfl;have x4:=HR3.o.at 4 _ rfl;have fx0:=HR3.o.fz 0;have fx1:=HR3.o.fz 1;have fx2:=HR3.o.fz 2;have fx3:=HR3.o.fz 3;have fx4:=HR3.o.fz 4;have HRE:=Za (((((HR3.o.set 0 (.int .i64 2)).set 1 (.int .i64 0)).set 2 (.int .i64 0)).set 3 (.string (Aa n.1))).set 4 (.slice none 0 0));have HSE:=Za (((((HS3.o.other hsx 0 (.int .i64 2)).other hsx 1 (.int .i64 0)).other hsx 2 (.int .i64 0)).other hsx 3 (.string (Aa n.1))).other hsx 4 (.slice none 0 0));have HFE:=Za (((((HF3.o.setNew hge 0 (.int .i64 2)).setNew hge 1 (.int .i64 0)).setNew hge 2 (.int .i64 0)).setNew hge 3 (.string (Aa n.1))).setNew hge 4 (.slice none 0 0));go_wp2_with fail
  have d0:=HRE.o.at 0 _ rfl;have d1:=HRE.o.at 1 _ rfl;have d2:=HRE.o.at 2 _ rfl;have d3:=HRE.o.at 3 _ rfl;have d4:=HRE.o.at 4 _ rfl;exact bodyPost_ret (v:=.agg #[.int .i64 2,.int .i64 0,.int .i64 0,.string (Aa n.1),.slice none 0 0]) (by simp [results,results27,go_sem,d0,d1,d2,d3,d4]) rfl ⟨.slice none 0 0,rfl,HSE.o,HFE.o,Aj.zero,(Dw ⟨by show _≤(0:Int);decide,by show(0:Int)≤_;decide⟩)⟩
theorem ge_read {d s:Nat}{raw:List Int}{sc:Sc}{v1:Option Addr}{v2:Nat}{a1:Option Addr}{a2:Nat}{f1:Option Addr}{f2:Nat}{ga:Nat}{k:Int}{w w2:World}(h:GeH d s raw sc v1 v2 a1 a2 f1 f2 ga k w w2)(hk:k=3)(hq:(Ad raw ga 3).1=2):GeG d s raw sc v1 v2 a1 a2 f1 f2 k w w2 (Eg sc raw (Az sc raw (d-1)) k ga):=by
 obtain⟨hd1,lv,la,lf,hsl,hsc,hS2,hF2,hR2,hC2,g0,g1⟩:=h;have HSC:=Za hsc;have HS2:=Za hS2;have HF2:=Za hF2;have HR2:=Za hR2;have HC2:=Za hC2;have HZ:Hid (w.heap.size+1≠s):=by show _≠_;omega
 have HY:Hid (w.heap.size≠s):=by show _≠_;omega
 have hsx:s<w.heap.size+1:=by omega
 have hge:w.heap.size≤w.heap.size+1:=by omega
 have hd0:(0:Int)≤(d:Int):=by omega
 have hdM:(d:Int)≤1000:=by omega
 clear hsc hS2 hF2 hR2 hC2;have E:Eg sc raw (Az sc raw (d-1)) k ga=(.mk 7 0 0 [] [],(Ad raw ga 3).2):=by unfold Eg;rw[if_neg (by omega),if_pos ⟨hk,hq⟩]
 rw[E];clear E;have HN:Hid (∀w1,As w1 s raw ga→Calls Zb 24 #[.pointer (some ⟨s,0,none⟩),.int .i64 3] w1 (Dr w1 s raw (.int .i64 (Ad raw ga 3).1) (Ad raw ga 3).2)):=fun w1 h1=>Bn s raw ga 3 w1 h1 (by decide) (by decide)
 have qr:=Ak raw ga 3 (by decide);generalize Ad raw ga 3=q at*;obtain⟨q,qa⟩:=q;dsimp only at*;subst hq;unfold GeG;intros
 conv=>arg 2;whnf
 subst hk;go_wp2_with fail
 refine(HN.o _ HS2.o).mono ?_;rintro r w3 ⟨rfl,hs3,hf3⟩;have HS3:=Za hs3;have HF3:=Za (HF2.o.trans hf3);have HR3:=Za (HR2.o.sfr hf3 HZ.o);have HC3:=Za (HC2.o.sfr hf3 HY.o);clear hs3 hf3;have x0:=HR3.o.at 0 _ rfl;have x1:=HR3.o.at 1 _ rfl;have x2:=HR3.o.at 2 _ rfl;have x3:=HR3.o.at 3 _ rfl;have x4:=HR3.o.at 4 _ rfl;have fx0:=HR3.o.fz 0;have fx1:=HR3.o.fz 1;have fx2:=HR3.o.fz 2;have fx3:=HR3.o.fz 3;have fx4:=HR3.o.fz 4;have HRE:=Za (((((HR3.o.set 0 (.int .i64 7)).set 1 (.int .i64 0)).set 2 (.int .i64 0)).set 3 (.string ⟨#[]⟩)).set 4 (.slice none 0 0));have HSE:=Za (((((HS3.o.other hsx 0 (.int .i64 7)).other hsx 1 (.int .i64 0)).other hsx 2 (.int .i64 0)).other hsx 3 (.string ⟨#[]⟩)).other hsx 4 (.slice none 0 0));have HFE:=Za (((((HF3.o.setNew hge 0 (.int .i64 7)).setNew hge 1 (.int .i64 0)).setNew hge 2 (.int .i64 0)).setNew hge 3 (.string ⟨#[]⟩)).setNew hge 4 (.slice none 0 0));go_wp2_with fail
 have d0:=HRE.o.at 0 _ rfl;have d1:=HRE.o.at 1 _ rfl;have d2:=HRE.o.at 2 _ rfl;have d3:=HRE.o.at 3 _ rfl;have d4:=HRE.o.at 4 _ rfl;exact bodyPost_ret (v:=.agg #[.int .i64 7,.int .i64 0,.int .i64 0,.string ⟨#[]⟩,.slice none 0 0]) (by simp [results,results27,go_sem,d0,d1,d2,d3,d4]) rfl ⟨.slice none 0 0,rfl,HSE.o,HFE.o,Aj.zero,(Dw ⟨by show _≤(0:Int);decide,by show(0:Int)≤_;decide⟩)⟩
theorem ge_one {d s:Nat}{raw:List Int}{sc:Sc}{v1:Option Addr}{v2:Nat}{a1:Option Addr}{a2:Nat}{f1:Option Addr}{f2:Nat}{ga:Nat}{k:Int}{w w2:World}(hd:2≤d)(h:GeH d s raw sc v1 v2 a1 a2 f1 f2 ga k w w2)(hk:k=4)(ih:Hh (d-1)):GeG d s raw sc v1 v2 a1 a2 f1 f2 k w w2 (Eg sc raw (Az sc raw (d-1)) k ga):=by
 obtain⟨hd1,lv,la,lf,hsl,hsc,hS2,hF2,hR2,hC2,g0,g1⟩:=h;have HSC:=Za hsc;have HS2:=Za hS2;have HF2:=Za hF2;have HR2:=Za hR2;have HC2:=Za hC2;have HZ:Hid (w.heap.size+1≠s):=by show _≠_;omega
 have HY:Hid (w.heap.size≠s):=by show _≠_;omega
 have hsx:s<w.heap.size+1:=by omega
 have hge:w.heap.size≤w.heap.size+1:=by omega
 have hd0:(0:Int)≤(d:Int):=by omega
 have hdI:(2:Int)≤(d:Int):=by omega
 have hdM:(d:Int)≤1000:=by omega
 clear hsc hS2 hF2 hR2 hC2;have E:Eg sc raw (Az sc raw (d-1)) k ga=(.mk 3 (17+(Ad raw ga 3).1) 0 [] [(Az sc raw (d-1) (Ad raw ga 3).2).1],(Az sc raw (d-1) (Ad raw ga 3).2).2):=by unfold Eg;rw[if_neg (by omega),if_neg (by omega),if_neg (by omega),if_pos hk]
 rw[E];clear E;have HN:Hid (∀w1,As w1 s raw ga→Calls Zb 24 #[.pointer (some ⟨s,0,none⟩),.int .i64 3] w1 (Dr w1 s raw (.int .i64 (Ad raw ga 3).1) (Ad raw ga 3).2)):=fun w1 h1=>Bn s raw ga 3 w1 h1 (by decide) (by decide)
 have qr:=Ak raw ga 3 (by decide);generalize Ad raw ga 3=q at*;obtain⟨q,qa⟩:=q;dsimp only at*;have HDM:Hid (((d-1:Nat):Int)=(d:Int)-1):=by show _=_;omega
 have HIH:Hid (∀w1 b,As w1 s raw b→Ec s w1 sc (.slice v1 sc.vars.length v2) (.slice a1 sc.arrays.length a2) (.slice f1 sc.funcs.length f2)→Calls Zb 27 #[scV sc (.slice v1 sc.vars.length v2) (.slice a1 sc.arrays.length a2) (.slice f1 sc.funcs.length f2),.pointer (some ⟨s,0,none⟩),.int .i64 ((d:Int)-1)] w1 (El w1 s raw (Az sc raw (d-1) b))):=fun w1 b h1 h2=>by have q:=ih s raw b sc _ _ _ w1 h1 h2;rw[HDM.o]at q;exact q
 obtain⟨q0,q1⟩:=qr;unfold GeG;intros
 conv=>arg 2;whnf
 subst hk;have b0:=HC2.o.at 0 _ rfl;have b1:=HC2.o.at 1 _ rfl;have b2:=HC2.o.at 2 _ rfl;have b3:=HC2.o.at 3 _ rfl;have b4:=HC2.o.at 4 _ rfl;go_wp2_with fail
 refine(HN.o _ HS2.o).mono ?_;rintro r w3 ⟨rfl,hs3,hf3⟩;have HS3:=Za hs3;have HF3:=Za (HF2.o.trans hf3);have HR3:=Za (HR2.o.sfr hf3 HZ.o);have HC3:=Za (HC2.o.sfr hf3 HY.o);clear hs3 hf3;clear b0 b1 b2 b3 b4;have b0:=HC3.o.at 0 _ rfl;have b1:=HC3.o.at 1 _ rfl;have b2:=HC3.o.at 2 _ rfl;have b3:=HC3.o.at 3 _ rfl;have b4:=HC3.o.at 4 _ rfl;go_wp2_with fail
 refine(HIH.o _ qa HS3.o (HSC.o.sfr HF3.o)).mono ?_;generalize Az sc raw (d-1) qa=x at*;obtain⟨x,xa⟩:=x;rintro r w4 ⟨xv,rfl,hs4,hf4,hx4,hn4⟩;obtain⟨xs,xc,rfl⟩:=hx4.shape;dsimp only at hs4 hx4 hn4 ⊢;have HS4:=Za hs4;have HF4:=Za (HF3.o.trans hf4);have HR4:=Za (HR3.o.sfr hf4 HZ.o);have HC4:=Za (HC3.o.sfr hf4 HY.o);have hg4:w.heap.size+2≤w3.heap.size:=by have:=HR3.o.lt;omega
 have Hx:=Za (hx4.mono (D':=(w.heap.size+2≤ ·)) (fun b h=>Ze hg4 h));have HNx:=Za hn4;have HFJ4:=Za hf4;clear hs4 hf4 hx4 hn4;clear b0 b1 b2 b3 b4;have hB:w.heap.size+1<w.heap.size+2:=by omega
 have hw5:Below w4.heap.size w4 (w4.alloc (.cells #[.int .i64 x.kind,.int .i64 x.op,.int .i64 x.n,.string (Aa x.name),.slice xs x.args.length xc] 31)):=bA;have HS5:=Za (HS4.o.old hw5);have HF5:=Za (HF4.o.trans (SFr.of_below hw5));have HR5:=Za (HR4.o.old hw5);have HC5:=Za (HC4.o.old hw5);have HX5:Hid (Aj (w.heap.size+2≤ ·) (w4.alloc (.cells #[.int .i64 x.kind,.int .i64 x.op,.int .i64 x.n,.string (Aa x.name),.slice xs x.args.length xc] 31)) [x] (.slice (some ⟨w4.heap.size,0,none⟩) 1 1)):=.one x (.slice xs x.args.length xc) (by show _≤_;have:=HR4.o.lt;omega) (Bx.new w4 (Aq x (.slice xs x.args.length xc)) 31) (Hx.out.old hw5) HNx.o;clear hw5;have HW5:Hid True:=trivial;have HS5':=HS5;have x0:=HR5.o.at 0 _ rfl;have x1:=HR5.o.at 1 _ rfl;have x2:=HR5.o.at 2 _ rfl;have x3:=HR5.o.at 3 _ rfl;have x4:=HR5.o.at 4 _ rfl;have fx0:=HR5.o.fz 0;have fx1:=HR5.o.fz 1;have fx2:=HR5.o.fz 2;have fx3:=HR5.o.fz 3;have fx4:=HR5.o.fz 4;have HRE:=Za (((((HR5.o.set 0 (.int .i64 3)).set 1 (.int .i64 (17+q))).set 2 (.int .i64 0)).set 3 (.string ⟨#[]⟩)).set 4 (.slice (some ⟨w4.heap.size,0,none⟩) 1 1));have HSE:=Za (((((HS5.o.other hsx 0 (.int .i64 3)).other hsx 1 (.int .i64 (17+q))).other hsx 2 (.int .i64 0)).other hsx 3 (.string ⟨#[]⟩)).other hsx 4 (.slice (some ⟨w4.heap.size,0,none⟩) 1 1));have HFE:=Za (((((HF5.o.setNew hge 0 (.int .i64 3)).setNew hge 1 (.int .i64 (17+q))).setNew hge 2 (.int .i64 0)).setNew hge 3 (.string ⟨#[]⟩)).setNew hge 4 (.slice (some ⟨w4.heap.size,0,none⟩) 1 1))
 go_wp2_with fail
 have d0:=HRE.o.at 0 _ rfl;have d1:=HRE.o.at 1 _ rfl;have d2:=HRE.o.at 2 _ rfl;have d3:=HRE.o.at 3 _ rfl;have d4:=HRE.o.at 4 _ rfl;exact bodyPost_ret (v:=.agg #[.int .i64 3,.int .i64 (17+q),.int .i64 0,.string ⟨#[]⟩,.slice (some ⟨w4.heap.size,0,none⟩) 1 1]) (by simp [results,results27,go_sem,d0,d1,d2,d3,d4]) rfl ⟨.slice (some ⟨w4.heap.size,0,none⟩) 1 1,rfl,HSE.o,HFE.o,((((((HX5.o.keep (Bi _ hB 0 _)).keep (Bi _ hB 1 _)).keep (Bi _ hB 2 _)).keep (Bi _ hB 3 _)).keep (Bi _ hB 4 _)).mono (fun b h=>(Ze (by omega) h:w.heap.size≤b))),(Dw ⟨by show _≤(0:Int);decide,by show(0:Int)≤_;decide⟩)⟩
@[go_sem] theorem field_ar0 (a b:Value) (w:World):(Instr.field 66 (.agg #[a,b]) 0).run Zb w=.ok a w:=by kernel_rfl
theorem kM {d s:Nat}{raw:List Int}{sc:Sc}{v1:Option Addr}{v2:Nat}{a1:Option Addr}{a2:Nat}{f1:Option Addr}{f2:Nat}{ga:Nat}{k:Int}{w w2:World}(hd:2≤d)(h:GeH d s raw sc v1 v2 a1 a2 f1 f2 ga k w w2)(hk:k=5)(hA:sc.hasArrays=true)(ih:Hh (d-1)):GeG d s raw sc v1 v2 a1 a2 f1 f2 k w w2 (Eg sc raw (Az sc raw (d-1)) k ga):=by
 obtain⟨hd1,lv,la,lf,hsl,hsc,hS2,hF2,hR2,hC2,g0,g1⟩:=h;have HSC:=Za hsc;have HS2:=Za hS2;have HF2:=Za hF2;have HR2:=Za hR2;have HC2:=Za hC2;have HZ:Hid (w.heap.size+1≠s):=by show _≠_;omega
 have HY:Hid (w.heap.size≠s):=by show _≠_;omega
 have hsx:s<w.heap.size+1:=by omega
 have hge:w.heap.size≤w.heap.size+1:=by omega
 have hd0:(0:Int)≤(d:Int):=by omega
 have hdI:(2:Int)≤(d:Int):=by omega
 have hdM:(d:Int)≤1000:=by omega
 clear hsc hS2 hF2 hR2 hC2;have E:Eg sc raw (Az sc raw (d-1)) k ga=(.mk 6 0 0 (Cr sc.free sc.arrays raw ga).1.name [(Az sc raw (d-1) (Cr sc.free sc.arrays raw ga).2).1],(Az sc raw (d-1) (Cr sc.free sc.arrays raw ga).2).2):=by unfold Eg;rw[if_neg (by omega),if_neg (by omega),if_neg (by omega),if_neg (by omega),if_pos ⟨hk,hA⟩]
 rw[E];clear E;have HN:Hid (∀w1,As w1 s raw ga→Bp (· ≠s) w1 sc.arrays (.slice a1 sc.arrays.length a2)→Calls Zb 28 #[scV sc (.slice v1 sc.vars.length v2) (.slice a1 sc.arrays.length a2) (.slice f1 sc.funcs.length f2),.pointer (some ⟨s,0,none⟩)] w1 (Dr w1 s raw (.agg #[.string (Aa (Cr sc.free sc.arrays raw ga).1.name),.int .i64 (Cr sc.free sc.arrays raw ga).1.size]) (Cr sc.free sc.arrays raw ga).2)):=fun w1 h1 h2=>Mm s raw ga sc _ _ _ w1 h1 h2 la
 generalize Cr sc.free sc.arrays raw ga=q at*;obtain⟨⟨qn,qz⟩,qa⟩:=q;dsimp only at*;have HDM:Hid (((d-1:Nat):Int)=(d:Int)-1):=by show _=_;omega
 have HIH:Hid (∀w1 b,As w1 s raw b→Ec s w1 sc (.slice v1 sc.vars.length v2) (.slice a1 sc.arrays.length a2) (.slice f1 sc.funcs.length f2)→Calls Zb 27 #[scV sc (.slice v1 sc.vars.length v2) (.slice a1 sc.arrays.length a2) (.slice f1 sc.funcs.length f2),.pointer (some ⟨s,0,none⟩),.int .i64 ((d:Int)-1)] w1 (El w1 s raw (Az sc raw (d-1) b))):=fun w1 b h1 h2=>by have q:=ih s raw b sc _ _ _ w1 h1 h2;rw[HDM.o]at q;exact q
 unfold GeG;intros
 conv=>arg 2;whnf
 subst hk;have b0:=HC2.o.at 0 _ rfl;have b1:=HC2.o.at 1 _ rfl;have b2:=HC2.o.at 2 _ rfl;have b3:=HC2.o.at 3 _ rfl;have b4:=HC2.o.at 4 _ rfl;go_wp2_with fail
 refine(HN.o _ HS2.o (HSC.o.arrays.keep HF2.o.keeps)).mono ?_;rintro r w3 ⟨rfl,hs3,hf3⟩;have HS3:=Za hs3;have HF3:=Za (HF2.o.trans hf3);have HR3:=Za (HR2.o.sfr hf3 HZ.o);have HC3:=Za (HC2.o.sfr hf3 HY.o);clear hs3 hf3;clear b0 b1 b2 b3 b4;have b0:=HC3.o.at 0 _ rfl;have b1:=HC3.o.at 1 _ rfl;have b2:=HC3.o.at 2 _ rfl;have b3:=HC3.o.at 3 _ rfl;have b4:=HC3.o.at 4 _ rfl;go_wp2_with fail
 refine(HIH.o _ qa HS3.o (HSC.o.sfr HF3.o)).mono ?_;generalize Az sc raw (d-1) qa=x at*;obtain⟨x,xa⟩:=x;rintro r w4 ⟨xv,rfl,hs4,hf4,hx4,hn4⟩;obtain⟨xs,xc,rfl⟩:=hx4.shape;dsimp only at hs4 hx4 hn4 ⊢;have HS4:=Za hs4;have HF4:=Za (HF3.o.trans hf4);have HR4:=Za (HR3.o.sfr hf4 HZ.o);have HC4:=Za (HC3.o.sfr hf4 HY.o);have hg4:w.heap.size+2≤w3.heap.size:=by have:=HR3.o.lt;omega
 have Hx:=Za (hx4.mono (D':=(w.heap.size+2≤ ·)) (fun b h=>Ze hg4 h));have HNx:=Za hn4;have HFJ4:=Za hf4;clear hs4 hf4 hx4 hn4;clear b0 b1 b2 b3 b4;have hB:w.heap.size+1<w.heap.size+2:=by omega
 have hw5:Below w4.heap.size w4 (w4.alloc (.cells #[.int .i64 x.kind,.int .i64 x.op,.int .i64 x.n,.string (Aa x.name),.slice xs x.args.length xc] 31)):=bA;have HS5:=Za (HS4.o.old hw5);have HF5:=Za (HF4.o.trans (SFr.of_below hw5));have HR5:=Za (HR4.o.old hw5);have HC5:=Za (HC4.o.old hw5);have HX5:Hid (Aj (w.heap.size+2≤ ·) (w4.alloc (.cells #[.int .i64 x.kind,.int .i64 x.op,.int .i64 x.n,.string (Aa x.name),.slice xs x.args.length xc] 31)) [x] (.slice (some ⟨w4.heap.size,0,none⟩) 1 1)):=.one x (.slice xs x.args.length xc) (by show _≤_;have:=HR4.o.lt;omega) (Bx.new w4 (Aq x (.slice xs x.args.length xc)) 31) (Hx.out.old hw5) HNx.o;clear hw5;have x0:=HR5.o.at 0 _ rfl;have x1:=HR5.o.at 1 _ rfl;have x2:=HR5.o.at 2 _ rfl;have x3:=HR5.o.at 3 _ rfl;have x4:=HR5.o.at 4 _ rfl;have fx0:=HR5.o.fz 0;have fx1:=HR5.o.fz 1;have fx2:=HR5.o.fz 2;have fx3:=HR5.o.fz 3;have fx4:=HR5.o.fz 4;have HRE:=Za (((((HR5.o.set 0 (.int .i64 6)).set 1 (.int .i64 0)).set 2 (.int .i64 0)).set 3 (.string (Aa qn))).set 4 (.slice (some ⟨w4.heap.size,0,none⟩) 1 1));have HSE:=Za (((((HS5.o.other hsx 0 (.int .i64 6)).other hsx 1 (.int .i64 0)).other hsx 2 (.int .i64 0)).other hsx 3 (.string (Aa qn))).other hsx 4 (.slice (some ⟨w4.heap.size,0,none⟩) 1 1));have HFE:=Za (((((HF5.o.setNew hge 0 (.int .i64 6)).setNew hge 1 (.int .i64 0)).setNew hge 2 (.int .i64 0)).setNew hge 3 (.string (Aa qn))).setNew hge 4 (.slice (some ⟨w4.heap.size,0,none⟩) 1 1))
 go_wp2_with fail
 have d0:=HRE.o.at 0 _ rfl;have d1:=HRE.o.at 1 _ rfl;have d2:=HRE.o.at 2 _ rfl;have d3:=HRE.o.at 3 _ rfl;have d4:=HRE.o.at 4 _ rfl;exact bodyPost_ret (v:=.agg #[.int .i64 6,.int .i64 0,.int .i64 0,.string (Aa qn),.slice (some ⟨w4.heap.size,0,none⟩) 1 1]) (by simp [results,results27,go_sem,d0,d1,d2,d3,d4]) rfl ⟨.slice (some ⟨w4.heap.size,0,none⟩) 1 1,rfl,HSE.o,HFE.o,((((((HX5.o.keep (Bi _ hB 0 _)).keep (Bi _ hB 1 _)).keep (Bi _ hB 2 _)).keep (Bi _ hB 3 _)).keep (Bi _ hB 4 _)).mono (fun b h=>(Ze (by omega) h:w.heap.size≤b))),(Dw ⟨by show _≤(0:Int);decide,by show(0:Int)≤_;decide⟩)⟩
end Go.Proofs.YtfhbinbjkpfedaaGreatDoor

/-
  scope.expr: a raw expression: an array's word. Conditions: the source and the scope lie in memory as the types say.
-/
import Derived.Test.YtcfpfnoldgnloaaGreatDoorPb01
import Derived.Test.YtcfpfnoldgnloaaGreatDoorPb02
import Derived.IntWalk
import Derived.ChangeSlices
import Derived.OpenShut
import Derived.ProofKit
set_option linter.unusedVariables false
set_option linter.unusedSimpArgs false
namespace Go.Proofs.YtcfpfnoldgnloaaGreatDoor
open Go.RowKit Go.Proofs.Tryz
set_option maxHeartbeats 20000000
set_option maxRecDepth 100000
open List renaming all_eq_true→Za,mem_singleton→Zb,mem_cons→Zc
def Hm(c n:Int):Int:=(if c<0 then -(c+1)else c) % n
theorem Np(c n:Int)(h:0<n):0≤Hm c n∧Hm c n<n:=⟨Int.emod_nonneg _ (by omega),Int.emod_lt_of_pos _ h⟩
def Ac(raw:List Int)(a:Nat)(n:Int):Int ×Nat:=if raw.length≤a then(0,a)else(Hm (raw.getD a 0) n,a+1)
theorem Ah(raw:List Int)(a:Nat)(n:Int)(h:0<n):0≤(Ac raw a n).1∧(Ac raw a n).1<n:=by
 unfold Ac;split
 ·exact⟨Int.le_refl _,h⟩
 ·exact Np _ _ h
def kQ:List Bs:=[[],[49],[95],[90,57],[105,102],[120],[48],[97,97],[105,110,116,105,110,116],[113,55],[66],[48,48]]
def Jw(c:Int):Bs:=UInt8.ofNat (97+(Hm c 312 % 26).toNat)::kQ.getD (Hm c 312 / 26).toNat []
theorem var_all:∀k:Fin 312,Am (UInt8.ofNat (97+(k.val % 26))::kQ.getD (k.val / 26) [])=true:=by decide+kernel
theorem Kh(c:Int):Am (Jw c)=true:=by
 have h:=Np c 312 (by decide);have q:=var_all ⟨(Hm c 312).toNat,by omega⟩;unfold Jw;have e1:(Hm c 312 % 26).toNat=(Hm c 312).toNat % 26:=by omega
 have e2:(Hm c 312 / 26).toNat=(Hm c 312).toNat / 26:=by omega
 rw[e1,e2];exact q
structure Sc where
 vars:List Bs
 arrays:List Ar
 funcs:List Fu
 free:Bool
 loop:Bool
def Gg(free:Bool)(l:List Bs)(raw:List Int)(a:Nat):Bs ×Nat:=
 if free||l.isEmpty then(Jw (Ac raw a 312).1,(Ac raw a 312).2)else(l.getD (Ac raw a l.length).1.toNat [],(Ac raw a l.length).2)
def Cg(free:Bool)(l:List Ar)(raw:List Int)(a:Nat):Ar ×Nat:=
 if free||l.isEmpty then(⟨Jw (Ac raw a 312).1,1+(Ac raw (Ac raw a 312).2 1000).1⟩,(Ac raw (Ac raw a 312).2 1000).2)else(Kz l (Ac raw a l.length).1.toNat,(Ac raw a l.length).2)
def El(n j:Int):Int:=
 if j=0 then 0 else if j=1 then 1 else if j=2 then 2 else if j=3 then 3 else if j=4 then n else if j=5 then n*n else if j=6 then 2 ^ (n % 63).toNat else 9223372036854775807
def Dt(g:Nat→Ex ×Nat):Nat→Nat→List Ex ×Nat
 |0,a=>([],a)
 |c+1,a=>((Dt g c a).1++[(g (Dt g c a).2).1],(g (Dt g c a).2).2)
def Ey(sc:Sc)(raw:List Int)(g:Nat→Ex ×Nat)(a:Nat):Ex ×Nat:=
 if sc.free||sc.funcs.isEmpty then
  let r:=Ac raw a 312;let q:=Ac raw r.2 7;let m:=Dt g q.1.toNat q.2
  (.mk 5 0 0 (Jw r.1) m.1,m.2)
 else
  let r:=Ac raw a sc.funcs.length;let f:=Dn sc.funcs r.1.toNat;let m:=Dt g f.params.length r.2
  (.mk 5 0 0 f.name m.1,m.2)
def Sc.hasVars(sc:Sc):Bool:= !sc.vars.isEmpty||sc.free
def Sc.hasArrays(sc:Sc):Bool:= !sc.arrays.isEmpty||sc.free
def Sc.hasFuncs(sc:Sc):Bool:= !sc.funcs.isEmpty||sc.free
def gK(raw:List Int)(d a:Nat):Int:=if d<2 then(Ac raw a 12).1 % 4 else(Ac raw a 12).1
def Ds(sc:Sc)(raw:List Int)(g:Nat→Ex ×Nat)(k:Int)(a:Nat):Ex ×Nat:=
 if(k=1∨k=2)∧sc.hasVars=true then
  let n:=Gg sc.free sc.vars raw a
  (.mk 2 0 0 n.1 [],n.2)
 else if k=3∧(Ac raw a 3).1=2 then(.mk 7 0 0 [] [],(Ac raw a 3).2)
 else if k<4 then
  let b:=if k=3 then(Ac raw a 3).2 else a
  let n:=Ac raw b 1000;let j:=Ac raw n.2 8
  (.mk 1 0 (El n.1 j.1) [] [],j.2)
 else if k=4 then
  let o:=Ac raw a 3;let x:=g o.2
  (.mk 3 (17+o.1) 0 [] [x.1],x.2)
 else if k=5∧sc.hasArrays=true then
  let n:=Cg sc.free sc.arrays raw a;let x:=g n.2
  (.mk 6 0 0 n.1.name [x.1],x.2)
 else if k=6∧sc.hasFuncs=true then Ey sc raw g a
 else
  let o:=Ac raw a 16;let x:=g o.2;let y:=g x.2
  (.mk 4 (1+o.1) 0 [] [x.1,y.1],y.2)
def Qi(sc:Sc)(raw:List Int)(d:Nat)(g:Nat→Ex ×Nat)(a:Nat):Ex ×Nat:=Ds sc raw g (gK raw d a) (Ac raw a 12).2
def Aq(sc:Sc)(raw:List Int):Nat→Nat→Ex ×Nat
 |0=>Qi sc raw 0 (fun a=>(Ex.nil,a))
 |d+1=>Qi sc raw (d+1) (Aq sc raw d)
structure Sc.Ok (sc:Sc):Prop where
 vars:∀x,x∈sc.vars→Am x=true
 arrays:∀x,x∈sc.arrays→Am x.name=true
 funcs:∀x,x∈sc.funcs→Am x.name=true∧x.params.length≤6
theorem pZ {α:Type}{l:List α}{d:α}{i:Nat}(h:i<l.length):l.getD i d∈l:=by
 rw[List.getD_eq_getElem?_getD,List.getElem?_eq_getElem h];exact List.getElem_mem h
theorem cN {α:Type}{l:List α}{b:Bool}(h:¬(b||l.isEmpty)=true):0<l.length:=by
 cases l with
 |nil=>simp at h
 |cons x l=>simp
theorem Rj {sc:Sc}(h:sc.Ok)(raw:List Int)(a:Nat):Am (Gg sc.free sc.vars raw a).1=true:=by
 unfold Gg;split
 ·exact Kh _
 ·rename_i hn
  have hl:=cN hn;have:=Ah raw a sc.vars.length (by omega);exact h.vars _ (pZ (by omega))
theorem Pj {sc:Sc}(h:sc.Ok)(raw:List Int)(a:Nat):Am (Cg sc.free sc.arrays raw a).1.name=true:=by
 unfold Cg;split
 ·exact Kh _
 ·rename_i hn
  have hl:=cN hn;have:=Ah raw a sc.arrays.length (by omega);exact h.arrays _ (pZ (by omega))
def Nq(d:Nat)(e:Ex):Prop:=Jr (max d 1) e=true∧Cn e=true
theorem Ij(g:Nat→Ex ×Nat):∀c a,(Dt g c a).1.length=c
 |0,a=>rfl
 |c+1,a=>by rw[Dt];simp [Ij g c a]
theorem Kj(g:Nat→Ex ×Nat)(P:Ex→Prop)(hg:∀a,P (g a).1):∀c a,∀x,x∈(Dt g c a).1→P x
 |0,a,x,hx=>by cases hx
 |c+1,a,x,hx=>by
  rw[Dt]at hx;rcases List.mem_append.1 hx with h|h
  ·exact Kj g P hg c a x h
  ·rw[Zb.1 h];exact hg _
theorem Nr {d:Nat}{k o n:Int}{nm:Bs}{args:List Ex}(hh:Cy (.mk k o n nm args)=true)(ha:∀x,x∈args→Nq d x)(hd:args=[]∨1≤d):Nq (d+1) (.mk k o n nm args):=by
 refine⟨?_,?_⟩
 ·rw[show max (d+1) 1=d+1 by omega]
  show args.all (Jr d)=true
  rw[Za];intro x hx;have h1:=(ha x hx).1;rcases hd with rfl|hd
  ·cases hx
  ·rwa[show max d 1=d by omega]at h1
 ·rw[Ll,hh,Bool.true_and,Za]
  exact fun x hx=>(ha x hx).2
theorem Tu {d:Nat}{k o n:Int}{nm:Bs}(hh:Cy (.mk k o n nm [])=true):Nq d (.mk k o n nm []):=by
 refine⟨?_,?_⟩
 ·obtain⟨m,hm⟩:∃m,max d 1=m+1:=⟨max d 1-1,by omega⟩
  rw[hm];rfl
 ·rw[Ll,hh,Bool.true_and];rfl
theorem Oj(n j:Int)(h:0≤n∧n<1000):0≤El n j∧El n j≤9223372036854775807:=by
 unfold El
 repeat' split
 all_goals try omega
 ·constructor
  ·exact Int.mul_nonneg h.1 h.1
  ·have:n*n≤999*999:=Int.mul_le_mul (by omega) (by omega) (by omega) (by omega)
   omega
 ·have h1:(n % 63).toNat≤62:=by omega
  have h2:(2:Nat) ^ (n % 63).toNat≤2 ^ 62:=Nat.pow_le_pow_right (by decide) h1;have h3:((2:Int) ^ (n % 63).toNat)=((2 ^ (n % 63).toNat:Nat):Int):=by simp
  rw[h3];constructor
  ·exact Int.natCast_nonneg _
  ·have:(2:Nat) ^ 62≤9223372036854775807:=by decide
   exact Int.ofNat_le.2 (Nat.le_trans h2 this)
theorem iA:∀i:Fin 16,0<Al (1+(i.val:Int)):=by decide+kernel
theorem sE(o:Int)(h:0≤o∧o<16):0<Al (1+o):=by
 have:=iA ⟨o.toNat,by omega⟩;simpa only[Int.toNat_of_nonneg h.1]using this
theorem gH {sc:Sc}(hs:sc.Ok)(raw:List Int)(d:Nat)(g:Nat→Ex ×Nat)(k:Int)(hk:4≤k→1≤d∧∀a,Nq d (g a).1)(a:Nat):Nq (d+1) (Ds sc raw g k a).1:=by
 unfold Ds;split
 ·refine Tu ?_
  have:=Rj hs raw a;simp [Cy,Hn,Ir,Le,En,Dm,Ex.kind,Ex.op,Ex.n,Ex.name,Ex.args,this]
 split
 ·exact Tu (by decide)
 split
 ·refine Tu ?_
  have h1:=Ah raw (if k=3 then(Ac raw a 3).2 else a) 1000 (by decide);have h2:=(Oj _ (Ac raw (Ac raw (if k=3 then(Ac raw a 3).2 else a) 1000).2 8).1 h1).1;simp only[Cy,Hn,Ir,Le,En,Dm,Ex.kind,Ex.op,Ex.n,Ex.name,Ex.args];simp [h2]
 rename_i h1 h2 h3;obtain⟨hk,hg⟩:=hk (by omega);split
 ·refine Nr ?_ (fun x hx=>by rw[Zb.1 hx];exact hg _) (.inr hk)
  have:=Ah raw a 3 (by decide);have e:17+(Ac raw a 3).1=17∨17+(Ac raw a 3).1=18∨17+(Ac raw a 3).1=19:=by omega
  simp only[Cy,Hn,Ir,Le,En,Dm,Ex.kind,Ex.op,Ex.n,Ex.name,Ex.args];simp [e]
 split
 ·refine Nr ?_ (fun x hx=>by rw[Zb.1 hx];exact hg _) (.inr hk)
  have:=Pj hs raw a;simp [Cy,Hn,Ir,Le,En,Dm,Ex.kind,Ex.op,Ex.n,Ex.name,Ex.args,this]
 split
 ·unfold Ey
  split
  ·refine Nr ?_ (Kj g _ hg _ _) (.inr hk)
   have h7:=Ah raw (Ac raw a 312).2 7 (by decide);have hn:=Kh (Ac raw a 312).1;simp only[Cy,Hn,Ir,Le,En,Dm,Ex.kind,Ex.op,Ex.n,Ex.name,Ex.args,Ij];simp [hn];omega
  ·rename_i hn
   have hl:=cN hn;have hr:=Ah raw a sc.funcs.length (by omega);have hf:Am (Dn sc.funcs (Ac raw a sc.funcs.length).1.toNat).name=true∧(Dn sc.funcs (Ac raw a sc.funcs.length).1.toNat).params.length≤6:=hs.funcs _ (pZ (d:=Fu.nil) (i:=(Ac raw a sc.funcs.length).1.toNat) (by omega));dsimp only;generalize Dn sc.funcs (Ac raw a sc.funcs.length).1.toNat=f at hf ⊢;refine Nr ?_ (Kj g _ hg _ _) (.inr hk);simp only[Cy,Hn,Ir,Le,En,Dm,Ex.kind,Ex.op,Ex.n,Ex.name,Ex.args,Ij];simp only[hf.1];simp;omega
 ·refine Nr ?_ (fun x hx=>?_) (.inr hk)
  ·have:=sE _ (Ah raw a 16 (by decide))
   simp only[Cy,Hn,Ir,Le,En,Dm,Ex.kind,Ex.op,Ex.n,Ex.name,Ex.args];simp [this]
  ·rcases Zc.1 hx with rfl|hx
   ·exact hg _
   ·rw[Zb.1 hx];exact hg _
theorem cK(raw:List Int)(d a:Nat)(h:d<2):gK raw d a<4:=by
 unfold gK;rw[if_pos h];have:=Ah raw a 12 (by decide);omega
theorem Wb {sc:Sc}(hs:sc.Ok)(raw:List Int):∀d a,Nq d (Aq sc raw d a).1
 |0,a=>by
  rw[Aq];unfold Qi;exact gH hs raw 0 _ _ (fun h4=>by have:=cK raw 0 a (by omega);omega) _
 |d+1,a=>by
  rw[Aq];unfold Qi;refine gH hs raw d _ _ (fun h4=>⟨?_,fun b=>Wb hs raw d b⟩) _;rcases Nat.lt_or_ge (d+1) 2 with h|h
  ·have:=cK raw (d+1) a h;omega
  ·omega
def Bz(sc:Sc)(raw:List Int)(gs gl:Nat→List St ×Nat)(k:Int)(a:Nat):St ×Nat:=
 if k<4∧sc.hasVars=true then
  let n:=Gg sc.free sc.vars raw a
  (.mk 1 n.1 [] [] [],n.2)
 else if k=4∧sc.hasArrays=true then
  let n:=Cg sc.free sc.arrays raw a;let e:=Aq sc raw 3 n.2
  (.mk 2 n.1.name [e.1] [] [],e.2)
 else if k=5∧sc.hasFuncs=true then
  let c:=Ey sc raw (Aq sc raw 2) a
  (.mk 10 [] [c.1] [] [],c.2)
 else if k=6∧(Ac raw a 3).1=2 then
  let j:=Ac raw (Ac raw a 3).2 2
  (.mk (if j.1=0 then 7 else 9) [] [] [] [],j.2)
 else if k=7∨k=8 then
  let e:=Aq sc raw 3 a;let t:=gs e.2;let u:=gs t.2
  (.mk 3 [] [e.1] t.1 u.1,u.2)
 else if k=9∨k=10 then
  let e:=Aq sc raw 3 a;let t:=gl e.2
  (.mk 4 [] [e.1] t.1 [],t.2)
 else if k=11∧(sc.loop||sc.free)=true∧(Ac raw a 2).1=1 then
  let j:=Ac raw (Ac raw a 2).2 2
  (.mk (if j.1=0 then 5 else 6) [] [] [] [],j.2)
 else(.mk 8 [] [] [] [],if k=6 then(Ac raw a 3).2 else if k=11∧(sc.loop||sc.free)=true then(Ac raw a 2).2 else a)
def Ce(k:Int):Nat:=if k=2 then 2 else if k=5∨k=6 then 0 else 1
def Kt(sc:Sc)(raw:List Int)(x:St)(a:Nat):St ×Nat:=
 if x.args.length<Ce x.kind then(.mk x.kind x.name (x.args++[(Aq sc raw 4 a).1]) x.thn x.els,(Aq sc raw 4 a).2)else(x,a)
def Ob(raw:List Int)(d a:Nat):Int:=if d<2∧7≤(Ac raw a 14).1∧(Ac raw a 14).1<11 then 0 else(Ac raw a 14).1
def gSt(sc:Sc)(raw:List Int)(gs gl:Nat→List St ×Nat)(d:Nat)(a:Nat):St ×Nat:=
 let h:=Bz sc raw gs gl (Ob raw d a) (Ac raw a 14).2
 Kt sc raw h.1 h.2
def Ek(one:Nat→St ×Nat):Nat→Nat→List St ×Nat
 |0,a=>([],a)
 |c+1,a=>((Ek one c a).1++[(one (Ek one c a).2).1],(one (Ek one c a).2).2)
def Sc.inLoop(sc:Sc):Sc:=⟨sc.vars,sc.arrays,sc.funcs,sc.free,true⟩
def Di(raw:List Int):Nat→Sc→Nat→List St ×Nat
 |0,sc,a=>Ek (gSt sc raw (fun a=>([],a)) (fun a=>([],a)) 0) (Ac raw a 5).1.toNat (Ac raw a 5).2
 |d+1,sc,a=>Ek (gSt sc raw (Di raw d sc) (Di raw d sc.inLoop) (d+1)) (Ac raw a 5).1.toNat (Ac raw a 5).2
theorem Uw:∀(m n:Nat) (e:Ex),m≤n→Jr m e=true→Jr n e=true
 |0,_,_,_,h=>by cases h
 |m+1,0,e,hmn,_=>by omega
 |m+1,n+1,e,hmn,h=>by
  have h:e.args.all (Jr m)=true:=h;show e.args.all (Jr n)=true
  rw[Za]at*;exact fun x hx=>Uw m n x (by omega) (h x hx)
theorem Yo {d:Nat}{e:Ex}(hd:d≤40)(h:Nq d e):Ew e=true:=by
 unfold Ew;rw[Uw _ _ _ (by omega) h.1,h.2];rfl
theorem mL {sc:Sc}(hs:sc.Ok)(raw:List Int)(d:Nat)(hd:1≤d)(g:Nat→Ex ×Nat)(hg:∀a,Nq d (g a).1)(a:Nat):Nq (d+1) (Ey sc raw g a).1∧(Ey sc raw g a).1.kind=5:=by
 unfold Ey;split
 ·refine⟨Nr ?_ (Kj g _ hg _ _) (.inr hd),rfl⟩
  have h7:=Ah raw (Ac raw a 312).2 7 (by decide);have hn:=Kh (Ac raw a 312).1;simp only[Cy,Hn,Ir,Le,En,Dm,Ex.kind,Ex.op,Ex.n,Ex.name,Ex.args,Ij];simp [hn];omega
 ·rename_i hn
  have hl:=cN hn;have hr:=Ah raw a sc.funcs.length (by omega);have hf:Am (Dn sc.funcs (Ac raw a sc.funcs.length).1.toNat).name=true∧(Dn sc.funcs (Ac raw a sc.funcs.length).1.toNat).params.length≤6:=hs.funcs _ (pZ (d:=Fu.nil) (i:=(Ac raw a sc.funcs.length).1.toNat) (by omega));dsimp only;generalize Dn sc.funcs (Ac raw a sc.funcs.length).1.toNat=f at hf ⊢;refine⟨Nr ?_ (Kj g _ hg _ _) (.inr hd),rfl⟩;simp only[Cy,Hn,Ir,Le,En,Dm,Ex.kind,Ex.op,Ex.n,Ex.name,Ex.args,Ij];simp only[hf.1];simp;omega
theorem Ko {m:Nat}{k:Int}{nm:Bs}{args:List Ex}{thn els:List St}(hm:1≤m)(h1:fOk k=true)(h2:(args.length:Int)=Dz k)(h3:Ji k=true∨thn=[])(h4:Je k=true∨els=[])(h5:Eh k=Am nm)
  (h6:Eh k=true∨nm=[]) (h7:k≠10∨(args.headD (.mk 0 0 0 [] [])).kind=5) (h8:∀x,x∈args→Ew x=true) (h9:∀x,x∈thn→Ef (m-1) x=true) (h10:∀x,x∈els→Ef (m-1) x=true):Ef m (.mk k nm args thn els)=true:=by
 obtain⟨n,rfl⟩:∃n,m=n+1:=⟨m-1,by omega⟩;rw[Nat.add_sub_cancel]at h9 h10;simp only[Ef,Jo,Qs,St.kind,St.args,St.thn,St.els,St.name,Bool.and_eq_true,Bool.not_eq_true',Bool.or_eq_false_iff,Bool.not_eq_false',Za];refine⟨⟨⟨⟨⟨⟨⟨⟨h1,?_⟩,?_⟩,?_⟩,?_⟩,⟨⟨?_,?_⟩,?_⟩⟩,h8⟩,h9⟩,h10⟩
 ·simp;omega
 ·simpa using h2
 ·rcases h3 with h|rfl
  ·simp [h]
  ·simp
 ·rcases h4 with h|rfl
  ·simp [h]
  ·simp
 ·simp [h5]
 ·rcases h6 with h|rfl
  ·simp [h]
  ·simp
 ·rcases h7 with h|h
  ·simp [h]
  ·rw[h];simp
theorem Sc.Ok.inLoop {sc:Sc}(h:sc.Ok):sc.inLoop.Ok:=⟨h.vars,h.arrays,h.funcs⟩
theorem Pl(one:Nat→St ×Nat)(P:St→Prop)(hg:∀a,P (one a).1):∀c a,∀x,x∈(Ek one c a).1→P x
 |0,a,x,hx=>by cases hx
 |c+1,a,x,hx=>by
  rw[Ek]at hx;rcases List.mem_append.1 hx with h|h
  ·exact Pl one P hg c a x h
  ·rw[Zb.1 h];exact hg _
theorem Mw(one:Nat→St ×Nat):∀c a,(Ek one c a).1.length=c
 |0,a=>rfl
 |c+1,a=>by rw[Ek];simp [Mw one c a]
theorem Ov {sc:Sc}(hs:sc.Ok)(raw:List Int)(d a:Nat)(hd:d≤40):Ew (Aq sc raw d a).1=true:=Yo hd (Wb hs raw d a)
theorem Fb(sc:Sc)(raw:List Int){k:Int}{nm:Bs}{args:List Ex}{t e:List St}(a:Nat)(h:args.length<Ce k):Kt sc raw (.mk k nm args t e) a=(.mk k nm (args++[(Aq sc raw 4 a).1]) t e,(Aq sc raw 4 a).2):=if_pos h
theorem Hf(sc:Sc)(raw:List Int){k:Int}{nm:Bs}{args:List Ex}{t e:List St}(a:Nat)(h:¬args.length<Ce k):Kt sc raw (.mk k nm args t e) a=(.mk k nm args t e,a):=if_neg h
theorem sY {sc:Sc}(hs:sc.Ok)(raw:List Int)(gs gl:Nat→List St ×Nat)(d:Nat)(m:Nat)(hm:1≤m)(hgs:2≤d→∀a x,x∈(gs a).1→Ef (m-1) x=true)(hgl:2≤d→∀a x,x∈(gl a).1→Ef (m-1) x=true)(a:Nat):Ef m (gSt sc raw gs gl d a).1=true:=by
 unfold gSt;have hk:∀k,Ob raw d a=k→7≤k→k<11→2≤d:=by
  intro k hk h1 h2;unfold Ob at hk;split at hk
  ·omega
  ·omega
 generalize Ob raw d a=k at hk;have hk:=hk k rfl;generalize (Ac raw a 14).2=b;dsimp only;have e4:∀a,∀x,x∈[(Aq sc raw 4 a).1]→Ew x=true:=fun a x hx=>by rw[Zb.1 hx];exact Ov hs raw 4 a (by omega)
 have e3:∀a,∀x,x∈[(Aq sc raw 3 a).1]→Ew x=true:=fun a x hx=>by rw[Zb.1 hx];exact Ov hs raw 3 a (by omega)
 have nn:∀x:St,x∈([]:List St)→Ef (m-1) x=true:=fun x hx=>by cases hx
 unfold Bz;split
 ·have:=Rj hs raw b
  dsimp only;rw[Fb _ _ _ (by simp [Ce])];exact Ko hm rfl rfl (.inr rfl) (.inr rfl) (by rw[this];rfl) (.inl rfl) (.inl (by decide)) (e4 _) nn nn
 split
 ·have:=Pj hs raw b
  dsimp only;rw[Fb _ _ _ (by simp [Ce])];exact Ko hm rfl rfl (.inr rfl) (.inr rfl) (by rw[this];rfl) (.inl rfl) (.inl (by decide)) (fun x hx=>by
   rcases Zc.1 hx with rfl|hx
   ·exact Ov hs raw 3 _ (by omega)
   ·exact e4 _ x hx) nn nn
 split
 ·have:=mL hs raw 2 (by omega) (Aq sc raw 2) (Wb hs raw 2) b
  dsimp only;rw[Hf _ _ _ (by simp [Ce])];exact Ko hm rfl rfl (.inr rfl) (.inr rfl) rfl (.inr rfl) (.inr this.2) (fun x hx=>by rw[Zb.1 hx];exact Yo (by omega) this.1) nn nn
 split
 ·dsimp only
  split
  ·rw[Fb _ _ _ (by simp [Ce])]
   exact Ko hm rfl rfl (.inr rfl) (.inr rfl) rfl (.inr rfl) (.inl (by decide)) (e4 _) nn nn
  ·rw[Fb _ _ _ (by simp [Ce])]
   exact Ko hm rfl rfl (.inr rfl) (.inr rfl) rfl (.inr rfl) (.inl (by decide)) (e4 _) nn nn
 split
 ·dsimp only
  rw[Hf _ _ _ (by simp [Ce])];exact Ko hm rfl rfl (.inl rfl) (.inl rfl) rfl (.inr rfl) (.inl (by decide)) (e3 _) (hgs (hk (by omega) (by omega)) _) (hgs (hk (by omega) (by omega)) _)
 split
 ·dsimp only
  rw[Hf _ _ _ (by simp [Ce])];exact Ko hm rfl rfl (.inl rfl) (.inr rfl) rfl (.inr rfl) (.inl (by decide)) (e3 _) (hgl (hk (by omega) (by omega)) _) nn
 split
 ·dsimp only
  split
  ·rw[Hf _ _ _ (by simp [Ce])]
   exact Ko hm rfl rfl (.inr rfl) (.inr rfl) rfl (.inr rfl) (.inl (by decide)) (fun x hx=>by cases hx) nn nn
  ·rw[Hf _ _ _ (by simp [Ce])]
   exact Ko hm rfl rfl (.inr rfl) (.inr rfl) rfl (.inr rfl) (.inl (by decide)) (fun x hx=>by cases hx) nn nn
 ·dsimp only
  rw[Fb _ _ _ (by simp [Ce])];exact Ko hm rfl rfl (.inr rfl) (.inr rfl) rfl (.inr rfl) (.inl (by decide)) (e4 _) nn nn
theorem Ua(raw:List Int):∀(d:Nat) (sc:Sc),sc.Ok→∀m,1≤m→d≤m→∀a x,x∈(Di raw d sc a).1→Ef m x=true
 |0,sc,hs,m,hm,hd,a,x,hx=>by
  rw[Di]at hx;exact Pl _ (fun x=>Ef m x=true) (sY hs raw _ _ 0 m hm (fun h=>by omega) (fun h=>by omega)) _ _ x hx
 |d+1,sc,hs,m,hm,hd,a,x,hx=>by
  rw[Di]at hx;exact Pl _ (fun x=>Ef m x=true) (sY hs raw _ _ (d+1) m hm (fun h=>Ua raw d sc hs (m-1) (by omega) (by omega)) (fun h=>Ua raw d sc.inLoop hs.inLoop (m-1) (by omega) (by omega))) _ _ x hx
def Gf:List Bs:=[[97],[98],[99]]
def Fe:List Bs:=[[102],[103],[104]]
def Hv:List Bs:=[[112],[113],[114],[115],[116],[117]]
def Cu:List Bs:=[[120],[121],[122],[105],[107]]
def Ge:List Int:=[1,4,10,1000]
def Rz(free:Bool)(raw:List Int)(i:Nat)(a:Nat):Ar ×Nat:=
 if free then Cg true [] raw (Ac raw a 4).2 else(⟨Gf.getD i [],Ge.getD (Ac raw a 4).1.toNat 0⟩,(Ac raw a 4).2)
def Gv(free:Bool)(raw:List Int):Nat→Nat→List Ar ×Nat
 |0,a=>([],a)
 |i+1,a=>((Rz free raw (i+1) a).1::(Gv free raw i (Rz free raw (i+1) a).2).1,(Gv free raw i (Rz free raw (i+1) a).2).2)
def dN(raw:List Int)(i a:Nat):Fu ×Nat:=(⟨Fe.getD i [],Hv.take (Ac raw a 7).1.toNat,[],[]⟩,(Ac raw a 7).2)
def Gr(raw:List Int):Nat→Nat→List Fu ×Nat
 |0,a=>([],a)
 |i+1,a=>((dN raw (i+1) a).1::(Gr raw i (dN raw (i+1) a).2).1,(Gr raw i (dN raw (i+1) a).2).2)
def Me(raw:List Int)(sc:Sc)(f:Fu)(a:Nat):Fu ×Nat:=
 let l:=Cu.take (Ac raw a 6).1.toNat
 let b:=Di raw 4 ⟨f.params++l,sc.arrays,sc.funcs,sc.free,false⟩ (Ac raw a 6).2
 (⟨f.name,f.params,l,b.1⟩,b.2)
def Cd(raw:List Int)(sc:Sc):List Fu→Nat→List Fu ×Nat
 |[],a=>([],a)
 |f::l,a=>((Me raw sc f a).1::(Cd raw sc l (Me raw sc f a).2).1,(Cd raw sc l (Me raw sc f a).2).2)
def Ky:Fu:=⟨[109,97,105,110],[],[],[]⟩
def Ei(raw:List Int)(free:Bool):List Ar ×Nat:=Gv free raw (Ac raw 0 3).1.toNat (Ac raw 0 3).2
def Mp(raw:List Int)(a:Nat):List Fu ×Nat:=Gr raw (Ac raw a 3).1.toNat (Ac raw a 3).2
def Fv(raw:List Int)(free:Bool):Sc:=⟨[],(Ei raw free).1,Ky::(Mp raw (Ei raw free).2).1,free,false⟩
def Kb(raw0:List Int)(free:Bool):Pr:=
 let raw:=raw0.take 400
 ⟨(Ei raw free).1,(Cd raw (Fv raw free) (Fv raw free).funcs (Mp raw (Ei raw free).2).2).1⟩
theorem gArr_ok(free:Bool)(raw:List Int)(i a:Nat)(hi:i=1∨i=2):Dk (Rz free raw i a).1=true:=by
 unfold Rz;split
 ·have h1:=Kh (Ac raw (Ac raw a 4).2 312).1
  have h2:=Ah raw (Ac raw (Ac raw a 4).2 312).2 1000 (by decide);unfold Cg;rw[if_pos (by simp)];simp only[Dk,h1,Bool.true_and];simp;omega
 ·have h2:=Ah raw a 4 (by decide)
  have h3:(Ac raw a 4).1=0∨(Ac raw a 4).1=1∨(Ac raw a 4).1=2∨(Ac raw a 4).1=3:=by omega
  dsimp only;rcases hi with rfl|rfl<;>rcases h3 with h|h|h|h<;>rw[h]<;>decide
theorem iU(free:Bool)(raw:List Int):∀i a,i≤2→∀x,x∈(Gv free raw i a).1→Dk x=true
 |0,a,_,x,hx=>by cases hx
 |i+1,a,hi,x,hx=>by
  rw[Gv]at hx;rcases Zc.1 hx with rfl|hx
  ·exact gArr_ok free raw (i+1) a (by omega)
  ·exact iU free raw i _ (by omega) x hx
def Tc(f:Fu):Prop:=Am f.name=true∧f.params.length≤6∧∀x,x∈f.params→Am x=true
theorem pM:∀x,x∈Hv→Am x=true:=by decide
theorem Tp:∀x,x∈Cu→Am x=true:=by decide
theorem gU(raw:List Int):∀i a,i≤2→∀x,x∈(Gr raw i a).1→Tc x
 |0,a,_,x,hx=>by cases hx
 |i+1,a,hi,x,hx=>by
  rw[Gr]at hx;rcases Zc.1 hx with rfl|hx
  ·have hi':i=0∨i=1:=by omega
   refine⟨?_,?_,fun x hx=>pM x (List.mem_of_mem_take hx)⟩
   ·show Am (Fe.getD (i+1) [])=true
    rcases hi' with rfl|rfl<;>decide
   ·show(Hv.take _).length≤6
    rw[List.length_take];exact Nat.min_le_right _ _
  ·exact gU raw i _ (by omega) x hx
theorem Wk(raw:List Int)(sc:Sc)(ha:∀x,x∈sc.arrays→Am x.name=true)(hf:∀x,x∈sc.funcs→Tc x):∀l a,(∀x,x∈l→Tc x)→∀x,x∈(Cd raw sc l a).1→Gh x=true
 |[],a,_,x,hx=>by cases hx
 |f::l,a,hl,x,hx=>by
  rw[Cd]at hx;rcases Zc.1 hx with rfl|hx
  ·have h:=hl f List.mem_cons_self
   have hL:∀x,x∈Cu.take (Ac raw a 6).1.toNat→Am x=true:=fun x hx=>Tp x (List.mem_of_mem_take hx)
   have hsc:Sc.Ok ⟨f.params++Cu.take (Ac raw a 6).1.toNat,sc.arrays,sc.funcs,sc.free,false⟩:=⟨fun x hx=>by
    rcases List.mem_append.1 hx with hx|hx
    ·exact h.2.2 x hx
    ·exact hL x hx,ha,fun x hx=>⟨(hf x hx).1,(hf x hx).2.1⟩⟩
   have hb:=Ua raw 4 _ hsc 40 (by omega) (by omega) (Ac raw a 6).2;unfold Me Gh;dsimp only;rw[h.1,Za.2 h.2.2,Za.2 hL,Za.2 hb,decide_eq_true h.2.1];rfl
  ·exact Wk raw sc ha hf l _ (fun x hx=>hl x (List.mem_cons_of_mem _ hx)) x hx
theorem Fw(raw:List Int)(free:Bool):∀x,x∈(Fv raw free).funcs→Tc x:=by
 intro x hx;rcases Zc.1 hx with rfl|hx
 ·exact⟨by decide,by decide,fun x hx=>by cases hx⟩
 ·exact gU raw _ _ (by have:=Ah raw (Ei raw free).2 3 (by decide);omega) x hx
theorem Lh(raw:List Int)(free:Bool):∀x,x∈(Ei raw free).1→Dk x=true:=
 iU free raw _ _ (by have:=Ah raw 0 3 (by decide);omega)
theorem Oh(raw0:List Int)(free:Bool):Eb (Kb raw0 free)=true:=by
 unfold Kb Eb;dsimp only;rw[Bool.and_eq_true,Za,Za];refine⟨Lh _ _,Wk _ _ (fun x hx=>?_) (Fw _ _) _ _ (Fw _ _)⟩;have:=Lh (raw0.take 400) free x hx;unfold Dk at this;exact((Bool.and_eq_true _ _).mp this).1
theorem tJ(c n:Int)(hc:I64 c)(h0:0<n)(h1:n≤9223372036854775807)(w:World):
  Calls Tryz.prog 82 #[.int .i64 c,.int .i64 n] w fun e w'=>e=.returned (.int .i64 (Hm c n))∧w'=w:=by
 obtain⟨l,u⟩:=hc;unfold Hm
 by_cases hneg:c<0
 ·rw[if_pos hneg]
  have hn0:(n==0)=false:=by simp;omega
  go_enter func82,ntmps82
  go_wp2_with fail
  go_ret
  exact⟨Iv (by show -((c+1).tmod n)=_;rw[←Int.neg_tmod,Int.tmod_eq_emod_of_nonneg (by omega)]),rfl⟩
 ·rw[if_neg hneg]
  have hneg':0≤c:=by omega
  go_enter func82,ntmps82
  go_wp2_with fail
  go_ret
  exact⟨rfl,rfl⟩
def Jm(D:Nat→Prop)(w:World)(l:List Int)(v:Value):Prop:=
 ∃a cap b off,v=.slice a l.length cap∧l.length≤cap∧Ct l.length∧(l.length=0∨(a=some ⟨b,off,none⟩∧D b))∧
  (∀i,i<l.length→w.cell? ⟨b,off+i,none⟩=some (.int .i64 (l.getD i 0)))∧∀i,i<l.length→I64 (l.getD i 0)
theorem Jm.keep {D:Nat→Prop}{w w':World}(hk:Ed D w w'){l:List Int}{v:Value}(h:Jm D w l v):Jm D w' l v:=by
 obtain⟨a,cap,b,off,hv,h1,h2,h3,h4,h5⟩:=h;refine⟨a,cap,b,off,hv,h1,h2,h3,fun i hi=>?_,h5⟩;rcases h3 with h3|⟨_,hD⟩
 ·omega
 ·exact hk _ _ _ hD (h4 i hi)
theorem Jm.shape {D:Nat→Prop}{w:World}{l:List Int}{v:Value}(h:Jm D w l v):∃a cap,v=.slice a l.length cap:=by
 obtain⟨a,cap,b,off,hv,_⟩:=h;exact⟨a,cap,hv⟩
theorem Jm.fits {D:Nat→Prop}{w:World}{l:List Int}{v:Value}(h:Jm D w l v):Ct l.length:=by
 obtain⟨a,cap,b,off,hv,h1,h2,_⟩:=h;exact h2
theorem Jm.cellAt {D:Nat→Prop}{w:World}{l:List Int}{a:Option Addr}{n cap:Nat}(h:Jm D w l (.slice a n cap))(i:Nat)(hl:i<l.length):∃b off,a=some ⟨b,off,none⟩∧D b∧b<w.heap.size∧
  w.cell? ⟨b,off+i,none⟩=some (.int .i64 (l.getD i 0))∧I64 (l.getD i 0):=by
 obtain⟨a',cap',b,off,hv,h1,h2,h3,h4,h5⟩:=h
 cases hv
 rcases h3 with h3|⟨h3,hD⟩
 ·omega
 ·exact⟨b,off,h3,hD,World.block_lt_of_cell? _ _ (h4 i hl),h4 i hl,h5 i hl⟩
def Ay(w:World)(s:Nat)(raw:List Int)(a:Nat):Prop:=
 ∃v,w.heap[s]? =some (.cells #[v,.int .i64 a] 71 (0,0))∧Jm (· <s) w raw v∧a≤raw.length
theorem Ay.lt {w:World}{s:Nat}{raw:List Int}{a:Nat}(h:Ay w s raw a):s<w.heap.size:=by
 obtain⟨v,hb,_⟩:=h;rcases Nat.lt_or_ge s w.heap.size with h'|h'
 ·exact h'
 ·simp [Array.getElem?_eq_none h']at hb
theorem Ay.old {w w':World}{s:Nat}{raw:List Int}{a:Nat}(h:Ay w s raw a)(hb:Below w.heap.size w w'):Ay w' s raw a:=by
 have hl:=h.lt;obtain⟨v,h1,h2,h3⟩:=h;exact⟨v,(hb.block s hl).trans h1,h2.keep (Bh hb),h3⟩
theorem Ay.set {w:World}{s:Nat}{raw:List Int}{a:Nat}(h:Ay w s raw a)(ha:a<raw.length):Ay (w.setCell ⟨s,1,none⟩ (.int .i64 ((a:Int)+1))) s raw (a+1)∧SFr s w (w.setCell ⟨s,1,none⟩ (.int .i64 ((a:Int)+1))):=by
 obtain⟨v,h1,h2,h3⟩:=h;have hf:SFr s w (w.setCell ⟨s,1,none⟩ (.int .i64 ((a:Int)+1))):=⟨rfl,rfl,rfl,by simp [World.setCell],fun k _ hk=>Below.heap_setCell _ _ _ _ hk⟩;refine⟨⟨v,?_,h2.keep (hf.keepsD (fun b h=>Nat.ne_of_lt h)),ha⟩,hf⟩;rw[show((a+1:Nat):Int)=(a:Int)+1 from by omega];simp [World.setCell,Array.getElem?_modify,h1]
def Dx(w:World)(s:Nat)(raw:List Int)(x:Value)(a':Nat)(r:Ending)(w':World):Prop:=r=.returned x∧Ay w' s raw a'∧SFr s w w'
theorem Ay.drewN {s n:Nat}{w1:World}{raw:List Int}{a:Nat}(h:Ay w1 s raw a):Ay (w1.drewN n) s raw a:=h
theorem Cj(s:Nat)(raw:List Int)(a:Nat)(n:Int)(w:World)(hs:Ay w s raw a)(h0:0<n)(h1:n≤1000000):
  Calls Tryz.prog 37 #[.pointer (some ⟨s,0,none⟩),.int .i64 n] w (Dx w s raw (.int .i64 (Ac raw a n).1) (Ac raw a n).2):=by
 have HS:=Lib.hid hs;obtain⟨v,hb,hr,ha⟩:=hs;obtain⟨ra,rc,rfl⟩:=hr.shape;have l63:=hr.fits.out;have c0:w.cell? ⟨s,0,none⟩=some (.slice ra raw.length rc):=by rw[Lib.cell_of_heap hb];rfl
 have c1:w.cell? ⟨s,1,none⟩=some (.int .i64 a):=by rw[Lib.cell_of_heap hb];rfl
 have fz:w.frozen? ⟨s,1,none⟩=false:=Lib.frozen_of_heap hb 1;unfold Ac
 by_cases hge:raw.length≤a
 ·rw[if_pos hge]
  clear hb hr;go_enter func37,ntmps37
  go_wp2_with fail
  go_quiet (fail)
  go_wp2_with fail
  go_ret
  exact⟨rfl,HS.o,SFr.drewN (SFr.refl _ _)⟩
 ·rw[if_neg hge]
  have hlt:a<raw.length:=by omega
  obtain⟨b,off,rfl,hD,hbl,cr,hI⟩:=hr.cellAt a hlt;have HSET:=Lib.hid (HS.o.set hlt);have HI:=Lib.hid hI;have hD':b≠s:=Nat.ne_of_lt hD;have HCR:=Lib.hid (HSET.o.2.cell hD' cr);obtain⟨v',hb',_,_⟩:=HSET.o.1;have hsl:=HS.o.lt;have g0:(w.setCell ⟨s,1,none⟩ (.int .i64 ((a:Int)+1))).cell? ⟨s,0,none⟩=some (.slice (some ⟨b,off,none⟩) raw.length rc):=by
   have h:=hb;simp [World.setCell,World.cell?,Array.getElem?_modify,h]
  clear hb hr hI hD hge hb';generalize hc:raw.getD a 0=c at*;clear hc;go_enter func37,ntmps37
  go_wp2_with fail
  go_quiet (fail)
  go_wp2_with fail
  have hsv:Ay ((w.drewN nq).setCell ⟨s,1,none⟩ (.int .i64 ((a:Int)+1))) s raw (a+1):=HSET.o.1.drewN (n:=nq);have hfv:SFr s w ((w.drewN nq).setCell ⟨s,1,none⟩ (.int .i64 ((a:Int)+1))):=HSET.o.2.drewN (n:=nq);have k0:((w.drewN nq).setCell ⟨s,1,none⟩ (.int .i64 ((a:Int)+1))).cell? ⟨s,0,none⟩=some (.slice (some ⟨b,off,none⟩) raw.length rc):=g0;have k1:((w.drewN nq).setCell ⟨s,1,none⟩ (.int .i64 ((a:Int)+1))).cell? ⟨s,1,none⟩=some (.int .i64 ((a:Int)+1)):=by
   obtain⟨v2,hb2,_⟩:=hsv;rw[Lib.cell_of_heap hb2];show some (Value.int .i64 ((a+1:Nat):Int))=_;rw[show((a+1:Nat):Int)=(a:Int)+1 from by omega]
  have kr:((w.drewN nq).setCell ⟨s,1,none⟩ (.int .i64 ((a:Int)+1))).cell? ⟨b,off+a,none⟩=some (.int .i64 c):=HCR.o;have HSV:=Lib.hid hsv;have HFV:=Lib.hid hfv;clear hsv hfv g0 c0 c1 cr fz HSET HCR HS;generalize (w.drewN nq).setCell ⟨s,1,none⟩ (.int .i64 ((a:Int)+1))=V at*;have S1:IntKind.i64.wrap ((a:Int)+1-1)=a:=by rw[IntWalk.i64_in _ (by omega)];omega
  have S2:IntKind.i64.wrap (a:Int)=a:=IntWalk.i64_in _ (by omega);have i0:(0:Int)≤(a:Int):=by omega
  have i1:(a:Int)<(raw.length:Int):=by omega
  have hbv:b<V.heap.size:=World.block_lt_of_cell? _ _ kr;have hsv:s<V.heap.size:=HSV.o.lt
  go_region_held3 (fun w'=>w'.cell? ⟨s,0,none⟩=some (.slice (some ⟨b,off,none⟩) raw.length rc)∧w'.cell? ⟨s,1,none⟩=some (.int .i64 ((a:Int)+1))∧w'.cell? ⟨b,off+a,none⟩=some (.int .i64 c)) (first|(simp [*,World.cell?_alloc_lt];done)|go_keep) (first
   |(go_at_call 82;refine(tJ c n HI.o h0 (by omega) _).mono ?_;rintro r w2 ⟨he,hw⟩;subst he;subst hw))
  go_wp2_with fail
  go_ret
  exact⟨rfl,HSV.o,SFr.drewN (n:=1) HFV.o⟩
end Go.Proofs.YtcfpfnoldgnloaaGreatDoor
namespace Go.Proofs.YtcfpfnoldgnloaaGreatDoor
open Go.ChangeShapes Go.WideShapes Go.ChangeAt Go.RowKit
set_option maxHeartbeats 4000000
set_option maxRecDepth 100000
def Hd(D:Nat→Prop)(w:World)(l:List Int)(v:Value):Prop:=
 ∃a cap b off,v=.slice a l.length cap∧l.length≤cap∧cap≤9223372036854775807∧(l.length=0∨(a=some ⟨b,off,none⟩∧D b))∧
  (∀i,i<l.length→w.cell? ⟨b,off+i,none⟩=some (.int .i64 (l.getD i 0)))∧∀i,i<l.length→I64 (l.getD i 0)
theorem Hd.keep {D:Nat→Prop}{w w':World}(hk:Ed D w w'){l:List Int}{v:Value}(h:Hd D w l v):Hd D w' l v:=by
 obtain⟨a,cap,b,off,hv,h1,h2,h3,h4,h5⟩:=h;refine⟨a,cap,b,off,hv,h1,h2,h3,fun i hi=>?_,h5⟩;rcases h3 with h3|⟨_,hD⟩
 ·omega
 ·exact hk _ _ _ hD (h4 i hi)
theorem Hd.mono {D D':Nat→Prop}(hD:∀b,D b→D' b){w:World}{l:List Int}{v:Value}(h:Hd D w l v):Hd D' w l v:=by
 obtain⟨a,cap,b,off,hv,h1,h2,h3,h4,h5⟩:=h;exact⟨a,cap,b,off,hv,h1,h2,h3.imp id (fun q=>⟨q.1,hD _ q.2⟩),h4,h5⟩
theorem Hd.old {w w':World}{l:List Int}{v:Value}(hb:Below w.heap.size w w')(h:Hd (· <w.heap.size) w l v):Hd (· <w'.heap.size) w' l v:=
 (h.keep (Bh hb)).mono (fun b hl=>Nat.lt_of_lt_of_le hl hb.size)
theorem Hd.shape {D:Nat→Prop}{w:World}{l:List Int}{v:Value}(h:Hd D w l v):∃a cap,v=.slice a l.length cap:=by
 obtain⟨a,cap,b,off,hv,_⟩:=h;exact⟨a,cap,hv⟩
theorem Hd.len {D:Nat→Prop}{w:World}{l:List Int}{v:Value}(h:Hd D w l v):l.length≤9223372036854775807:=by
 obtain⟨a,cap,b,off,hv,h1,h2,_⟩:=h;omega
theorem Hd.take {D:Nat→Prop}{w:World}{l:List Int}{a:Option Addr}{n cap:Nat}(h:Hd D w l (.slice a n cap))(k:Nat)(hk:k≤l.length)(h4:k≤1000):Jm D w (l.take k) (.slice a k cap):=by
 obtain⟨a',cap',b,off,hv,h1,h2,h3,h5,h6⟩:=h
 cases hv
 have e:(l.take k).length=k:=by rw[List.length_take];omega
 refine⟨a,cap,b,off,by rw[e],by rw[e];omega,by rw[e];show k≤_;omega,?_,fun i hi=>?_,fun i hi=>?_⟩
 ·rcases h3 with h3|h3
  ·left;rw[e];omega
  ·exact .inr h3
 ·rw[e]at hi
  have:=h5 i (by omega);rw[List.getD_eq_getElem?_getD,List.getElem?_take,if_pos hi,←List.getD_eq_getElem?_getD];exact this
 ·rw[e]at hi
  have:=h6 i (by omega);rw[List.getD_eq_getElem?_getD,List.getElem?_take,if_pos hi,←List.getD_eq_getElem?_getD];exact this
theorem oL {n:Int}(h:(Lit.int .i64 n).wf=true):I64 n:=by
 simp only[Lit.wf,Bool.and_eq_true,decide_eq_true_eq]at h;exact h
theorem Xb:Tryz.prog.cellsOf 3=1:=by kernel_rfl
theorem gM {H:Type}{enc:TypeId ×Value→H}{W:World}{base:Nat}{x:Value}{d:DataW H}{p:List MemPlace}(hv:Value.okWide Tryz.prog W .any base 38 x)(h:DataW.Trod enc Tryz.prog W 0 (fun _=>true) true 38 x d p):
  ∃raw,Hd (· <W.heap.size) W raw x∧∀(W':World) (sp:Nat→Bool) (hd:Bool),Below W.heap.size W W'→(∀q,q∈p→sp q.block=true)→DataW.Trod enc Tryz.prog W' 0 sp hd 38 x d p:=by
 obtain⟨a0,len,cap,rfl⟩:=okWide_slice Tryz.underlying38 hv;obtain⟨fuel,hf⟩:=h;rcases open_ints Tryz.underlying38 Tryz.underlying3 Xb hf with⟨hcs,hx⟩|⟨a,len',cap',zs,hcs,hb,hl,hm,hz,hx,hcell,hwz⟩
 ·cases hcs;cases hx
  exact⟨[],⟨none,0,0,0,rfl,Nat.le_refl _,Nat.zero_le _,.inl rfl,fun i hi=>(by cases hi),fun i hi=>(by cases hi)⟩,fun W' sp hd _ _=>⟨2,rfl⟩⟩
 ·cases hcs;cases hx
  rw[if_pos rfl]at hz;have e:(zs.take len).length=len:=by rw[List.length_take];omega
  have hmax:cap≤9223372036854775807:=by unfold maxLen at hm;omega
  have wf0:∀i,i<zs.length→I64 (zs.getD i 0):=fun i hi=>oL (hwz _ (by rw[List.getD_eq_getElem?_getD,List.getElem?_eq_getElem hi];exact List.getElem_mem hi))
  rcases Nat.eq_zero_or_pos zs.length with h0|h0
  ·have hl0:len=0:=by omega
   subst hl0;refine⟨[],⟨some a,cap,0,0,rfl,Nat.zero_le _,hmax,.inl rfl,fun i hi=>(by cases hi),fun i hi=>(by cases hi)⟩,fun W' sp hd _ _=>⟨2,?_⟩⟩;exact shut_ints 0 Tryz.underlying38 Tryz.underlying3 Xb (Nat.zero_le _) hl hm (by split<;>omega) (fun i hi=>by omega) hwz
  ·obtain⟨b,off,rfl,hc⟩:=ints_at hcell h0
   have hbl:b<W.heap.size:=World.block_lt_of_cell? _ _ (hc 0 h0);refine⟨zs.take len,⟨some ⟨b,off,none⟩,cap,b,off,by rw[e],by rw[e];exact hl,hmax,.inr ⟨rfl,hbl⟩,fun i hi=>?_,fun i hi=>?_⟩,fun W' sp hd hB hsp=>⟨2,?_⟩⟩
   ·rw[e]at hi
    have:=hc i (by omega);rw[List.getD_eq_getElem?_getD,List.getElem?_take,if_pos hi,←List.getD_eq_getElem?_getD];exact this
   ·rw[e]at hi
    have:=wf0 i (by omega);rw[List.getD_eq_getElem?_getD,List.getElem?_take,if_pos hi,←List.getD_eq_getElem?_getD];exact this
   ·have hs:sp b=true:=hsp (.cell b (off+0)) (MemPlace.mem_row.2 ⟨0,h0,rfl⟩)
    exact shut_ints' 0 Tryz.underlying38 Tryz.underlying3 Xb (Nat.zero_le _) hl hm (by rw[hs];simpa using hz) (fun i hi=>Ad hB (hc i hi)) hwz
end Go.Proofs.YtcfpfnoldgnloaaGreatDoor
namespace Go.Proofs.YtcfpfnoldgnloaaGreatDoor
open Go.RowKit Go.Proofs.Tryz
set_option maxHeartbeats 20000000
set_option maxRecDepth 100000
open Go.Lib renaming hid→Za
open Go.Proofs.Tryz renaming prog→Zb
open SFr renaming of_below→Zc
theorem qX(c n:Int)(hc:I64 c)(h0:0<n)(h1:n≤9223372036854775807)(w:World):
  Calls Zb 135 #[.int .i64 c,.int .i64 n] w fun e w'=>e=.returned (.int .i64 (Hm c n))∧w'=w:=by
 obtain⟨l,u⟩:=hc;unfold Hm
 by_cases hneg:c<0
 ·rw[if_pos hneg]
  have hn0:(n==0)=false:=by simp;omega
  go_enter func135,ntmps135
  go_wp2_with fail
  go_ret
  exact⟨Iv (by show -((c+1).tmod n)=_;rw[←Int.neg_tmod,Int.tmod_eq_emod_of_nonneg (by omega)]),rfl⟩
 ·rw[if_neg hneg]
  have hneg':0≤c:=by omega
  go_enter func135,ntmps135
  go_wp2_with fail
  go_ret
  exact⟨rfl,rfl⟩
theorem tC(n:Int)(h0:0≤n)(h1:n<256)(W:World)(b:Nat)(hc:W.cell? ⟨b,0,none⟩=some (.int .u8 n)):
  (convert 77 9 (.slice (some ⟨b,0,none⟩) 1 1)).run Zb W=.ok (.string (Aa [UInt8.ofNat n.toNat])) W:=by
 refine run_convert_bytes_back (P:=Zb) W 77 9 5 ⟨b,0,none⟩ 1 [UInt8.ofNat n.toNat] underlying77 underlying5 underlying9 (fun j hj=>?_);have hj0:j=0:=by simp at hj;omega
 subst hj0;have e:((UInt8.ofNat n.toNat).toNat:Int)=n:=by
  rw[UInt8.toNat_ofNat'];have:n.toNat % 2 ^ 8=n.toNat:=Nat.mod_eq_of_lt (by omega);omega
 show W.cell? _=some (.int .u8 ((UInt8.ofNat n.toNat).toNat:Int))
 rw[e];exact hc
theorem suf_at:∀j:Fin 12,([Value.string ⟨#[]⟩,Value.string ⟨#[49]⟩,Value.string ⟨#[95]⟩,Value.string ⟨#[90,57]⟩,Value.string ⟨#[105,102]⟩,Value.string ⟨#[120]⟩,Value.string ⟨#[48]⟩,Value.string ⟨#[97,97]⟩,Value.string ⟨#[105,110,116,105,110,116]⟩,Value.string ⟨#[113,55]⟩,Value.string ⟨#[66]⟩,Value.string ⟨#[48,48]⟩]:List Value)[j.val]'(by simp)=.string (Aa (kQ.getD j.val [])):=by
 intro j;obtain⟨j,hj⟩:=j;have:j=0∨j=1∨j=2∨j=3∨j=4∨j=5∨j=6∨j=7∨j=8∨j=9∨j=10∨j=11:=by omega
 rcases this with rfl|rfl|rfl|rfl|rfl|rfl|rfl|rfl|rfl|rfl|rfl|rfl<;>rfl
theorem eD(c:Int)(hc:I64 c)(w:World):
  Calls Zb 83 #[.int .i64 c] w fun e w'=>e=.returned (.string (Aa (Jw c)))∧Below w.heap.size w w':=by
 have hk:=Np c 312 (by decide);have E:Hid (Jw c=UInt8.ofNat (97+(Hm c 312 % 26).toNat)::kQ.getD (Hm c 312 / 26).toNat []):=rfl;rw[E.out];have HC:=Za hc;have HK:Hid (∀w,Calls Zb 135 #[.int .i64 c,.int .i64 312] w fun e w'=>e=.returned (.int .i64 (Hm c 312))∧w'=w):=fun w=>qX c 312 hc (by decide) (by decide) w
 clear hc E;generalize Hm c 312=k at*;obtain⟨hk0,hk1⟩:=hk;have hm0:0≤k % 26:=Int.emod_nonneg _ (by decide);have hm1:k % 26<26:=Int.emod_lt_of_pos _ (by decide);have hd0:0≤k / 26:=by omega
 have hd1:k / 26<12:=by omega
 have hd2:(k / 26).toNat<12:=by omega
 have HCV:=tC (97+k % 26) (by omega) (by omega);have HLD:=suf_at ⟨(k / 26).toNat,hd2⟩;dsimp only at HLD;have hlen:(kQ.getD (k / 26).toNat []).length≤6:=by
  have h:∀j:Fin 12,(kQ.getD j.val []).length≤6:=by decide
  exact h ⟨_,hd2⟩
 generalize kQ.getD (k / 26).toNat []=sf at*;have hno:¬((Aa [UInt8.ofNat (97+k % 26).toNat]).size+(Aa sf).size>9223372036854775807):=by
  show ¬([UInt8.ofNat (97+k % 26).toNat].toArray.size+sf.toArray.size>_)
  simp;omega
 have hsb:Hid (Aa [UInt8.ofNat (97+k % 26).toNat]++Aa sf=Aa (UInt8.ofNat (97+(k % 26).toNat)::sf)):=by
  show _=_
  rw[show 97+(k % 26).toNat=(97+k % 26).toNat by omega];rfl
 generalize Aa [UInt8.ofNat (97+k % 26).toNat]=cb at*;generalize hsf:Aa sf=sb at*;have HSF:=Za hsf;clear hsf hlen;go_enter func83,ntmps83
 go_wp2_with fail
 refine(HK.o _).mono ?_;rintro r w2 ⟨he,hw⟩;subst he;subst hw;go_wp2_with fail
 go_region
 all_goals go_wp2_with fail
 all_goals
  go_ret
  refine⟨?_,by repeat(first|exact Below.refl _ _|refine Below.drew ?_ |refine Below.alloc ?_ (by simp) _)⟩;exact congrArg (fun s=>Ending.returned (Value.string s)) hsb.out
abbrev scV(sc:Sc)(vv av fv:Value):Value:=.agg #[vv,av,fv,.bool sc.free,.bool sc.loop]
theorem Pu(raw:List Int)(a:Nat)(n:Int)(h:0<n)(h1:n≤1000000):I64 (Ac raw a n).1:=by
 have:=Ah raw a n h;exact⟨by omega,by omega⟩
theorem Ay.alloc {w:World}{s:Nat}{raw:List Int}{a:Nat}(h:Ay w s raw a)(o:Obj):Ay (w.alloc o) s raw a:=h.old (bA)
theorem SFr.alloc {s:Nat}{w:World}(o:Obj):SFr s w (w.alloc o):=Zc (bA)
theorem xG(s:Nat)(raw:List Int)(a:Nat)(sc:Sc)(vv av fv lv:Value)(l:List Bs)(w:World)(hs:Ay w s raw a)(hl:Ba (· ≠s) w l lv)(h:(sc.free||l.isEmpty)=true):
  Calls Zb 69 #[scV sc vv av fv,.pointer (some ⟨s,0,none⟩),lv] w (Dx w s raw (.string (Aa (Gg sc.free l raw a).1)) (Gg sc.free l raw a).2):=by
 obtain⟨l1,l2,rfl⟩:=hl.shape;have E:Hid (Gg sc.free l raw a=(Jw (Ac raw a 312).1,(Ac raw a 312).2)):=by show _=_;unfold Gg;rw[if_pos h]
 rw[E.out];have HS1:=Za (hs.alloc (.cells #[vv,av,fv,.bool sc.free,.bool sc.loop] 73));have HF1:Hid (SFr s w (w.alloc (.cells #[vv,av,fv,.bool sc.free,.bool sc.loop] 73))):=SFr.alloc _;clear hs hl E;have key:∀w1,Ay w1 s raw a→SFr s w w1→Calls Zb 37 #[.pointer (some ⟨s,0,none⟩),.int .i64 312] w1 (Dx w1 s raw (.int .i64 (Ac raw a 312).1) (Ac raw a 312).2):=fun w1 h1 h2=>Cj s raw a 312 w1 h1 (by decide) (by decide)
 have HK:=Za key;clear key;have HV:Hid (∀w,Calls Zb 83 #[.int .i64 (Ac raw a 312).1] w fun e w'=>e=.returned (.string (Aa (Jw (Ac raw a 312).1)))∧Below w.heap.size w w'):=fun w=>eD _ (Pu raw a 312 (by decide) (by decide)) w
 generalize Ac raw a 312=g at*
 cases hf:sc.free
 ·have hl:l.length=0:=by rw[hf]at h;simpa using h
  rw[hl];clear hl h;rw[hf]at HS1 HF1;go_enter func69,ntmps69
  go_wp2_with fail
  refine(HK.o _ HS1.o HF1.o).mono ?_;rintro r w2 ⟨rfl,hs2,hf2⟩;have HS2:=Za hs2;have HF2:=Za (HF1.o.trans hf2);clear hs2 hf2;go_wp2_with fail
  refine(HV.o _).mono ?_;rintro r w3 ⟨rfl,hb3⟩;have HS3:=Za (HS2.o.old hb3);have HF3:=Za (HF2.o.trans (Zc hb3));clear hb3;go_wp2_with fail
  go_ret
  exact⟨rfl,HS3.o,HF3.o⟩
 ·clear h
  rw[hf]at HS1 HF1;go_enter func69,ntmps69
  go_wp2_with fail
  refine(HK.o _ HS1.o HF1.o).mono ?_;rintro r w2 ⟨rfl,hs2,hf2⟩;have HS2:=Za hs2;have HF2:=Za (HF1.o.trans hf2);clear hs2 hf2;go_wp2_with fail
  refine(HV.o _).mono ?_;rintro r w3 ⟨rfl,hb3⟩;have HS3:=Za (HS2.o.old hb3);have HF3:=Za (HF2.o.trans (Zc hb3));clear hb3;go_wp2_with fail
  go_ret
  exact⟨rfl,HS3.o,HF3.o⟩
theorem name_of(s:Nat)(raw:List Int)(a:Nat)(sc:Sc)(vv av fv lv:Value)(l:List Bs)(w:World)(hs:Ay w s raw a)(hl:Ba (· ≠s) w l lv)(h:(sc.free||l.isEmpty)=false)(hn:l.length≤1000000):
  Calls Zb 69 #[scV sc vv av fv,.pointer (some ⟨s,0,none⟩),lv] w (Dx w s raw (.string (Aa (Gg sc.free l raw a).1)) (Gg sc.free l raw a).2):=by
 obtain⟨l1,l2,rfl⟩:=hl.shape;have hpos:0<l.length:=cN (by rw[h];simp);have hf:sc.free=false:=by revert h;cases sc.free<;>simp
 have E:Hid (Gg sc.free l raw a=(l.getD (Ac raw a l.length).1.toNat [],(Ac raw a l.length).2)):=by show _=_;unfold Gg;rw[if_neg (by rw[h];simp)]
 rw[E.out];have HS1:=Za (hs.alloc (.cells #[vv,av,fv,.bool sc.free,.bool sc.loop] 73));have HF1:Hid (SFr s w (w.alloc (.cells #[vv,av,fv,.bool sc.free,.bool sc.loop] 73))):=SFr.alloc _;have HK:Hid (∀w1,Ay w1 s raw a→Calls Zb 37 #[.pointer (some ⟨s,0,none⟩),.int .i64 l.length] w1 (Dx w1 s raw (.int .i64 (Ac raw a l.length).1) (Ac raw a l.length).2)):=fun w1 h1=>Cj s raw a l.length w1 h1 (by omega) (by omega)
 have hr:=Ah raw a l.length (by omega);have HL:=Za hl;have hne:((l.length:Int)==0)=false:=beq_eq_false_iff_ne.2 (by omega);clear hs hl E h;have hi64:=Pu raw a l.length (by omega) (by omega);clear hi64;generalize Ac raw a l.length=g at*;obtain⟨g,ga⟩:=g;obtain⟨g0,g1⟩:=hr;dsimp only at g0 g1 HK ⊢;obtain⟨i,rfl⟩:=Int.eq_ofNat_of_zero_le g0;rw[Int.toNat_natCast];have hi:i<l.length:=by omega
 unfold scV;rw[hf]at HS1 HF1 ⊢;clear hf;go_enter func69,ntmps69
 go_wp2_with fail
 refine(HK.o _ HS1.o).mono ?_;rintro r w2 ⟨rfl,hs2,hf2⟩;have HS2:=Za hs2;have HF2:=Za (HF1.o.trans hf2);clear hs2 hf2;obtain⟨b,off,rfl,hD,hbl,c⟩:=Na (Ba.keep HF2.o.keeps HL.o) i hi;generalize l.getD i []=x at*;clear hD;go_wp2_with fail
 go_ret
 exact⟨rfl,HS2.o,HF2.o⟩
theorem bF(s:Nat)(raw:List Int)(a:Nat)(sc:Sc)(vv av fv lv:Value)(l:List Bs)(w:World)(hs:Ay w s raw a)(hl:Ba (· ≠s) w l lv)(hn:l.length≤1000000):
  Calls Zb 69 #[scV sc vv av fv,.pointer (some ⟨s,0,none⟩),lv] w (Dx w s raw (.string (Aa (Gg sc.free l raw a).1)) (Gg sc.free l raw a).2):=by
 cases h:(sc.free||l.isEmpty)
 ·exact name_of s raw a sc vv av fv lv l w hs hl h hn
 ·exact xG s raw a sc vv av fv lv l w hs hl h
theorem Ay.other {w:World}{s:Nat}{raw:List Int}{a:Nat}(h:Ay w s raw a){k:Nat}(hk:s<k)(i:Nat)(v:Value):Ay (w.setCell ⟨k,i,none⟩ v) s raw a:=by
 obtain⟨u,h1,h2,h3⟩:=h;exact⟨u,(Below.heap_setCell _ _ _ _ (by show s≠k;omega)).trans h1,h2.keep (Ai w (by omega) i v),h3⟩
theorem oH(s:Nat)(raw:List Int)(a:Nat)(sc:Sc)(vv av fv:Value)(w:World)(hs:Ay w s raw a)(hl:Bt (· ≠s) w sc.arrays av)(h:(sc.free||sc.arrays.isEmpty)=true):
  Calls Zb 38 #[scV sc vv av fv,.pointer (some ⟨s,0,none⟩)] w (Dx w s raw (.agg #[.string (Aa (Cg sc.free sc.arrays raw a).1.name),.int .i64 (Cg sc.free sc.arrays raw a).1.size]) (Cg sc.free sc.arrays raw a).2):=by
 obtain⟨l1,l2,rfl⟩:=hl.shape;have hsl:=hs.lt;have E:Hid (Cg sc.free sc.arrays raw a=(⟨Jw (Ac raw a 312).1,1+(Ac raw (Ac raw a 312).2 1000).1⟩,(Ac raw (Ac raw a 312).2 1000).2)):=by show _=_;unfold Cg;rw[if_pos h]
 rw[E.out];have HK:Hid (∀w1,Ay w1 s raw a→Calls Zb 37 #[.pointer (some ⟨s,0,none⟩),.int .i64 312] w1 (Dx w1 s raw (.int .i64 (Ac raw a 312).1) (Ac raw a 312).2)):=fun w1 h1=>Cj s raw a 312 w1 h1 (by decide) (by decide)
 have HV:Hid (∀w,Calls Zb 83 #[.int .i64 (Ac raw a 312).1] w fun e w'=>e=.returned (.string (Aa (Jw (Ac raw a 312).1)))∧Below w.heap.size w w'):=fun w=>eD _ (Pu raw a 312 (by decide) (by decide)) w
 have HN:Hid (∀w1,Ay w1 s raw (Ac raw a 312).2→Calls Zb 37 #[.pointer (some ⟨s,0,none⟩),.int .i64 1000] w1 (Dx w1 s raw (.int .i64 (Ac raw (Ac raw a 312).2 1000).1) (Ac raw (Ac raw a 312).2 1000).2)):=fun w1 h1=>Cj s raw _ 1000 w1 h1 (by decide) (by decide)
 have hr:=Ah raw (Ac raw a 312).2 1000 (by decide);have hcase:(sc.free=false∧sc.arrays.length=0)∨sc.free=true:=by
  revert h;cases sc.free
  ·intro h;exact .inl ⟨rfl,by simpa using h⟩
  ·intro _;exact .inr rfl
 clear E h hl;unfold scV;generalize Ac raw (Ac raw a 312).2 1000=q at*;generalize Ac raw a 312=g at*;obtain⟨r0,r1⟩:=hr;generalize sc.free=fb at*;generalize sc.arrays.length=n at*;have hb1:Below w.heap.size w ((w.alloc (.cells #[vv,.slice l1 n l2,fv,.bool fb,.bool sc.loop] 73)).alloc (.cells #[.string ⟨#[]⟩,.int .i64 0] 85)):=(bA).alloc (by simp) _;have HS1:=Za (hs.old hb1);have HF1:Hid (SFr s w ((w.alloc (.cells #[vv,.slice l1 n l2,fv,.bool fb,.bool sc.loop] 73)).alloc (.cells #[.string ⟨#[]⟩,.int .i64 0] 85))):=Zc hb1;have hr1:=Ae.new (w.alloc (.cells #[vv,.slice l1 n l2,fv,.bool fb,.bool sc.loop] 73)) [.string ⟨#[]⟩,.int .i64 0] 85;rw[show(w.alloc (.cells #[vv,.slice l1 n l2,fv,.bool fb,.bool sc.loop] 73)).heap.size=w.heap.size+1 by simp]at hr1;have HZ:Hid (w.heap.size+1≠s):=by show _≠_;omega
 have HR:=Za hr1;clear hs hb1 hr1;have hsx:s<w.heap.size+1:=by omega
 have hge:w.heap.size≤w.heap.size+1:=by omega
 rcases hcase with⟨rfl,rfl⟩|rfl
 all_goals
  go_enter func38,ntmps38
  go_wp2_with fail
  refine(HK.o _ HS1.o).mono ?_;rintro r w2 ⟨rfl,hs2,hf2⟩;have HS2:=Za hs2;have HF2:=Za (HF1.o.trans hf2);have HR2:=Za (HR.o.sfr hf2 HZ.o);clear hs2 hf2;go_wp2_with fail
  refine(HV.o _).mono ?_;rintro r w3 ⟨rfl,hb3⟩;have HS3:=Za (HS2.o.old hb3);have HF3:=Za (HF2.o.trans (Zc hb3));have HR3:=Za (HR2.o.old hb3);clear hb3;go_wp2_with fail
  refine(HN.o _ HS3.o).mono ?_;rintro r w4 ⟨rfl,hs4,hf4⟩;have HS4:=Za hs4;have HF4:=Za (HF3.o.trans hf4);have HR4:=Za (HR3.o.sfr hf4 HZ.o);clear hs4 hf4;have c0:=HR4.o.at 0 _ rfl;have c1:=HR4.o.at 1 _ rfl;have z0:=HR4.o.fz 0;have z1:=HR4.o.fz 1;have HR5:=Za ((HR4.o.set 0 (.string (Aa (Jw g.1)))).set 1 (.int .i64 (1+q.1)));have HS5:=Za ((HS4.o.other hsx 0 (.string (Aa (Jw g.1)))).other hsx 1 (.int .i64 (1+q.1)));have HF5:=Za ((HF4.o.setNew hge 0 (.string (Aa (Jw g.1)))).setNew hge 1 (.int .i64 (1+q.1)));go_wp2_with fail
  have d0:=HR5.o.at 0 _ rfl;have d1:=HR5.o.at 1 _ rfl;exact bodyPost_ret (v:=.agg #[.string (Aa (Jw g.1)),.int .i64 (1+q.1)]) (by simp [results,results38,go_sem,d0,d1]) rfl ⟨rfl,HS5.o,HF5.o⟩
theorem vH(s:Nat)(raw:List Int)(a:Nat)(sc:Sc)(vv av fv:Value)(w:World)(hs:Ay w s raw a)(hl:Bt (· ≠s) w sc.arrays av)(h:(sc.free||sc.arrays.isEmpty)=false)(hn:sc.arrays.length≤1000000):
  Calls Zb 38 #[scV sc vv av fv,.pointer (some ⟨s,0,none⟩)] w (Dx w s raw (.agg #[.string (Aa (Cg sc.free sc.arrays raw a).1.name),.int .i64 (Cg sc.free sc.arrays raw a).1.size]) (Cg sc.free sc.arrays raw a).2):=by
 obtain⟨l1,l2,rfl⟩:=hl.shape;have hsl:=hs.lt;have hpos:0<sc.arrays.length:=cN (by rw[h];simp);have hf:sc.free=false:=by revert h;cases sc.free<;>simp
 have E:Hid (Cg sc.free sc.arrays raw a=(Kz sc.arrays (Ac raw a sc.arrays.length).1.toNat,(Ac raw a sc.arrays.length).2)):=by show _=_;unfold Cg;rw[if_neg (by rw[h];simp)]
 rw[E.out];have HK:Hid (∀w1,Ay w1 s raw a→Calls Zb 37 #[.pointer (some ⟨s,0,none⟩),.int .i64 sc.arrays.length] w1 (Dx w1 s raw (.int .i64 (Ac raw a sc.arrays.length).1) (Ac raw a sc.arrays.length).2)):=fun w1 h1=>Cj s raw a sc.arrays.length w1 h1 (by omega) (by omega)
 have hr:=Ah raw a sc.arrays.length (by omega);clear E h;generalize Ac raw a sc.arrays.length=g at*;obtain⟨g,ga⟩:=g;obtain⟨g0,g1⟩:=hr;dsimp only at g0 g1 HK ⊢;obtain⟨i,rfl⟩:=Int.eq_ofNat_of_zero_le g0;rw[Int.toNat_natCast];have hi:i<sc.arrays.length:=by omega
 obtain⟨eb,off,rfl,hD,hbl,c0,c1⟩:=Bt.cellAt hl i hi;have heb:eb≠s:=hD;generalize Kz sc.arrays i=x at*;have hne:((sc.arrays.length:Int)==0)=false:=beq_eq_false_iff_ne.2 (by omega);clear hl hD;unfold scV;rw[hf];clear hf;generalize sc.arrays.length=n at*;have hb1:Below w.heap.size w ((w.alloc (.cells #[vv,.slice (some ⟨eb,off,none⟩) n l2,fv,.bool false,.bool sc.loop] 73)).alloc (.cells #[.string ⟨#[]⟩,.int .i64 0] 85)):=(bA).alloc (by simp) _;have HS1:=Za (hs.old hb1);have HF1:Hid (SFr s w ((w.alloc (.cells #[vv,.slice (some ⟨eb,off,none⟩) n l2,fv,.bool false,.bool sc.loop] 73)).alloc (.cells #[.string ⟨#[]⟩,.int .i64 0] 85))):=Zc hb1;have hr1:=Ae.new (w.alloc (.cells #[vv,.slice (some ⟨eb,off,none⟩) n l2,fv,.bool false,.bool sc.loop] 73)) [.string ⟨#[]⟩,.int .i64 0] 85;rw[show(w.alloc (.cells #[vv,.slice (some ⟨eb,off,none⟩) n l2,fv,.bool false,.bool sc.loop] 73)).heap.size=w.heap.size+1 by simp]at hr1;have hc1:=(Ae.new w [vv,.slice (some ⟨eb,off,none⟩) n l2,fv,.bool false,.bool sc.loop] 73).alloc (.cells #[.string ⟨#[]⟩,.int .i64 0] 85);have e0:=Ad hb1 c0;have e1:=Ad hb1 c1;have HZ:Hid (w.heap.size+1≠s):=by show _≠_;omega
 have HY:Hid (w.heap.size≠s):=by show _≠_;omega
 have HR:=Za hr1;have HC:=Za hc1;have hsx:s<w.heap.size+1:=by omega
 have hge:w.heap.size≤w.heap.size+1:=by omega
 clear hs hb1 hr1 hc1 c0 c1;go_enter func38,ntmps38
 go_wp2_with fail
 generalize (w.alloc (.cells #[vv,.slice (some ⟨eb,off,none⟩) n l2,fv,.bool false,.bool sc.loop] 73)).alloc (.cells #[.string ⟨#[]⟩,.int .i64 0] 85)=W at*;have a1:=HC.o.at 1 _ rfl;have hdr:Below W.heap.size W W.drew:=(Below.refl _ _).drew;have HSd:=Za (HS1.o.old hdr);clear hdr;have hbe:eb≠w.heap.size+1:=by omega
 have hX1:w.heap.size+1<W.heap.size:=HR.o.lt;have z0:W.frozen? ⟨w.heap.size+1,0,none⟩=false:=HR.o.fz 0;have z1:W.frozen? ⟨w.heap.size+1,1,none⟩=false:=HR.o.fz 1;have y0:=HR.o.at 0 _ rfl;have y1:=HR.o.at 1 _ rfl
 go_region_held3 (fun w'=>w'.cell? ⟨w.heap.size,1,none⟩=some (.slice (some ⟨eb,off,none⟩) n l2)∧w'.cell? ⟨eb,off+i*2,none⟩=some (.string (Aa x.name))∧w'.cell? ⟨eb,off+i*2+1,none⟩=some (.int .i64 x.size)) (first|(simp [*,World.cell?_alloc_lt,Ve];done)|go_keep) (first
  |(go_at_call 37;refine(HK.o _ HSd.o).mono ?_;rintro r w4 ⟨he,hs4,hf4⟩;subst he;have HS4:=Za hs4;have HF4:=Za (HF1.o.trans ((Zc (Below.refl _ _).drew).trans hf4));have hR4:=(HR.o.old (Below.refl _ _).drew).sfr hf4 HZ.o;have HR4:=Za hR4;have k1:w4.cell? ⟨w.heap.size,1,none⟩=some (.slice (some ⟨eb,off,none⟩) n l2):=hf4.cell HY.o a1;have m0:w4.cell? ⟨eb,off+i*2,none⟩=some (.string (Aa x.name)):=hf4.cell heb e0;have m1:w4.cell? ⟨eb,off+i*2+1,none⟩=some (.int .i64 x.size):=hf4.cell heb e1;have u0:=hR4.at 0 _ rfl;have u1:=hR4.at 1 _ rfl;have v0:=hR4.fz 0;have v1:=hR4.fz 1;have hX4:w.heap.size+1<w4.heap.size:=hR4.lt;clear hR4 hs4 hf4))
 go_wp2_with fail
 have HR5:=Za ((HR4.o.set 0 (.string (Aa x.name))).set 1 (.int .i64 x.size));have HS5:=Za ((HS4.o.other hsx 0 (.string (Aa x.name))).other hsx 1 (.int .i64 x.size));have HF5:=Za ((HF4.o.setNew hge 0 (.string (Aa x.name))).setNew hge 1 (.int .i64 x.size));have d0:=HR5.o.at 0 _ rfl;have d1:=HR5.o.at 1 _ rfl;exact bodyPost_ret (v:=.agg #[.string (Aa x.name),.int .i64 x.size]) (by simp [results,results38,go_sem,d0,d1]) rfl ⟨rfl,HS5.o,HF5.o⟩
theorem Qx(s:Nat)(raw:List Int)(a:Nat)(sc:Sc)(vv av fv:Value)(w:World)(hs:Ay w s raw a)(hl:Bt (· ≠s) w sc.arrays av)(hn:sc.arrays.length≤1000000):
  Calls Zb 38 #[scV sc vv av fv,.pointer (some ⟨s,0,none⟩)] w (Dx w s raw (.agg #[.string (Aa (Cg sc.free sc.arrays raw a).1.name),.int .i64 (Cg sc.free sc.arrays raw a).1.size]) (Cg sc.free sc.arrays raw a).2):=by
 cases h:(sc.free||sc.arrays.isEmpty)
 ·exact vH s raw a sc vv av fv w hs hl h hn
 ·exact oH s raw a sc vv av fv w hs hl h
structure Ft (s:Nat)(w:World)(sc:Sc)(vv av fv:Value):Prop where
 vars:Ba (· ≠s) w sc.vars vv
 arrays:Bt (· ≠s) w sc.arrays av
 funcs:Bw (· ≠s) w sc.funcs fv
 v1:sc.vars.length≤1000000
 a1:sc.arrays.length≤1000000
 f1:sc.funcs.length≤1000000
 p1:∀f,f∈sc.funcs→f.params.length≤1000000
theorem Ft.sfr {s:Nat}{w w':World}{sc:Sc}{vv av fv:Value}(h:Ft s w sc vv av fv)(hf:SFr s w w'):Ft s w' sc vv av fv:=
 ⟨h.vars.keep hf.keeps,h.arrays.keep hf.keeps,h.funcs.keep hf.keeps,h.v1,h.a1,h.f1,h.p1⟩
def Eu(w:World)(s:Nat)(raw:List Int)(x:Ex ×Nat)(r:Ending)(w':World):Prop:=
 ∃v,r=.returned (exV x.1 v)∧Ay w' s raw x.2∧SFr s w w'∧Ag (w.heap.size≤ ·) w' x.1.args v∧I64 x.1.n
def Ju(d:Nat):Prop:= ∀(s:Nat) (raw:List Int) (a:Nat) (sc:Sc) (vv av fv:Value) (w:World),Ay w s raw a→Ft s w sc vv av fv→
 Calls Zb 31 #[scV sc vv av fv,.pointer (some ⟨s,0,none⟩),.int .i64 d] w (Eu w s raw (Aq sc raw d a))
theorem Xm(sc:Sc):sc.hasVars=(decide (0<sc.vars.length)||sc.free):=by
 unfold Sc.hasVars;cases sc.vars<;>simp
theorem Rn(sc:Sc):sc.hasArrays=(decide (0<sc.arrays.length)||sc.free):=by
 unfold Sc.hasArrays;cases sc.arrays<;>simp
theorem Ue(sc:Sc):sc.hasFuncs=(decide (0<sc.funcs.length)||sc.free):=by
 unfold Sc.hasFuncs;cases sc.funcs<;>simp
def gTop(sc:Sc)(raw:List Int)(d a:Nat):Ex ×Nat:=Ds sc raw (Aq sc raw (d-1)) (gK raw d a) (Ac raw a 12).2
theorem oU(sc:Sc)(raw:List Int)(g h:Nat→Ex ×Nat)(k:Int)(a:Nat)(hk:k<4):Ds sc raw g k a=Ds sc raw h k a:=by
 unfold Ds;split
 ·rfl
 split
 ·rfl
 simp only[hk,if_true]
theorem rD(sc:Sc)(raw:List Int)(d a:Nat):Aq sc raw d a=gTop sc raw d a:=by
 cases d with
 |zero=>rw[Aq];unfold Qi gTop;exact oU _ _ _ _ _ _ (cK raw 0 a (by omega))
 |succ d=>rw[Aq];unfold Qi gTop;rw[Nat.add_sub_cancel]
def lW(n:Nat):Code→Option Code
 |.seq (.region k o d) b=>if k==n then some b else lW n b
 |.seq a b=>lW n b
 |_=>none
noncomputable def geCode:Code:=(Tryz.f31.body.bind (lW 6)).getD .skip
structure GeH (d s:Nat)(raw:List Int)(sc:Sc)(v1:Option Addr)(v2:Nat)(a1:Option Addr)(a2:Nat)(f1:Option Addr)(f2:Nat)(ga:Nat)(k:Int)(w w2:World):Prop where
 hd1:d≤1000
 lv:sc.vars.length≤1000000
 la:sc.arrays.length≤1000000
 lf:sc.funcs.length≤1000000
 hsl:s<w.heap.size
 hsc:Ft s w sc (.slice v1 sc.vars.length v2) (.slice a1 sc.arrays.length a2) (.slice f1 sc.funcs.length f2)
 hS2:Ay w2 s raw ga
 hF2:SFr s w w2
 hR2:Ae w2 (w.heap.size+1) [.int .i64 0,.int .i64 0,.int .i64 0,.string ⟨#[]⟩,.slice none 0 0] 27
 hC2:Ae w2 w.heap.size [.slice v1 sc.vars.length v2,.slice a1 sc.arrays.length a2,.slice f1 sc.funcs.length f2,.bool sc.free,.bool sc.loop] 73
 g0:0≤k
 g1:k<12
def GeG(d s:Nat)(raw:List Int)(sc:Sc)(v1:Option Addr)(v2:Nat)(a1:Option Addr)(a2:Nat)(f1:Option Addr)(f2:Nat)(k:Int)(w w2:World)(x:Ex ×Nat):Prop:=
 ∀q4 q5 q11 q12 q13 q14 q15 q16 q17 q18 q19 q20 q21 q22 q23 q24 q25 q26 q27 q28 q29 q30 q31 q32 q33 q34 q35 q36 q37 q38 q39 q40 q41 q42 q43 q44 q45 q46 q47 q48 q49 q50 q51 q52 q53 q54 q55 q56 q57 q58 q59 q60 q61 q62 q63 q64 q65 q66 q67 q68 q69 q70 q71 q72 q73 q74 q75 q76 q77 q78 q79 q80 q81 q82 q83 q84 q85 q86 q87 q88 q89 q90 q91 q92 q93 q94 q95 q96 q97 q98 q99 q100 q101 q102 q103 q104 q105 q106 q107 q108 q109 q110 q111 q112 q113 q114 q115 q116 q117 q118 q119 q120 q121 q122 q123 q124 q125 q126 q127 q128 q129 q130 q131 q132 q133 q134 q135 q136 q137 q138 q139 q140 q141 q142 q143 q144 q145 q146 q147 q148 q149 q150:Value,Code.wp Zb geCode (bodyPost Zb Tryz.f31 (Eu w s raw x)) ⟨[scV sc (.slice v1 sc.vars.length v2) (.slice a1 sc.arrays.length a2) (.slice f1 sc.funcs.length f2),.pointer (some ⟨s,0,none⟩),.int .i64 d,.pointer (some ⟨w.heap.size,0,none⟩),q4,q5,.pointer (some ⟨w.heap.size+1,0,none⟩),.int .i64 k,.bool sc.hasVars,.bool sc.hasArrays,.bool sc.hasFuncs,q11,q12,q13,q14,q15,q16,q17,q18,q19,q20,q21,q22,q23,q24,q25,q26,q27,q28,q29,q30,q31,q32,q33,q34,q35,q36,q37,q38,q39,q40,q41,q42,q43,q44,q45,q46,q47,q48,q49,q50,q51,q52,q53,q54,q55,q56,q57,q58,q59,q60,q61,q62,q63,q64,q65,q66,q67,q68,q69,q70,q71,q72,q73,q74,q75,q76,q77,q78,q79,q80,q81,q82,q83,q84,q85,q86,q87,q88,q89,q90,q91,q92,q93,q94,q95,q96,q97,q98,q99,q100,q101,q102,q103,q104,q105,q106,q107,q108,q109,q110,q111,q112,q113,q114,q115,q116,q117,q118,q119,q120,q121,q122,q123,q124,q125,q126,q127,q128,q129,q130,q131,q132,q133,q134,q135,q136,q137,q138,q139,q140,q141,q142,q143,q144,q145,q146,q147,q148,q149,q150].toArray,[]⟩ w2
theorem ge_pre {d s:Nat}(hd1:d≤1000){raw:List Int}{a:Nat}{sc:Sc}{v1:Option Addr}{v2:Nat}{a1:Option Addr}{a2:Nat}{f1:Option Addr}{f2:Nat}{w:World}(hs:Ay w s raw a)(hsc:Ft s w sc (.slice v1 sc.vars.length v2) (.slice a1 sc.arrays.length a2) (.slice f1 sc.funcs.length f2)){k:Int}(hkk:gK raw d a=k){x:Ex ×Nat}(H:∀w2,GeH d s raw sc v1 v2 a1 a2 f1 f2 (Ac raw a 12).2 k w w2→GeG d s raw sc v1 v2 a1 a2 f1 f2 k w w2 x):
  Calls Zb 31 #[scV sc (.slice v1 sc.vars.length v2) (.slice a1 sc.arrays.length a2) (.slice f1 sc.funcs.length f2),.pointer (some ⟨s,0,none⟩),.int .i64 d] w (Eu w s raw x):=by
 have lv:=hsc.v1;have la:=hsc.a1;have lf:=hsc.f1;have hsl:=hs.lt;have HK:Hid (∀w1,Ay w1 s raw a→Calls Zb 37 #[.pointer (some ⟨s,0,none⟩),.int .i64 12] w1 (Dx w1 s raw (.int .i64 (Ac raw a 12).1) (Ac raw a 12).2)):=fun w1 h1=>Cj s raw a 12 w1 h1 (by decide) (by decide)
 have hr:=Ah raw a 12 (by decide);have hr0:0≤k∧k<12:=by rw[←hkk];unfold gK;split<;>omega
 have hcase:(d<2∧(Ac raw a 12).1 % 4=k)∨(2≤d∧(Ac raw a 12).1=k):=by
  unfold gK at hkk;split at hkk
  ·exact .inl ⟨by omega,hkk⟩
  ·exact .inr ⟨by omega,hkk⟩
 clear hkk;have HH:=Za H;clear H;generalize Ac raw a 12=g at*;obtain⟨g,ga⟩:=g;obtain⟨g0,g1⟩:=hr0;dsimp only at hr hcase HK HH;have hb1:Below w.heap.size w ((w.alloc (.cells #[.slice v1 sc.vars.length v2,.slice a1 sc.arrays.length a2,.slice f1 sc.funcs.length f2,.bool sc.free,.bool sc.loop] 73)).alloc (.cells #[.int .i64 0,.int .i64 0,.int .i64 0,.string ⟨#[]⟩,.slice none 0 0] 27)):=(bA).alloc (by simp) _;have hr1:=Ae.new (w.alloc (.cells #[.slice v1 sc.vars.length v2,.slice a1 sc.arrays.length a2,.slice f1 sc.funcs.length f2,.bool sc.free,.bool sc.loop] 73)) [.int .i64 0,.int .i64 0,.int .i64 0,.string ⟨#[]⟩,.slice none 0 0] 27;rw[show(w.alloc (.cells #[.slice v1 sc.vars.length v2,.slice a1 sc.arrays.length a2,.slice f1 sc.funcs.length f2,.bool sc.free,.bool sc.loop] 73)).heap.size=w.heap.size+1 by simp]at hr1;have HC:=Za ((Ae.new w [.slice v1 sc.vars.length v2,.slice a1 sc.arrays.length a2,.slice f1 sc.funcs.length f2,.bool sc.free,.bool sc.loop] 73).alloc (.cells #[.int .i64 0,.int .i64 0,.int .i64 0,.string ⟨#[]⟩,.slice none 0 0] 27));have HR:=Za hr1;have HS1:=Za (hs.old hb1);have HF1:Hid (SFr s w ((w.alloc (.cells #[.slice v1 sc.vars.length v2,.slice a1 sc.arrays.length a2,.slice f1 sc.funcs.length f2,.bool sc.free,.bool sc.loop] 73)).alloc (.cells #[.int .i64 0,.int .i64 0,.int .i64 0,.string ⟨#[]⟩,.slice none 0 0] 27))):=Zc hb1;have HSC:=Za hsc;have HZ:Hid (w.heap.size+1≠s):=by show _≠_;omega
 have HY:Hid (w.heap.size≠s):=by show _≠_;omega
 have hsx:s<w.heap.size+1:=by omega
 have hge:w.heap.size≤w.heap.size+1:=by omega
 have hd0:(0:Int)≤(d:Int):=by omega
 have hdM:(d:Int)≤1000:=by omega
 have hva:Hid (sc.hasVars=(decide (0<sc.vars.length)||sc.free)):=Xm sc;have haa:Hid (sc.hasArrays=(decide (0<sc.arrays.length)||sc.free)):=Rn sc;have hfa:Hid (sc.hasFuncs=(decide (0<sc.funcs.length)||sc.free)):=Ue sc;clear hb1 hr1 hs hsc;rcases hcase with⟨hd,hkk⟩|⟨hd,hkk⟩
 ·have hdI:(d:Int)<2:=by omega
  have HKK:=Za hkk;clear hkk;go_enter func31,ntmps31
  go_wp2_with fail
  refine(HK.o _ HS1.o).mono ?_;rintro r w2 ⟨rfl,hs2,hf2⟩;have HS2:=Za hs2;have HF2:=Za (HF1.o.trans hf2);have HR2:=Za (HR.o.sfr hf2 HZ.o);have HC2:=Za (HC.o.sfr hf2 HY.o);clear hs2 hf2 HS1 HF1 HR HC HK;have b0:=HC2.o.at 0 _ rfl;have b1:=HC2.o.at 1 _ rfl;have b2:=HC2.o.at 2 _ rfl;have b3:=HC2.o.at 3 _ rfl;have b4:=HC2.o.at 4 _ rfl;go_upto_region 4 with(fail)
  go_cut [8] (fun q wx=>q=.bool sc.hasVars∧w2=wx)
  case first=>
   by_cases hlv:0<sc.vars.length
   ·have hlv':(0:Int)<(sc.vars.length:Int):=by omega
    go_wp2_with fail
    go_meet;exact⟨by rw[hva.out,decide_eq_true hlv];rfl,rfl⟩
   ·have hlv':(sc.vars.length:Int)≤0:=by omega
    go_wp2_with fail
    go_meet;exact⟨by rw[hva.out,decide_eq_false hlv];rfl,rfl⟩
  case rest=>
  obtain⟨rfl,rfl⟩:=hcut;go_upto_region 5 with(fail)
  go_cut [9] (fun q wx=>q=.bool sc.hasArrays∧w2=wx)
  case first=>
   by_cases hlv:0<sc.arrays.length
   ·have hlv':(0:Int)<(sc.arrays.length:Int):=by omega
    go_wp2_with fail
    go_meet;exact⟨by rw[haa.out,decide_eq_true hlv];rfl,rfl⟩
   ·have hlv':(sc.arrays.length:Int)≤0:=by omega
    go_wp2_with fail
    go_meet;exact⟨by rw[haa.out,decide_eq_false hlv];rfl,rfl⟩
  case rest=>
  obtain⟨rfl,rfl⟩:=hcut;go_upto_region 6 with(fail)
  go_cut [10] (fun q wx=>q=.bool sc.hasFuncs∧w2=wx)
  case first=>
   by_cases hlv:0<sc.funcs.length
   ·have hlv':(0:Int)<(sc.funcs.length:Int):=by omega
    go_wp2_with fail
    go_meet;exact⟨by rw[hfa.out,decide_eq_true hlv];rfl,rfl⟩
   ·have hlv':(sc.funcs.length:Int)≤0:=by omega
    go_wp2_with fail
    go_meet;exact⟨by rw[hfa.out,decide_eq_false hlv];rfl,rfl⟩
  case rest=>
  obtain⟨rfl,rfl⟩:=hcut;rw[HKK.o];apply_assumption
  refine HH.o w2 ⟨hd1,lv,la,lf,hsl,HSC.o,HS2.o,HF2.o,HR2.o,HC2.o,g0,g1⟩ _ _ _ _ _ _ _ _ _ _ _ _ _ _ _ _ _ _ _ _ _ _ _ _ _ _ _ _ _ _ _ _ _ _ _ _ _ _ _ _ _ _ _ _ _ _ _ _ _ _ _ _ _ _ _ _ _ _ _ _ _ _ _ _ _ _ _ _ _ _ _ _ _ _ _ _ _ _ _ _ _ _ _ _ _ _ _ _ _ _ _ _ _ _ _ _ _ _ _ _ _ _ _ _ _ _ _ _ _ _ _ _ _ _ _ _ _ _ _ _ _ _ _ _ _ _ _ _ _ _ _ _ _ _ _ _ _ _ _ _ _ _
 ·have hdI:(2:Int)≤(d:Int):=by omega
  subst hkk;go_enter func31,ntmps31
  go_wp2_with fail
  refine(HK.o _ HS1.o).mono ?_;rintro r w2 ⟨rfl,hs2,hf2⟩;have HS2:=Za hs2;have HF2:=Za (HF1.o.trans hf2);have HR2:=Za (HR.o.sfr hf2 HZ.o);have HC2:=Za (HC.o.sfr hf2 HY.o);clear hs2 hf2 HS1 HF1 HR HC HK;have b0:=HC2.o.at 0 _ rfl;have b1:=HC2.o.at 1 _ rfl;have b2:=HC2.o.at 2 _ rfl;have b3:=HC2.o.at 3 _ rfl;have b4:=HC2.o.at 4 _ rfl;go_upto_region 4 with(fail)
  go_cut [8] (fun q wx=>q=.bool sc.hasVars∧w2=wx)
  case first=>
   by_cases hlv:0<sc.vars.length
   ·have hlv':(0:Int)<(sc.vars.length:Int):=by omega
    go_wp2_with fail
    go_meet;exact⟨by rw[hva.out,decide_eq_true hlv];rfl,rfl⟩
   ·have hlv':(sc.vars.length:Int)≤0:=by omega
    go_wp2_with fail
    go_meet;exact⟨by rw[hva.out,decide_eq_false hlv];rfl,rfl⟩
  case rest=>
  obtain⟨rfl,rfl⟩:=hcut;go_upto_region 5 with(fail)
  go_cut [9] (fun q wx=>q=.bool sc.hasArrays∧w2=wx)
  case first=>
   by_cases hlv:0<sc.arrays.length
   ·have hlv':(0:Int)<(sc.arrays.length:Int):=by omega
    go_wp2_with fail
    go_meet;exact⟨by rw[haa.out,decide_eq_true hlv];rfl,rfl⟩
   ·have hlv':(sc.arrays.length:Int)≤0:=by omega
    go_wp2_with fail
    go_meet;exact⟨by rw[haa.out,decide_eq_false hlv];rfl,rfl⟩
  case rest=>
  obtain⟨rfl,rfl⟩:=hcut;go_upto_region 6 with(fail)
  go_cut [10] (fun q wx=>q=.bool sc.hasFuncs∧w2=wx)
  case first=>
   by_cases hlv:0<sc.funcs.length
   ·have hlv':(0:Int)<(sc.funcs.length:Int):=by omega
    go_wp2_with fail
    go_meet;exact⟨by rw[hfa.out,decide_eq_true hlv];rfl,rfl⟩
   ·have hlv':(sc.funcs.length:Int)≤0:=by omega
    go_wp2_with fail
    go_meet;exact⟨by rw[hfa.out,decide_eq_false hlv];rfl,rfl⟩
  case rest=>
  obtain⟨rfl,rfl⟩:=hcut;apply_assumption
  refine HH.o w2 ⟨hd1,lv,la,lf,hsl,HSC.o,HS2.o,HF2.o,HR2.o,HC2.o,g0,g1⟩ _ _ _ _ _ _ _ _ _ _ _ _ _ _ _ _ _ _ _ _ _ _ _ _ _ _ _ _ _ _ _ _ _ _ _ _ _ _ _ _ _ _ _ _ _ _ _ _ _ _ _ _ _ _ _ _ _ _ _ _ _ _ _ _ _ _ _ _ _ _ _ _ _ _ _ _ _ _ _ _ _ _ _ _ _ _ _ _ _ _ _ _ _ _ _ _ _ _ _ _ _ _ _ _ _ _ _ _ _ _ _ _ _ _ _ _ _ _ _ _ _ _ _ _ _ _ _ _ _ _ _ _ _ _ _ _ _ _ _ _ _ _
theorem tO {d s:Nat}{raw:List Int}{sc:Sc}{v1:Option Addr}{v2:Nat}{a1:Option Addr}{a2:Nat}{f1:Option Addr}{f2:Nat}{ga:Nat}{k:Int}{w w2:World}(h:GeH d s raw sc v1 v2 a1 a2 f1 f2 ga k w w2)(hk:k=1∨k=2)(hv:sc.hasVars=true):GeG d s raw sc v1 v2 a1 a2 f1 f2 k w w2 (Ds sc raw (Aq sc raw (d-1)) k ga):=by
 obtain⟨hd1,lv,la,lf,hsl,hsc,hS2,hF2,hR2,hC2,g0,g1⟩:=h;have HSC:=Za hsc;have HS2:=Za hS2;have HF2:=Za hF2;have HR2:=Za hR2;have HC2:=Za hC2;have HZ:Hid (w.heap.size+1≠s):=by show _≠_;omega
 have HY:Hid (w.heap.size≠s):=by show _≠_;omega
 have hsx:s<w.heap.size+1:=by omega
 have hge:w.heap.size≤w.heap.size+1:=by omega
 have hd0:(0:Int)≤(d:Int):=by omega
 have hdM:(d:Int)≤1000:=by omega
 clear hsc hS2 hF2 hR2 hC2;have E:Ds sc raw (Aq sc raw (d-1)) k ga=(.mk 2 0 0 (Gg sc.free sc.vars raw ga).1 [],(Gg sc.free sc.vars raw ga).2):=by unfold Ds;rw[if_pos ⟨hk,hv⟩]
 rw[E];clear E;have HNM:Hid (∀w1,Ay w1 s raw ga→Ba (· ≠s) w1 sc.vars (.slice v1 sc.vars.length v2)→Calls Zb 69 #[scV sc (.slice v1 sc.vars.length v2) (.slice a1 sc.arrays.length a2) (.slice f1 sc.funcs.length f2),.pointer (some ⟨s,0,none⟩),.slice v1 sc.vars.length v2] w1 (Dx w1 s raw (.string (Aa (Gg sc.free sc.vars raw ga).1)) (Gg sc.free sc.vars raw ga).2)):=fun w1 h1 h2=>bF s raw ga sc _ _ _ _ sc.vars w1 h1 h2 lv
 generalize Gg sc.free sc.vars raw ga=n at*;unfold GeG;intros
 conv=>arg 2;whnf
 rcases hk with rfl|rfl
 all_goals
  have b0:=HC2.o.at 0 _ rfl;have b1:=HC2.o.at 1 _ rfl;have b2:=HC2.o.at 2 _ rfl;have b3:=HC2.o.at 3 _ rfl;have b4:=HC2.o.at 4 _ rfl;go_wp2_with fail
  refine(HNM.o _ HS2.o (HSC.o.vars.keep HF2.o.keeps)).mono ?_;rintro r w3 ⟨rfl,hs3,hf3⟩;have HS3:=Za hs3;have HF3:=Za (HF2.o.trans hf3);have HR3:=Za (HR2.o.sfr hf3 HZ.o);have HC3:=Za (HC2.o.sfr hf3 HY.o);clear hs3 hf3;have x0:=HR3.o.at 0 _ rfl;have x1:=HR3.o.at 1 _ rfl;have x2:=HR3.o.at 2 _ rfl;have x3:=HR3.o.at 3 _ rfl;have x4:=HR3.o.at 4 _ rfl;have fx0:=HR3.o.fz 0;have fx1:=HR3.o.fz 1;have fx2:=HR3.o.fz 2;have fx3:=HR3.o.fz 3;have fx4:=HR3.o.fz 4;have HRE:=Za (((((HR3.o.set 0 (.int .i64 2)).set 1 (.int .i64 0)).set 2 (.int .i64 0)).set 3 (.string (Aa n.1))).set 4 (.slice none 0 0));have HSE:=Za (((((HS3.o.other hsx 0 (.int .i64 2)).other hsx 1 (.int .i64 0)).other hsx 2 (.int .i64 0)).other hsx 3 (.string (Aa n.1))).other hsx 4 (.slice none 0 0));have HFE:=Za (((((HF3.o.setNew hge 0 (.int .i64 2)).setNew hge 1 (.int .i64 0)).setNew hge 2 (.int .i64 0)).setNew hge 3 (.string (Aa n.1))).setNew hge 4 (.slice none 0 0));go_wp2_with fail
  have d0:=HRE.o.at 0 _ rfl;have d1:=HRE.o.at 1 _ rfl;have d2:=HRE.o.at 2 _ rfl;have d3:=HRE.o.at 3 _ rfl;have d4:=HRE.o.at 4 _ rfl;exact bodyPost_ret (v:=.agg #[.int .i64 2,.int .i64 0,.int .i64 0,.string (Aa n.1),.slice none 0 0]) (by simp [results,results31,go_sem,d0,d1,d2,d3,d4]) rfl ⟨.slice none 0 0,rfl,HSE.o,HFE.o,Ag.zero,(Jf ⟨by show _≤(0:Int);decide,by show(0:Int)≤_;decide⟩)⟩
theorem ge_read {d s:Nat}{raw:List Int}{sc:Sc}{v1:Option Addr}{v2:Nat}{a1:Option Addr}{a2:Nat}{f1:Option Addr}{f2:Nat}{ga:Nat}{k:Int}{w w2:World}(h:GeH d s raw sc v1 v2 a1 a2 f1 f2 ga k w w2)(hk:k=3)(hq:(Ac raw ga 3).1=2):GeG d s raw sc v1 v2 a1 a2 f1 f2 k w w2 (Ds sc raw (Aq sc raw (d-1)) k ga):=by
 obtain⟨hd1,lv,la,lf,hsl,hsc,hS2,hF2,hR2,hC2,g0,g1⟩:=h;have HSC:=Za hsc;have HS2:=Za hS2;have HF2:=Za hF2;have HR2:=Za hR2;have HC2:=Za hC2;have HZ:Hid (w.heap.size+1≠s):=by show _≠_;omega
 have HY:Hid (w.heap.size≠s):=by show _≠_;omega
 have hsx:s<w.heap.size+1:=by omega
 have hge:w.heap.size≤w.heap.size+1:=by omega
 have hd0:(0:Int)≤(d:Int):=by omega
 have hdM:(d:Int)≤1000:=by omega
 clear hsc hS2 hF2 hR2 hC2;have E:Ds sc raw (Aq sc raw (d-1)) k ga=(.mk 7 0 0 [] [],(Ac raw ga 3).2):=by unfold Ds;rw[if_neg (by omega),if_pos ⟨hk,hq⟩]
 rw[E];clear E;have HN:Hid (∀w1,Ay w1 s raw ga→Calls Zb 37 #[.pointer (some ⟨s,0,none⟩),.int .i64 3] w1 (Dx w1 s raw (.int .i64 (Ac raw ga 3).1) (Ac raw ga 3).2)):=fun w1 h1=>Cj s raw ga 3 w1 h1 (by decide) (by decide)
 have qr:=Ah raw ga 3 (by decide);generalize Ac raw ga 3=q at*;obtain⟨q,qa⟩:=q;dsimp only at*;subst hq;unfold GeG;intros
 conv=>arg 2;whnf
 subst hk;go_wp2_with fail
 refine(HN.o _ HS2.o).mono ?_;rintro r w3 ⟨rfl,hs3,hf3⟩;have HS3:=Za hs3;have HF3:=Za (HF2.o.trans hf3);have HR3:=Za (HR2.o.sfr hf3 HZ.o);have HC3:=Za (HC2.o.sfr hf3 HY.o);clear hs3 hf3;have x0:=HR3.o.at 0 _ rfl;have x1:=HR3.o.at 1 _ rfl;have x2:=HR3.o.at 2 _ rfl;have x3:=HR3.o.at 3 _ rfl;have x4:=HR3.o.at 4 _ rfl;have fx0:=HR3.o.fz 0;have fx1:=HR3.o.fz 1;have fx2:=HR3.o.fz 2;have fx3:=HR3.o.fz 3;have fx4:=HR3.o.fz 4;have HRE:=Za (((((HR3.o.set 0 (.int .i64 7)).set 1 (.int .i64 0)).set 2 (.int .i64 0)).set 3 (.string ⟨#[]⟩)).set 4 (.slice none 0 0));have HSE:=Za (((((HS3.o.other hsx 0 (.int .i64 7)).other hsx 1 (.int .i64 0)).other hsx 2 (.int .i64 0)).other hsx 3 (.string ⟨#[]⟩)).other hsx 4 (.slice none 0 0));have HFE:=Za (((((HF3.o.setNew hge 0 (.int .i64 7)).setNew hge 1 (.int .i64 0)).setNew hge 2 (.int .i64 0)).setNew hge 3 (.string ⟨#[]⟩)).setNew hge 4 (.slice none 0 0));go_wp2_with fail
 have d0:=HRE.o.at 0 _ rfl;have d1:=HRE.o.at 1 _ rfl;have d2:=HRE.o.at 2 _ rfl;have d3:=HRE.o.at 3 _ rfl;have d4:=HRE.o.at 4 _ rfl;exact bodyPost_ret (v:=.agg #[.int .i64 7,.int .i64 0,.int .i64 0,.string ⟨#[]⟩,.slice none 0 0]) (by simp [results,results31,go_sem,d0,d1,d2,d3,d4]) rfl ⟨.slice none 0 0,rfl,HSE.o,HFE.o,Ag.zero,(Jf ⟨by show _≤(0:Int);decide,by show(0:Int)≤_;decide⟩)⟩
theorem ge_one {d s:Nat}{raw:List Int}{sc:Sc}{v1:Option Addr}{v2:Nat}{a1:Option Addr}{a2:Nat}{f1:Option Addr}{f2:Nat}{ga:Nat}{k:Int}{w w2:World}(hd:2≤d)(h:GeH d s raw sc v1 v2 a1 a2 f1 f2 ga k w w2)(hk:k=4)(ih:Ju (d-1)):GeG d s raw sc v1 v2 a1 a2 f1 f2 k w w2 (Ds sc raw (Aq sc raw (d-1)) k ga):=by
 obtain⟨hd1,lv,la,lf,hsl,hsc,hS2,hF2,hR2,hC2,g0,g1⟩:=h;have HSC:=Za hsc;have HS2:=Za hS2;have HF2:=Za hF2;have HR2:=Za hR2;have HC2:=Za hC2;have HZ:Hid (w.heap.size+1≠s):=by show _≠_;omega
 have HY:Hid (w.heap.size≠s):=by show _≠_;omega
 have hsx:s<w.heap.size+1:=by omega
 have hge:w.heap.size≤w.heap.size+1:=by omega
 have hd0:(0:Int)≤(d:Int):=by omega
 have hdI:(2:Int)≤(d:Int):=by omega
 have hdM:(d:Int)≤1000:=by omega
 clear hsc hS2 hF2 hR2 hC2;have E:Ds sc raw (Aq sc raw (d-1)) k ga=(.mk 3 (17+(Ac raw ga 3).1) 0 [] [(Aq sc raw (d-1) (Ac raw ga 3).2).1],(Aq sc raw (d-1) (Ac raw ga 3).2).2):=by unfold Ds;rw[if_neg (by omega),if_neg (by omega),if_neg (by omega),if_pos hk]
 rw[E];clear E;have HN:Hid (∀w1,Ay w1 s raw ga→Calls Zb 37 #[.pointer (some ⟨s,0,none⟩),.int .i64 3] w1 (Dx w1 s raw (.int .i64 (Ac raw ga 3).1) (Ac raw ga 3).2)):=fun w1 h1=>Cj s raw ga 3 w1 h1 (by decide) (by decide)
 have qr:=Ah raw ga 3 (by decide);generalize Ac raw ga 3=q at*;obtain⟨q,qa⟩:=q;dsimp only at*;have HDM:Hid (((d-1:Nat):Int)=(d:Int)-1):=by show _=_;omega
 have HIH:Hid (∀w1 b,Ay w1 s raw b→Ft s w1 sc (.slice v1 sc.vars.length v2) (.slice a1 sc.arrays.length a2) (.slice f1 sc.funcs.length f2)→Calls Zb 31 #[scV sc (.slice v1 sc.vars.length v2) (.slice a1 sc.arrays.length a2) (.slice f1 sc.funcs.length f2),.pointer (some ⟨s,0,none⟩),.int .i64 ((d:Int)-1)] w1 (Eu w1 s raw (Aq sc raw (d-1) b))):=fun w1 b h1 h2=>by have q:=ih s raw b sc _ _ _ w1 h1 h2;rw[HDM.o]at q;exact q
 obtain⟨q0,q1⟩:=qr;unfold GeG;intros
 conv=>arg 2;whnf
 subst hk;have b0:=HC2.o.at 0 _ rfl;have b1:=HC2.o.at 1 _ rfl;have b2:=HC2.o.at 2 _ rfl;have b3:=HC2.o.at 3 _ rfl;have b4:=HC2.o.at 4 _ rfl;go_wp2_with fail
 refine(HN.o _ HS2.o).mono ?_;rintro r w3 ⟨rfl,hs3,hf3⟩;have HS3:=Za hs3;have HF3:=Za (HF2.o.trans hf3);have HR3:=Za (HR2.o.sfr hf3 HZ.o);have HC3:=Za (HC2.o.sfr hf3 HY.o);clear hs3 hf3;clear b0 b1 b2 b3 b4;have b0:=HC3.o.at 0 _ rfl;have b1:=HC3.o.at 1 _ rfl;have b2:=HC3.o.at 2 _ rfl;have b3:=HC3.o.at 3 _ rfl;have b4:=HC3.o.at 4 _ rfl;go_wp2_with fail
 refine(HIH.o _ qa HS3.o (HSC.o.sfr HF3.o)).mono ?_;generalize Aq sc raw (d-1) qa=x at*;obtain⟨x,xa⟩:=x;rintro r w4 ⟨xv,rfl,hs4,hf4,hx4,hn4⟩;obtain⟨xs,xc,rfl⟩:=hx4.shape;dsimp only at hs4 hx4 hn4 ⊢;have HS4:=Za hs4;have HF4:=Za (HF3.o.trans hf4);have HR4:=Za (HR3.o.sfr hf4 HZ.o);have HC4:=Za (HC3.o.sfr hf4 HY.o);have hg4:w.heap.size+2≤w3.heap.size:=by have:=HR3.o.lt;omega
 have Hx:=Za (hx4.mono (D':=(w.heap.size+2≤ ·)) (fun b h=>Nat.le_trans hg4 h));have HNx:=Za hn4;have HFJ4:=Za hf4;clear hs4 hf4 hx4 hn4;clear b0 b1 b2 b3 b4;have hB:w.heap.size+1<w.heap.size+2:=by omega
 have hw5:Below w4.heap.size w4 (w4.alloc (.cells #[.int .i64 x.kind,.int .i64 x.op,.int .i64 x.n,.string (Aa x.name),.slice xs x.args.length xc] 27)):=bA;have HS5:=Za (HS4.o.old hw5);have HF5:=Za (HF4.o.trans (Zc hw5));have HR5:=Za (HR4.o.old hw5);have HC5:=Za (HC4.o.old hw5);have HX5:Hid (Ag (w.heap.size+2≤ ·) (w4.alloc (.cells #[.int .i64 x.kind,.int .i64 x.op,.int .i64 x.n,.string (Aa x.name),.slice xs x.args.length xc] 27)) [x] (.slice (some ⟨w4.heap.size,0,none⟩) 1 1)):=.one x (.slice xs x.args.length xc) (by show _≤_;have:=HR4.o.lt;omega) (Fc.new w4 (Bg x (.slice xs x.args.length xc)) 27) (Hx.out.old hw5) HNx.o;clear hw5;have HW5:Hid True:=trivial;have HS5':=HS5;have x0:=HR5.o.at 0 _ rfl;have x1:=HR5.o.at 1 _ rfl;have x2:=HR5.o.at 2 _ rfl;have x3:=HR5.o.at 3 _ rfl;have x4:=HR5.o.at 4 _ rfl;have fx0:=HR5.o.fz 0;have fx1:=HR5.o.fz 1;have fx2:=HR5.o.fz 2;have fx3:=HR5.o.fz 3;have fx4:=HR5.o.fz 4;have HRE:=Za (((((HR5.o.set 0 (.int .i64 3)).set 1 (.int .i64 (17+q))).set 2 (.int .i64 0)).set 3 (.string ⟨#[]⟩)).set 4 (.slice (some ⟨w4.heap.size,0,none⟩) 1 1));have HSE:=Za (((((HS5.o.other hsx 0 (.int .i64 3)).other hsx 1 (.int .i64 (17+q))).other hsx 2 (.int .i64 0)).other hsx 3 (.string ⟨#[]⟩)).other hsx 4 (.slice (some ⟨w4.heap.size,0,none⟩) 1 1));have HFE:=Za (((((HF5.o.setNew hge 0 (.int .i64 3)).setNew hge 1 (.int .i64 (17+q))).setNew hge 2 (.int .i64 0)).setNew hge 3 (.string ⟨#[]⟩)).setNew hge 4 (.slice (some ⟨w4.heap.size,0,none⟩) 1 1))
 go_wp2_with fail
 have d0:=HRE.o.at 0 _ rfl;have d1:=HRE.o.at 1 _ rfl;have d2:=HRE.o.at 2 _ rfl;have d3:=HRE.o.at 3 _ rfl;have d4:=HRE.o.at 4 _ rfl;exact bodyPost_ret (v:=.agg #[.int .i64 3,.int .i64 (17+q),.int .i64 0,.string ⟨#[]⟩,.slice (some ⟨w4.heap.size,0,none⟩) 1 1]) (by simp [results,results31,go_sem,d0,d1,d2,d3,d4]) rfl ⟨.slice (some ⟨w4.heap.size,0,none⟩) 1 1,rfl,HSE.o,HFE.o,((((((HX5.o.keep (Bi _ hB 0 _)).keep (Bi _ hB 1 _)).keep (Bi _ hB 2 _)).keep (Bi _ hB 3 _)).keep (Bi _ hB 4 _)).mono (fun b h=>(Nat.le_trans (by omega) h:w.heap.size≤b))),(Jf ⟨by show _≤(0:Int);decide,by show(0:Int)≤_;decide⟩)⟩
@[go_sem] theorem field_ar0 (a b:Value) (w:World):(Instr.field 85 (.agg #[a,b]) 0).run Zb w=.ok a w:=by kernel_rfl
theorem vF {d s:Nat}{raw:List Int}{sc:Sc}{v1:Option Addr}{v2:Nat}{a1:Option Addr}{a2:Nat}{f1:Option Addr}{f2:Nat}{ga:Nat}{k:Int}{w w2:World}(hd:2≤d)(h:GeH d s raw sc v1 v2 a1 a2 f1 f2 ga k w w2)(hk:k=5)(hA:sc.hasArrays=true)(ih:Ju (d-1)):GeG d s raw sc v1 v2 a1 a2 f1 f2 k w w2 (Ds sc raw (Aq sc raw (d-1)) k ga):=by
 obtain⟨hd1,lv,la,lf,hsl,hsc,hS2,hF2,hR2,hC2,g0,g1⟩:=h;have HSC:=Za hsc;have HS2:=Za hS2;have HF2:=Za hF2;have HR2:=Za hR2;have HC2:=Za hC2;have HZ:Hid (w.heap.size+1≠s):=by show _≠_;omega
 have HY:Hid (w.heap.size≠s):=by show _≠_;omega
 have hsx:s<w.heap.size+1:=by omega
 have hge:w.heap.size≤w.heap.size+1:=by omega
 have hd0:(0:Int)≤(d:Int):=by omega
 have hdI:(2:Int)≤(d:Int):=by omega
 have hdM:(d:Int)≤1000:=by omega
 clear hsc hS2 hF2 hR2 hC2;have E:Ds sc raw (Aq sc raw (d-1)) k ga=(.mk 6 0 0 (Cg sc.free sc.arrays raw ga).1.name [(Aq sc raw (d-1) (Cg sc.free sc.arrays raw ga).2).1],(Aq sc raw (d-1) (Cg sc.free sc.arrays raw ga).2).2):=by unfold Ds;rw[if_neg (by omega),if_neg (by omega),if_neg (by omega),if_neg (by omega),if_pos ⟨hk,hA⟩]
 rw[E];clear E;have HN:Hid (∀w1,Ay w1 s raw ga→Bt (· ≠s) w1 sc.arrays (.slice a1 sc.arrays.length a2)→Calls Zb 38 #[scV sc (.slice v1 sc.vars.length v2) (.slice a1 sc.arrays.length a2) (.slice f1 sc.funcs.length f2),.pointer (some ⟨s,0,none⟩)] w1 (Dx w1 s raw (.agg #[.string (Aa (Cg sc.free sc.arrays raw ga).1.name),.int .i64 (Cg sc.free sc.arrays raw ga).1.size]) (Cg sc.free sc.arrays raw ga).2)):=fun w1 h1 h2=>Qx s raw ga sc _ _ _ w1 h1 h2 la
 generalize Cg sc.free sc.arrays raw ga=q at*;obtain⟨⟨qn,qz⟩,qa⟩:=q;dsimp only at*;have HDM:Hid (((d-1:Nat):Int)=(d:Int)-1):=by show _=_;omega
 have HIH:Hid (∀w1 b,Ay w1 s raw b→Ft s w1 sc (.slice v1 sc.vars.length v2) (.slice a1 sc.arrays.length a2) (.slice f1 sc.funcs.length f2)→Calls Zb 31 #[scV sc (.slice v1 sc.vars.length v2) (.slice a1 sc.arrays.length a2) (.slice f1 sc.funcs.length f2),.pointer (some ⟨s,0,none⟩),.int .i64 ((d:Int)-1)] w1 (Eu w1 s raw (Aq sc raw (d-1) b))):=fun w1 b h1 h2=>by have q:=ih s raw b sc _ _ _ w1 h1 h2;rw[HDM.o]at q;exact q
 unfold GeG;intros
 conv=>arg 2;whnf
 subst hk;have b0:=HC2.o.at 0 _ rfl;have b1:=HC2.o.at 1 _ rfl;have b2:=HC2.o.at 2 _ rfl;have b3:=HC2.o.at 3 _ rfl;have b4:=HC2.o.at 4 _ rfl;go_wp2_with fail
 refine(HN.o _ HS2.o (HSC.o.arrays.keep HF2.o.keeps)).mono ?_;rintro r w3 ⟨rfl,hs3,hf3⟩;have HS3:=Za hs3;have HF3:=Za (HF2.o.trans hf3);have HR3:=Za (HR2.o.sfr hf3 HZ.o);have HC3:=Za (HC2.o.sfr hf3 HY.o);clear hs3 hf3;clear b0 b1 b2 b3 b4;have b0:=HC3.o.at 0 _ rfl;have b1:=HC3.o.at 1 _ rfl;have b2:=HC3.o.at 2 _ rfl;have b3:=HC3.o.at 3 _ rfl;have b4:=HC3.o.at 4 _ rfl;go_wp2_with fail
 refine(HIH.o _ qa HS3.o (HSC.o.sfr HF3.o)).mono ?_;generalize Aq sc raw (d-1) qa=x at*;obtain⟨x,xa⟩:=x;rintro r w4 ⟨xv,rfl,hs4,hf4,hx4,hn4⟩;obtain⟨xs,xc,rfl⟩:=hx4.shape;dsimp only at hs4 hx4 hn4 ⊢;have HS4:=Za hs4;have HF4:=Za (HF3.o.trans hf4);have HR4:=Za (HR3.o.sfr hf4 HZ.o);have HC4:=Za (HC3.o.sfr hf4 HY.o);have hg4:w.heap.size+2≤w3.heap.size:=by have:=HR3.o.lt;omega
 have Hx:=Za (hx4.mono (D':=(w.heap.size+2≤ ·)) (fun b h=>Nat.le_trans hg4 h));have HNx:=Za hn4;have HFJ4:=Za hf4;clear hs4 hf4 hx4 hn4;clear b0 b1 b2 b3 b4;have hB:w.heap.size+1<w.heap.size+2:=by omega
 have hw5:Below w4.heap.size w4 (w4.alloc (.cells #[.int .i64 x.kind,.int .i64 x.op,.int .i64 x.n,.string (Aa x.name),.slice xs x.args.length xc] 27)):=bA;have HS5:=Za (HS4.o.old hw5);have HF5:=Za (HF4.o.trans (Zc hw5));have HR5:=Za (HR4.o.old hw5);have HC5:=Za (HC4.o.old hw5);have HX5:Hid (Ag (w.heap.size+2≤ ·) (w4.alloc (.cells #[.int .i64 x.kind,.int .i64 x.op,.int .i64 x.n,.string (Aa x.name),.slice xs x.args.length xc] 27)) [x] (.slice (some ⟨w4.heap.size,0,none⟩) 1 1)):=.one x (.slice xs x.args.length xc) (by show _≤_;have:=HR4.o.lt;omega) (Fc.new w4 (Bg x (.slice xs x.args.length xc)) 27) (Hx.out.old hw5) HNx.o;clear hw5;have x0:=HR5.o.at 0 _ rfl;have x1:=HR5.o.at 1 _ rfl;have x2:=HR5.o.at 2 _ rfl;have x3:=HR5.o.at 3 _ rfl;have x4:=HR5.o.at 4 _ rfl;have fx0:=HR5.o.fz 0;have fx1:=HR5.o.fz 1;have fx2:=HR5.o.fz 2;have fx3:=HR5.o.fz 3;have fx4:=HR5.o.fz 4;have HRE:=Za (((((HR5.o.set 0 (.int .i64 6)).set 1 (.int .i64 0)).set 2 (.int .i64 0)).set 3 (.string (Aa qn))).set 4 (.slice (some ⟨w4.heap.size,0,none⟩) 1 1));have HSE:=Za (((((HS5.o.other hsx 0 (.int .i64 6)).other hsx 1 (.int .i64 0)).other hsx 2 (.int .i64 0)).other hsx 3 (.string (Aa qn))).other hsx 4 (.slice (some ⟨w4.heap.size,0,none⟩) 1 1));have HFE:=Za (((((HF5.o.setNew hge 0 (.int .i64 6)).setNew hge 1 (.int .i64 0)).setNew hge 2 (.int .i64 0)).setNew hge 3 (.string (Aa qn))).setNew hge 4 (.slice (some ⟨w4.heap.size,0,none⟩) 1 1))
 go_wp2_with fail
 have d0:=HRE.o.at 0 _ rfl;have d1:=HRE.o.at 1 _ rfl;have d2:=HRE.o.at 2 _ rfl;have d3:=HRE.o.at 3 _ rfl;have d4:=HRE.o.at 4 _ rfl;exact bodyPost_ret (v:=.agg #[.int .i64 6,.int .i64 0,.int .i64 0,.string (Aa qn),.slice (some ⟨w4.heap.size,0,none⟩) 1 1]) (by simp [results,results31,go_sem,d0,d1,d2,d3,d4]) rfl ⟨.slice (some ⟨w4.heap.size,0,none⟩) 1 1,rfl,HSE.o,HFE.o,((((((HX5.o.keep (Bi _ hB 0 _)).keep (Bi _ hB 1 _)).keep (Bi _ hB 2 _)).keep (Bi _ hB 3 _)).keep (Bi _ hB 4 _)).mono (fun b h=>(Nat.le_trans (by omega) h:w.heap.size≤b))),(Jf ⟨by show _≤(0:Int);decide,by show(0:Int)≤_;decide⟩)⟩
end Go.Proofs.YtcfpfnoldgnloaaGreatDoor

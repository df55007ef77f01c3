/-
  Plain functions: raw programs, made of raw numbers.
-/
import Derived.Test.YtcfpfnoldgnloaaGreatDoorBk01
import Derived.IntWalk
import Derived.Deep.OwnRows
set_option linter.unusedVariables false
set_option linter.unusedSimpArgs false
namespace Go.Proofs.YtcfpfnoldgnloaaGreatDoor
open Go.RowKit
set_option maxHeartbeats 20000000
set_option maxRecDepth 100000
open List renaming all_eq_true→Za,mem_singleton→Zb,mem_cons→Zc
def eR(c n:Int):Int:=(if c<0 then -(c+1)else c) % n
theorem jI(c n:Int)(h:0<n):0≤eR c n∧eR c n<n:=⟨Int.emod_nonneg _ (by omega),Int.emod_lt_of_pos _ h⟩
def aC(raw:List Int)(a:Nat)(n:Int):Int ×Nat:=if raw.length≤a then(0,a)else(eR (raw.getD a 0) n,a+1)
theorem aM(raw:List Int)(a:Nat)(n:Int)(h:0<n):0≤(aC raw a n).1∧(aC raw a n).1<n:=by
 unfold aC;split
 ·exact⟨Int.le_refl _,h⟩
 ·exact jI _ _ h
theorem x6(raw:List Int)(a:Nat)(n:Int)(h:a≤raw.length):(aC raw a n).2≤raw.length:=by
 unfold aC;split
 ·exact h
 ·show a+1≤_;omega
def tA:List Bs:=[[],[49],[95],[90,57],[105,102],[120],[48],[97,97],[105,110,116,105,110,116],[113,55],[66],[48,48]]
def fu(c:Int):Bs:=UInt8.ofNat (97+(eR c 312 % 26).toNat)::tA.getD (eR c 312 / 26).toNat []
theorem var_all:∀k:Fin 312,aY (UInt8.ofNat (97+(k.val % 26))::tA.getD (k.val / 26) [])=true:=by decide+kernel
theorem fN(c:Int):aY (fu c)=true:=by
 have h:=jI c 312 (by decide);have q:=var_all ⟨(eR c 312).toNat,by omega⟩;unfold fu;have e1:(eR c 312 % 26).toNat=(eR c 312).toNat % 26:=by omega
 have e2:(eR c 312 / 26).toNat=(eR c 312).toNat / 26:=by omega
 rw[e1,e2];exact q
structure Sc where
 vars:List Bs
 arrays:List Ar
 funcs:List Fu
 free:Bool
 loop:Bool
def eC(free:Bool)(l:List Bs)(raw:List Int)(a:Nat):Bs ×Nat:=
 if free||l.isEmpty then(fu (aC raw a 312).1,(aC raw a 312).2)else(l.getD (aC raw a l.length).1.toNat [],(aC raw a l.length).2)
def bV(free:Bool)(l:List Ar)(raw:List Int)(a:Nat):Ar ×Nat:=
 if free||l.isEmpty then(⟨fu (aC raw a 312).1,1+(aC raw (aC raw a 312).2 1000).1⟩,(aC raw (aC raw a 312).2 1000).2)else(gV l (aC raw a l.length).1.toNat,(aC raw a l.length).2)
def dB(n j:Int):Int:=
 if j=0 then 0 else if j=1 then 1 else if j=2 then 2 else if j=3 then 3 else if j=4 then n else if j=5 then n*n else if j=6 then 2 ^ (n % 63).toNat else 9223372036854775807
def cw(g:Nat→Ex ×Nat):Nat→Nat→List Ex ×Nat
 |0,a=>([],a)
 |c+1,a=>((cw g c a).1++[(g (cw g c a).2).1],(g (cw g c a).2).2)
def ey(sc:Sc)(raw:List Int)(g:Nat→Ex ×Nat)(a:Nat):Ex ×Nat:=
 if sc.free||sc.funcs.isEmpty then
  let r:=aC raw a 312;let q:=aC raw r.2 7;let m:=cw g q.1.toNat q.2
  (.mk 5 0 0 (fu r.1) m.1,m.2)
 else
  let r:=aC raw a sc.funcs.length;let f:=cZ sc.funcs r.1.toNat;let m:=cw g f.params.length r.2
  (.mk 5 0 0 f.name m.1,m.2)
def Sc.hasVars(sc:Sc):Bool:= !sc.vars.isEmpty||sc.free
def Sc.hasArrays(sc:Sc):Bool:= !sc.arrays.isEmpty||sc.free
def Sc.hasFuncs(sc:Sc):Bool:= !sc.funcs.isEmpty||sc.free
def gK(raw:List Int)(d a:Nat):Int:=if d<2 then(aC raw a 12).1 % 4 else(aC raw a 12).1
def cE(sc:Sc)(raw:List Int)(g:Nat→Ex ×Nat)(k:Int)(a:Nat):Ex ×Nat:=
 if(k=1∨k=2)∧sc.hasVars=true then
  let n:=eC sc.free sc.vars raw a
  (.mk 2 0 0 n.1 [],n.2)
 else if k=3∧(aC raw a 3).1=2 then(.mk 7 0 0 [] [],(aC raw a 3).2)
 else if k<4 then
  let b:=if k=3 then(aC raw a 3).2 else a
  let n:=aC raw b 1000;let j:=aC raw n.2 8
  (.mk 1 0 (dB n.1 j.1) [] [],j.2)
 else if k=4 then
  let o:=aC raw a 3;let x:=g o.2
  (.mk 3 (17+o.1) 0 [] [x.1],x.2)
 else if k=5∧sc.hasArrays=true then
  let n:=bV sc.free sc.arrays raw a;let x:=g n.2
  (.mk 6 0 0 n.1.name [x.1],x.2)
 else if k=6∧sc.hasFuncs=true then ey sc raw g a
 else
  let o:=aC raw a 16;let x:=g o.2;let y:=g x.2
  (.mk 4 (1+o.1) 0 [] [x.1,y.1],y.2)
def j7(sc:Sc)(raw:List Int)(d:Nat)(g:Nat→Ex ×Nat)(a:Nat):Ex ×Nat:=cE sc raw g (gK raw d a) (aC raw a 12).2
def aX(sc:Sc)(raw:List Int):Nat→Nat→Ex ×Nat
 |0=>j7 sc raw 0 (fun a=>(Ex.nil,a))
 |d+1=>j7 sc raw (d+1) (aX sc raw d)
structure Sc.Ok (sc:Sc):Prop where
 vars:∀x,x∈sc.vars→aY x=true
 arrays:∀x,x∈sc.arrays→aY x.name=true
 funcs:∀x,x∈sc.funcs→aY x.name=true∧x.params.length≤6
theorem xG {α:Type}{l:List α}{d:α}{i:Nat}(h:i<l.length):l.getD i d∈l:=by
 rw[List.getD_eq_getElem?_getD,List.getElem?_eq_getElem h];exact List.getElem_mem h
theorem pu {α:Type}{l:List α}{b:Bool}(h:¬(b||l.isEmpty)=true):0<l.length:=by
 cases l with
 |nil=>simp at h
 |cons x l=>simp
theorem jM {sc:Sc}(h:sc.Ok)(raw:List Int)(a:Nat):aY (eC sc.free sc.vars raw a).1=true:=by
 unfold eC;split
 ·exact fN _
 ·rename_i hn
  have hl:=pu hn;have:=aM raw a sc.vars.length (by omega);exact h.vars _ (xG (by omega))
theorem iV {sc:Sc}(h:sc.Ok)(raw:List Int)(a:Nat):aY (bV sc.free sc.arrays raw a).1.name=true:=by
 unfold bV;split
 ·exact fN _
 ·rename_i hn
  have hl:=pu hn;have:=aM raw a sc.arrays.length (by omega);exact h.arrays _ (xG (by omega))
def jF(d:Nat)(e:Ex):Prop:=gU (max d 1) e=true∧bZ e=true
theorem fB(g:Nat→Ex ×Nat):∀c a,(cw g c a).1.length=c
 |0,a=>rfl
 |c+1,a=>by rw[cw];simp [fB g c a]
theorem f5(g:Nat→Ex ×Nat)(P:Ex→Prop)(hg:∀a,P (g a).1):∀c a,∀x,x∈(cw g c a).1→P x
 |0,a,x,hx=>by cases hx
 |c+1,a,x,hx=>by
  rw[cw]at hx;rcases List.mem_append.1 hx with h|h
  ·exact f5 g P hg c a x h
  ·rw[Zb.1 h];exact hg _
theorem ix {d:Nat}{k o n:Int}{nm:Bs}{args:List Ex}(hh:bY (.mk k o n nm args)=true)(ha:∀x,x∈args→jF d x)(hd:args=[]∨1≤d):jF (d+1) (.mk k o n nm args):=by
 refine⟨?_,?_⟩
 ·rw[show max (d+1) 1=d+1 by omega]
  show args.all (gU d)=true
  rw[Za];intro x hx;have h1:=(ha x hx).1;rcases hd with rfl|hd
  ·cases hx
  ·rwa[show max d 1=d by omega]at h1
 ·rw[gu,hh,Bool.true_and,Za]
  exact fun x hx=>(ha x hx).2
theorem lm {d:Nat}{k o n:Int}{nm:Bs}(hh:bY (.mk k o n nm [])=true):jF d (.mk k o n nm []):=by
 refine⟨?_,?_⟩
 ·obtain⟨m,hm⟩:∃m,max d 1=m+1:=⟨max d 1 - 1,by omega⟩
  rw[hm];rfl
 ·rw[gu,hh,Bool.true_and];rfl
theorem iB(n j:Int)(h:0≤n∧n<1000):0≤dB n j∧dB n j≤9223372036854775807:=by
 unfold dB
 repeat' split
 all_goals try omega
 ·constructor
  ·exact Int.mul_nonneg h.1 h.1
  ·have:n*n≤999*999:=Int.mul_le_mul (by omega) (by omega) (by omega) (by omega)
   omega
 ·have h1:(n % 63).toNat≤62:=by omega
  have h2:(2:Nat) ^ (n % 63).toNat≤2 ^ 62:=Nat.pow_le_pow_right (by decide) h1;have h3:((2:Int) ^ (n % 63).toNat)=((2 ^ (n % 63).toNat:Nat):Int):=by simp
  rw[h3];constructor
  ·exact Int.natCast_nonneg _
  ·have:(2:Nat) ^ 62≤9223372036854775807:=by decide
   exact Int.ofNat_le.2 (Nat.le_trans h2 this)
theorem rD:∀i:Fin 16,0<aP (1+(i.val:Int)):=by decide+kernel
theorem xm(o:Int)(h:0≤o∧o<16):0<aP (1+o):=by
 have:=rD ⟨o.toNat,by omega⟩;simpa only[Int.toNat_of_nonneg h.1]using this
theorem sW {sc:Sc}(hs:sc.Ok)(raw:List Int)(d:Nat)(g:Nat→Ex ×Nat)(k:Int)(hk:4≤k→1≤d∧∀a,jF d (g a).1)(a:Nat):jF (d+1) (cE sc raw g k a).1:=by
 unfold cE;split
 ·refine lm ?_
  have:=jM hs raw a;simp [bY,eG,fG,gd,dE,cB,Ex.kind,Ex.op,Ex.n,Ex.name,Ex.args,this]
 split
 ·exact lm (by decide)
 split
 ·refine lm ?_
  have h1:=aM raw (if k=3 then(aC raw a 3).2 else a) 1000 (by decide);have h2:=(iB _ (aC raw (aC raw (if k=3 then(aC raw a 3).2 else a) 1000).2 8).1 h1).1;simp only[bY,eG,fG,gd,dE,cB,Ex.kind,Ex.op,Ex.n,Ex.name,Ex.args];simp [h2]
 rename_i h1 h2 h3;obtain⟨hk,hg⟩:=hk (by omega);split
 ·refine ix ?_ (fun x hx=>by rw[Zb.1 hx];exact hg _) (.inr hk)
  have:=aM raw a 3 (by decide);have e:17+(aC raw a 3).1=17∨17+(aC raw a 3).1=18∨17+(aC raw a 3).1=19:=by omega
  simp only[bY,eG,fG,gd,dE,cB,Ex.kind,Ex.op,Ex.n,Ex.name,Ex.args];simp [e]
 split
 ·refine ix ?_ (fun x hx=>by rw[Zb.1 hx];exact hg _) (.inr hk)
  have:=iV hs raw a;simp [bY,eG,fG,gd,dE,cB,Ex.kind,Ex.op,Ex.n,Ex.name,Ex.args,this]
 split
 ·unfold ey
  split
  ·refine ix ?_ (f5 g _ hg _ _) (.inr hk)
   have h7:=aM raw (aC raw a 312).2 7 (by decide);have hn:=fN (aC raw a 312).1;simp only[bY,eG,fG,gd,dE,cB,Ex.kind,Ex.op,Ex.n,Ex.name,Ex.args,fB];simp [hn];omega
  ·rename_i hn
   have hl:=pu hn;have hr:=aM raw a sc.funcs.length (by omega);have hf:aY (cZ sc.funcs (aC raw a sc.funcs.length).1.toNat).name=true∧(cZ sc.funcs (aC raw a sc.funcs.length).1.toNat).params.length≤6:=hs.funcs _ (xG (d:=Fu.nil) (i:=(aC raw a sc.funcs.length).1.toNat) (by omega));dsimp only;generalize cZ sc.funcs (aC raw a sc.funcs.length).1.toNat=f at hf ⊢;refine ix ?_ (f5 g _ hg _ _) (.inr hk);simp only[bY,eG,fG,gd,dE,cB,Ex.kind,Ex.op,Ex.n,Ex.name,Ex.args,fB];simp only[hf.1];simp;omega
 ·refine ix ?_ (fun x hx=> ?_) (.inr hk)
  ·have:=xm _ (aM raw a 16 (by decide))
   simp only[bY,eG,fG,gd,dE,cB,Ex.kind,Ex.op,Ex.n,Ex.name,Ex.args];simp [this]
  ·rcases Zc.1 hx with rfl|hx
   ·exact hg _
   ·rw[Zb.1 hx];exact hg _
theorem qL(raw:List Int)(d a:Nat)(h:d<2):gK raw d a<4:=by
 unfold gK;rw[if_pos h];have:=aM raw a 12 (by decide);omega
theorem oA {sc:Sc}(hs:sc.Ok)(raw:List Int):∀d a,jF d (aX sc raw d a).1
 |0,a=>by
  rw[aX];unfold j7;exact sW hs raw 0 _ _ (fun h4=>by have:=qL raw 0 a (by omega);omega) _
 |d+1,a=>by
  rw[aX];unfold j7;refine sW hs raw d _ _ (fun h4=>⟨?_,fun b=>oA hs raw d b⟩) _;rcases Nat.lt_or_ge (d+1) 2 with h|h
  ·have:=qL raw (d+1) a h;omega
  ·omega
def bO(sc:Sc)(raw:List Int)(gs gl:Nat→List St ×Nat)(k:Int)(a:Nat):St ×Nat:=
 if k<4∧sc.hasVars=true then
  let n:=eC sc.free sc.vars raw a
  (.mk 1 n.1 [] [] [],n.2)
 else if k=4∧sc.hasArrays=true then
  let n:=bV sc.free sc.arrays raw a;let e:=aX sc raw 3 n.2
  (.mk 2 n.1.name [e.1] [] [],e.2)
 else if k=5∧sc.hasFuncs=true then
  let c:=ey sc raw (aX sc raw 2) a
  (.mk 10 [] [c.1] [] [],c.2)
 else if k=6∧(aC raw a 3).1=2 then
  let j:=aC raw (aC raw a 3).2 2
  (.mk (if j.1=0 then 7 else 9) [] [] [] [],j.2)
 else if k=7∨k=8 then
  let e:=aX sc raw 3 a;let t:=gs e.2;let u:=gs t.2
  (.mk 3 [] [e.1] t.1 u.1,u.2)
 else if k=9∨k=10 then
  let e:=aX sc raw 3 a;let t:=gl e.2
  (.mk 4 [] [e.1] t.1 [],t.2)
 else if k=11∧(sc.loop||sc.free)=true∧(aC raw a 2).1=1 then
  let j:=aC raw (aC raw a 2).2 2
  (.mk (if j.1=0 then 5 else 6) [] [] [] [],j.2)
 else(.mk 8 [] [] [] [],if k=6 then(aC raw a 3).2 else if k=11∧(sc.loop||sc.free)=true then(aC raw a 2).2 else a)
def cD(k:Int):Nat:=if k=2 then 2 else if k=5∨k=6 then 0 else 1
def gR(sc:Sc)(raw:List Int)(x:St)(a:Nat):St ×Nat:=
 if x.args.length<cD x.kind then(.mk x.kind x.name (x.args++[(aX sc raw 4 a).1]) x.thn x.els,(aX sc raw 4 a).2)else(x,a)
def lh(raw:List Int)(d a:Nat):Int:=if d<2∧7≤(aC raw a 14).1∧(aC raw a 14).1<11 then 0 else(aC raw a 14).1
def gSt(sc:Sc)(raw:List Int)(gs gl:Nat→List St ×Nat)(d:Nat)(a:Nat):St ×Nat:=
 let h:=bO sc raw gs gl (lh raw d a) (aC raw a 14).2
 gR sc raw h.1 h.2
def fH(one:Nat→St ×Nat):Nat→Nat→List St ×Nat
 |0,a=>([],a)
 |c+1,a=>((fH one c a).1++[(one (fH one c a).2).1],(one (fH one c a).2).2)
def Sc.inLoop(sc:Sc):Sc:=⟨sc.vars,sc.arrays,sc.funcs,sc.free,true⟩
def eE(raw:List Int):Nat→Sc→Nat→List St ×Nat
 |0,sc,a=>fH (gSt sc raw (fun a=>([],a)) (fun a=>([],a)) 0) (aC raw a 5).1.toNat (aC raw a 5).2
 |d+1,sc,a=>fH (gSt sc raw (eE raw d sc) (eE raw d sc.inLoop) (d+1)) (aC raw a 5).1.toNat (aC raw a 5).2
theorem mj:∀(m n:Nat) (e:Ex),m≤n→gU m e=true→gU n e=true
 |0,_,_,_,h=>by cases h
 |m+1,0,e,hmn,_=>by omega
 |m+1,n+1,e,hmn,h=>by
  have h:e.args.all (gU m)=true:=h;show e.args.all (gU n)=true
  rw[Za]at*;exact fun x hx=>mj m n x (by omega) (h x hx)
theorem ng {d:Nat}{e:Ex}(hd:d≤40)(h:jF d e):cR e=true:=by
 unfold cR;rw[mj _ _ _ (by omega) h.1,h.2];rfl
theorem uK {sc:Sc}(hs:sc.Ok)(raw:List Int)(d:Nat)(hd:1≤d)(g:Nat→Ex ×Nat)(hg:∀a,jF d (g a).1)(a:Nat):jF (d+1) (ey sc raw g a).1∧(ey sc raw g a).1.kind=5:=by
 unfold ey;split
 ·refine⟨ix ?_ (f5 g _ hg _ _) (.inr hd),rfl⟩
  have h7:=aM raw (aC raw a 312).2 7 (by decide);have hn:=fN (aC raw a 312).1;simp only[bY,eG,fG,gd,dE,cB,Ex.kind,Ex.op,Ex.n,Ex.name,Ex.args,fB];simp [hn];omega
 ·rename_i hn
  have hl:=pu hn;have hr:=aM raw a sc.funcs.length (by omega);have hf:aY (cZ sc.funcs (aC raw a sc.funcs.length).1.toNat).name=true∧(cZ sc.funcs (aC raw a sc.funcs.length).1.toNat).params.length≤6:=hs.funcs _ (xG (d:=Fu.nil) (i:=(aC raw a sc.funcs.length).1.toNat) (by omega));dsimp only;generalize cZ sc.funcs (aC raw a sc.funcs.length).1.toNat=f at hf ⊢;refine⟨ix ?_ (f5 g _ hg _ _) (.inr hd),rfl⟩;simp only[bY,eG,fG,gd,dE,cB,Ex.kind,Ex.op,Ex.n,Ex.name,Ex.args,fB];simp only[hf.1];simp;omega
theorem gI {m:Nat}{k:Int}{nm:Bs}{args:List Ex}{thn els:List St}(hm:1≤m)(h1:fOk k=true)(h2:(args.length:Int)=cq k)(h3:ft k=true∨thn=[])(h4:fw k=true∨els=[])(h5:dN k=aY nm)
  (h6:dN k=true∨nm=[]) (h7:k≠10∨(args.headD (.mk 0 0 0 [] [])).kind=5) (h8:∀x,x∈args→cR x=true) (h9:∀x,x∈thn→dD (m - 1) x=true) (h10:∀x,x∈els→dD (m - 1) x=true):dD m (.mk k nm args thn els)=true:=by
 obtain⟨n,rfl⟩:∃n,m=n+1:=⟨m - 1,by omega⟩;rw[Nat.add_sub_cancel]at h9 h10;simp only[dD,gY,nS,St.kind,St.args,St.thn,St.els,St.name,Bool.and_eq_true,Bool.not_eq_true',Bool.or_eq_false_iff,Bool.not_eq_false',Za];refine⟨⟨⟨⟨⟨⟨⟨⟨h1,?_⟩,?_⟩,?_⟩,?_⟩,⟨⟨?_,?_⟩,?_⟩⟩,h8⟩,h9⟩,h10⟩
 ·simp;omega
 ·simpa using h2
 ·rcases h3 with h|rfl
  ·simp [h]
  ·simp
 ·rcases h4 with h|rfl
  ·simp [h]
  ·simp
 ·simp [h5]
 ·rcases h6 with h|rfl
  ·simp [h]
  ·simp
 ·rcases h7 with h|h
  ·simp [h]
  ·rw[h];simp
theorem Sc.Ok.inLoop {sc:Sc}(h:sc.Ok):sc.inLoop.Ok:=⟨h.vars,h.arrays,h.funcs⟩
theorem jq(one:Nat→St ×Nat)(P:St→Prop)(hg:∀a,P (one a).1):∀c a,∀x,x∈(fH one c a).1→P x
 |0,a,x,hx=>by cases hx
 |c+1,a,x,hx=>by
  rw[fH]at hx;rcases List.mem_append.1 hx with h|h
  ·exact jq one P hg c a x h
  ·rw[Zb.1 h];exact hg _
theorem iS(one:Nat→St ×Nat):∀c a,(fH one c a).1.length=c
 |0,a=>rfl
 |c+1,a=>by rw[fH];simp [iS one c a]
theorem iD {sc:Sc}(hs:sc.Ok)(raw:List Int)(d a:Nat)(hd:d≤40):cR (aX sc raw d a).1=true:=ng hd (oA hs raw d a)
theorem gm(sc:Sc)(raw:List Int){k:Int}{nm:Bs}{args:List Ex}{t e:List St}(a:Nat)(h:args.length<cD k):gR sc raw (.mk k nm args t e) a=(.mk k nm (args++[(aX sc raw 4 a).1]) t e,(aX sc raw 4 a).2):=if_pos h
theorem gw(sc:Sc)(raw:List Int){k:Int}{nm:Bs}{args:List Ex}{t e:List St}(a:Nat)(h:¬args.length<cD k):gR sc raw (.mk k nm args t e) a=(.mk k nm args t e,a):=if_neg h
theorem yx {sc:Sc}(hs:sc.Ok)(raw:List Int)(gs gl:Nat→List St ×Nat)(d:Nat)(m:Nat)(hm:1≤m)(hgs:2≤d→∀a x,x∈(gs a).1→dD (m - 1) x=true)(hgl:2≤d→∀a x,x∈(gl a).1→dD (m - 1) x=true)(a:Nat):dD m (gSt sc raw gs gl d a).1=true:=by
 unfold gSt;have hk:∀k,lh raw d a=k→7≤k→k<11→2≤d:=by
  intro k hk h1 h2;unfold lh at hk;split at hk
  ·omega
  ·omega
 generalize lh raw d a=k at hk;have hk:=hk k rfl;generalize (aC raw a 14).2=b;dsimp only;have e4:∀a,∀x,x∈[(aX sc raw 4 a).1]→cR x=true:=fun a x hx=>by rw[Zb.1 hx];exact iD hs raw 4 a (by omega)
 have e3:∀a,∀x,x∈[(aX sc raw 3 a).1]→cR x=true:=fun a x hx=>by rw[Zb.1 hx];exact iD hs raw 3 a (by omega)
 have nn:∀x:St,x∈([]:List St)→dD (m - 1) x=true:=fun x hx=>by cases hx
 unfold bO;split
 ·have:=jM hs raw b
  dsimp only;rw[gm _ _ _ (by simp [cD])];exact gI hm rfl rfl (.inr rfl) (.inr rfl) (by rw[this];rfl) (.inl rfl) (.inl (by decide)) (e4 _) nn nn
 split
 ·have:=iV hs raw b
  dsimp only;rw[gm _ _ _ (by simp [cD])];exact gI hm rfl rfl (.inr rfl) (.inr rfl) (by rw[this];rfl) (.inl rfl) (.inl (by decide)) (fun x hx=>by
   rcases Zc.1 hx with rfl|hx
   ·exact iD hs raw 3 _ (by omega)
   ·exact e4 _ x hx) nn nn
 split
 ·have:=uK hs raw 2 (by omega) (aX sc raw 2) (oA hs raw 2) b
  dsimp only;rw[gw _ _ _ (by simp [cD])];exact gI hm rfl rfl (.inr rfl) (.inr rfl) rfl (.inr rfl) (.inr this.2) (fun x hx=>by rw[Zb.1 hx];exact ng (by omega) this.1) nn nn
 split
 ·dsimp only
  split
  ·rw[gm _ _ _ (by simp [cD])]
   exact gI hm rfl rfl (.inr rfl) (.inr rfl) rfl (.inr rfl) (.inl (by decide)) (e4 _) nn nn
  ·rw[gm _ _ _ (by simp [cD])]
   exact gI hm rfl rfl (.inr rfl) (.inr rfl) rfl (.inr rfl) (.inl (by decide)) (e4 _) nn nn
 split
 ·dsimp only
  rw[gw _ _ _ (by simp [cD])];exact gI hm rfl rfl (.inl rfl) (.inl rfl) rfl (.inr rfl) (.inl (by decide)) (e3 _) (hgs (hk (by omega) (by omega)) _) (hgs (hk (by omega) (by omega)) _)
 split
 ·dsimp only
  rw[gw _ _ _ (by simp [cD])];exact gI hm rfl rfl (.inl rfl) (.inr rfl) rfl (.inr rfl) (.inl (by decide)) (e3 _) (hgl (hk (by omega) (by omega)) _) nn
 split
 ·dsimp only
  split
  ·rw[gw _ _ _ (by simp [cD])]
   exact gI hm rfl rfl (.inr rfl) (.inr rfl) rfl (.inr rfl) (.inl (by decide)) (fun x hx=>by cases hx) nn nn
  ·rw[gw _ _ _ (by simp [cD])]
   exact gI hm rfl rfl (.inr rfl) (.inr rfl) rfl (.inr rfl) (.inl (by decide)) (fun x hx=>by cases hx) nn nn
 ·dsimp only
  rw[gm _ _ _ (by simp [cD])];exact gI hm rfl rfl (.inr rfl) (.inr rfl) rfl (.inr rfl) (.inl (by decide)) (e4 _) nn nn
theorem lq(raw:List Int):∀(d:Nat) (sc:Sc),sc.Ok→∀m,1≤m→d≤m→∀a x,x∈(eE raw d sc a).1→dD m x=true
 |0,sc,hs,m,hm,hd,a,x,hx=>by
  rw[eE]at hx;exact jq _ (fun x=>dD m x=true) (yx hs raw _ _ 0 m hm (fun h=>by omega) (fun h=>by omega)) _ _ x hx
 |d+1,sc,hs,m,hm,hd,a,x,hx=>by
  rw[eE]at hx;exact jq _ (fun x=>dD m x=true) (yx hs raw _ _ (d+1) m hm (fun h=>lq raw d sc hs (m - 1) (by omega) (by omega)) (fun h=>lq raw d sc.inLoop hs.inLoop (m - 1) (by omega) (by omega))) _ _ x hx
def dj:List Bs:=[[97],[98],[99]]
def dP:List Bs:=[[102],[103],[104]]
def eZ:List Bs:=[[112],[113],[114],[115],[116],[117]]
def cK:List Bs:=[[120],[121],[122],[105],[107]]
def dp:List Int:=[1,4,10,1000]
def oD(free:Bool)(raw:List Int)(i:Nat)(a:Nat):Ar ×Nat:=
 if free then bV true [] raw (aC raw a 4).2 else(⟨dj.getD i [],dp.getD (aC raw a 4).1.toNat 0⟩,(aC raw a 4).2)
def fU(free:Bool)(raw:List Int):Nat→Nat→List Ar ×Nat
 |0,a=>([],a)
 |i+1,a=>((oD free raw (i+1) a).1::(fU free raw i (oD free raw (i+1) a).2).1,(fU free raw i (oD free raw (i+1) a).2).2)
def si(raw:List Int)(i a:Nat):Fu ×Nat:=(⟨dP.getD i [],eZ.take (aC raw a 7).1.toNat,[],[]⟩,(aC raw a 7).2)
def fK(raw:List Int):Nat→Nat→List Fu ×Nat
 |0,a=>([],a)
 |i+1,a=>((si raw (i+1) a).1::(fK raw i (si raw (i+1) a).2).1,(fK raw i (si raw (i+1) a).2).2)
def j5(raw:List Int)(sc:Sc)(f:Fu)(a:Nat):Fu ×Nat:=
 let l:=cK.take (aC raw a 6).1.toNat
 let b:=eE raw 4 ⟨f.params++l,sc.arrays,sc.funcs,sc.free,false⟩ (aC raw a 6).2
 (⟨f.name,f.params,l,b.1⟩,b.2)
def cH(raw:List Int)(sc:Sc):List Fu→Nat→List Fu ×Nat
 |[],a=>([],a)
 |f::l,a=>((j5 raw sc f a).1::(cH raw sc l (j5 raw sc f a).2).1,(cH raw sc l (j5 raw sc f a).2).2)
def gf:Fu:=⟨[109,97,105,110],[],[],[]⟩
def fh(raw:List Int)(free:Bool):List Ar ×Nat:=fU free raw (aC raw 0 3).1.toNat (aC raw 0 3).2
def kH(raw:List Int)(a:Nat):List Fu ×Nat:=fK raw (aC raw a 3).1.toNat (aC raw a 3).2
def fZ(raw:List Int)(free:Bool):Sc:=⟨[],(fh raw free).1,gf::(kH raw (fh raw free).2).1,free,false⟩
def gJ(raw0:List Int)(free:Bool):Pr:=
 let raw:=raw0.take 400
 ⟨(fh raw free).1,(cH raw (fZ raw free) (fZ raw free).funcs (kH raw (fh raw free).2).2).1⟩
def iR(raw0:List Int):Ex:=(aX ⟨[],[],[],true,false⟩ (raw0.take 100) 6 0).1
theorem gArr_ok(free:Bool)(raw:List Int)(i a:Nat)(hi:i=1∨i=2):cg (oD free raw i a).1=true:=by
 unfold oD;split
 ·have h1:=fN (aC raw (aC raw a 4).2 312).1
  have h2:=aM raw (aC raw (aC raw a 4).2 312).2 1000 (by decide);unfold bV;rw[if_pos (by simp)];simp only[cg,h1,Bool.true_and];simp;omega
 ·have h2:=aM raw a 4 (by decide)
  have h3:(aC raw a 4).1=0∨(aC raw a 4).1=1∨(aC raw a 4).1=2∨(aC raw a 4).1=3:=by omega
  dsimp only;rcases hi with rfl|rfl<;>rcases h3 with h|h|h|h<;>rw[h]<;>decide
theorem rZ(free:Bool)(raw:List Int):∀i a,i≤2→∀x,x∈(fU free raw i a).1→cg x=true
 |0,a,_,x,hx=>by cases hx
 |i+1,a,hi,x,hx=>by
  rw[fU]at hx;rcases Zc.1 hx with rfl|hx
  ·exact gArr_ok free raw (i+1) a (by omega)
  ·exact rZ free raw i _ (by omega) x hx
def p5(f:Fu):Prop:=aY f.name=true∧f.params.length≤6∧∀x,x∈f.params→aY x=true
theorem wB:∀x,x∈eZ→aY x=true:=by decide
theorem pC:∀x,x∈cK→aY x=true:=by decide
theorem rn(raw:List Int):∀i a,i≤2→∀x,x∈(fK raw i a).1→p5 x
 |0,a,_,x,hx=>by cases hx
 |i+1,a,hi,x,hx=>by
  rw[fK]at hx;rcases Zc.1 hx with rfl|hx
  ·have hi':i=0∨i=1:=by omega
   refine⟨?_,?_,fun x hx=>wB x (List.mem_of_mem_take hx)⟩
   ·show aY (dP.getD (i+1) [])=true
    rcases hi' with rfl|rfl<;>decide
   ·show(eZ.take _).length≤6
    rw[List.length_take];exact Nat.min_le_right _ _
  ·exact rn raw i _ (by omega) x hx
theorem oI(raw:List Int)(sc:Sc)(ha:∀x,x∈sc.arrays→aY x.name=true)(hf:∀x,x∈sc.funcs→p5 x):∀l a,(∀x,x∈l→p5 x)→∀x,x∈(cH raw sc l a).1→du x=true
 |[],a,_,x,hx=>by cases hx
 |f::l,a,hl,x,hx=>by
  rw[cH]at hx;rcases Zc.1 hx with rfl|hx
  ·have h:=hl f List.mem_cons_self
   have hL:∀x,x∈cK.take (aC raw a 6).1.toNat→aY x=true:=fun x hx=>pC x (List.mem_of_mem_take hx)
   have hsc:Sc.Ok ⟨f.params++cK.take (aC raw a 6).1.toNat,sc.arrays,sc.funcs,sc.free,false⟩:=⟨fun x hx=>by
    rcases List.mem_append.1 hx with hx|hx
    ·exact h.2.2 x hx
    ·exact hL x hx,ha,fun x hx=>⟨(hf x hx).1,(hf x hx).2.1⟩⟩
   have hb:=lq raw 4 _ hsc 40 (by omega) (by omega) (aC raw a 6).2;unfold j5 du;dsimp only;rw[h.1,Za.2 h.2.2,Za.2 hL,Za.2 hb,decide_eq_true h.2.1];rfl
  ·exact oI raw sc ha hf l _ (fun x hx=>hl x (List.mem_cons_of_mem _ hx)) x hx
theorem eo(raw:List Int)(free:Bool):∀x,x∈(fZ raw free).funcs→p5 x:=by
 intro x hx;rcases Zc.1 hx with rfl|hx
 ·exact⟨by decide,by decide,fun x hx=>by cases hx⟩
 ·exact rn raw _ _ (by have:=aM raw (fh raw free).2 3 (by decide);omega) x hx
theorem jG(raw:List Int)(free:Bool):∀x,x∈(fh raw free).1→cg x=true:=
 rZ free raw _ _ (by have:=aM raw 0 3 (by decide);omega)
theorem jb(raw0:List Int)(free:Bool):dS (gJ raw0 free)=true:=by
 unfold gJ dS;dsimp only;rw[Bool.and_eq_true,Za,Za];refine⟨jG _ _,oI _ _ (fun x hx=> ?_) (eo _ _) _ _ (eo _ _)⟩;have:=jG (raw0.take 400) free x hx;unfold cg at this;exact((Bool.and_eq_true _ _).mp this).1
theorem oN(raw0:List Int):cR (iR raw0)=true:=
 iD ⟨fun _ hx=>(List.not_mem_nil hx).elim,fun _ hx=>(List.not_mem_nil hx).elim,fun _ hx=>(List.not_mem_nil hx).elim⟩ _ 6 0 (by omega)
theorem yF(c n:Int)(hc:I64 c)(h0:0<n)(h1:n≤9223372036854775807)(w:World):
  Calls Tryz.prog 82 #[.int .i64 c,.int .i64 n] w fun e w'=>e= .returned (.int .i64 (eR c n))∧w'=w:=by
 obtain⟨l,u⟩:=hc;unfold eR
 by_cases hneg:c<0
 ·rw[if_pos hneg]
  have hn0:(n==0)=false:=by simp;omega
  go_enter Tryz.func82,Tryz.ntmps82
  go_wp2_with fail
  go_ret
  exact⟨e9 (by show -((c+1).tmod n)=_;rw[←Int.neg_tmod,Int.tmod_eq_emod_of_nonneg (by omega)]),rfl⟩
 ·rw[if_neg hneg]
  have hneg':0≤c:=by omega
  go_enter Tryz.func82,Tryz.ntmps82
  go_wp2_with fail
  go_ret
  exact⟨rfl,rfl⟩
def ew(D:Nat→Prop)(w:World)(l:List Int)(v:Value):Prop:=
 ∃a cap b off,v= .slice a l.length cap∧l.length≤cap∧br l.length∧(l.length=0∨(a=some ⟨b,off,none⟩∧D b))∧
  (∀i,i<l.length→w.cell? ⟨b,off+i,none⟩=some (.int .i64 (l.getD i 0)))∧∀i,i<l.length→I64 (l.getD i 0)
theorem ew.keep {D:Nat→Prop}{w w':World}(hk:cd D w w'){l:List Int}{v:Value}(h:ew D w l v):ew D w' l v:=by
 obtain⟨a,cap,b,off,hv,h1,h2,h3,h4,h5⟩:=h;refine⟨a,cap,b,off,hv,h1,h2,h3,fun i hi=> ?_,h5⟩;rcases h3 with h3|⟨_,hD⟩
 ·omega
 ·exact hk _ _ _ hD (h4 i hi)
theorem ew.shape {D:Nat→Prop}{w:World}{l:List Int}{v:Value}(h:ew D w l v):∃a cap,v= .slice a l.length cap:=by
 obtain⟨a,cap,b,off,hv,_⟩:=h;exact⟨a,cap,hv⟩
theorem ew.fits {D:Nat→Prop}{w:World}{l:List Int}{v:Value}(h:ew D w l v):br l.length:=by
 obtain⟨a,cap,b,off,hv,h1,h2,_⟩:=h;exact h2
theorem ew.cellAt {D:Nat→Prop}{w:World}{l:List Int}{a:Option Addr}{n cap:Nat}(h:ew D w l (.slice a n cap))(i:Nat)(hl:i<l.length):∃b off,a=some ⟨b,off,none⟩∧D b∧b<w.heap.size∧
  w.cell? ⟨b,off+i,none⟩=some (.int .i64 (l.getD i 0))∧I64 (l.getD i 0):=by
 obtain⟨a',cap',b,off,hv,h1,h2,h3,h4,h5⟩:=h
 cases hv
 rcases h3 with h3|⟨h3,hD⟩
 ·omega
 ·exact⟨b,off,h3,hD,World.block_lt_of_cell? _ _ (h4 i hl),h4 i hl,h5 i hl⟩
def aZ(w:World)(s:Nat)(raw:List Int)(a:Nat):Prop:=
 ∃v,w.heap[s]? =some (.cells #[v,.int .i64 a] 71 (0,0))∧ew (· <s) w raw v∧a≤raw.length
theorem aZ.lt {w:World}{s:Nat}{raw:List Int}{a:Nat}(h:aZ w s raw a):s<w.heap.size:=by
 obtain⟨v,hb,_⟩:=h;rcases Nat.lt_or_ge s w.heap.size with h'|h'
 ·exact h'
 ·simp [Array.getElem?_eq_none h']at hb
theorem aZ.old {w w':World}{s:Nat}{raw:List Int}{a:Nat}(h:aZ w s raw a)(hb:Below w.heap.size w w'):aZ w' s raw a:=by
 have hl:=h.lt;obtain⟨v,h1,h2,h3⟩:=h;exact⟨v,(hb.block s hl).trans h1,h2.keep (aw hb),h3⟩
theorem aZ.set {w:World}{s:Nat}{raw:List Int}{a:Nat}(h:aZ w s raw a)(ha:a<raw.length):aZ (w.setCell ⟨s,1,none⟩ (.int .i64 ((a:Int)+1))) s raw (a+1)∧SFr s w (w.setCell ⟨s,1,none⟩ (.int .i64 ((a:Int)+1))):=by
 obtain⟨v,h1,h2,h3⟩:=h;have hf:SFr s w (w.setCell ⟨s,1,none⟩ (.int .i64 ((a:Int)+1))):=⟨rfl,rfl,rfl,by simp [World.setCell],fun k _ hk=>Below.heap_setCell _ _ _ _ hk⟩;refine⟨⟨v,?_,h2.keep (hf.keepsD (fun b h=>Nat.ne_of_lt h)),ha⟩,hf⟩;rw[show((a+1:Nat):Int)=(a:Int)+1 from by omega];simp [World.setCell,Array.getElem?_modify,h1]
def cp(w:World)(s:Nat)(raw:List Int)(x:Value)(a':Nat)(r:Ending)(w':World):Prop:=r= .returned x∧aZ w' s raw a'∧SFr s w w'
theorem aZ.drewN {s n:Nat}{w1:World}{raw:List Int}{a:Nat}(h:aZ w1 s raw a):aZ (w1.drewN n) s raw a:=h
theorem bQ(s:Nat)(raw:List Int)(a:Nat)(n:Int)(w:World)(hs:aZ w s raw a)(h0:0<n)(h1:n≤1000000):
  Calls Tryz.prog 37 #[.pointer (some ⟨s,0,none⟩),.int .i64 n] w (cp w s raw (.int .i64 (aC raw a n).1) (aC raw a n).2):=by
 have HS:=Lib.hid hs;obtain⟨v,hb,hr,ha⟩:=hs;obtain⟨ra,rc,rfl⟩:=hr.shape;have l63:=hr.fits.out;have c0:w.cell? ⟨s,0,none⟩=some (.slice ra raw.length rc):=by rw[Lib.cell_of_heap hb];rfl
 have c1:w.cell? ⟨s,1,none⟩=some (.int .i64 a):=by rw[Lib.cell_of_heap hb];rfl
 have fz:w.frozen? ⟨s,1,none⟩=false:=Lib.frozen_of_heap hb 1;unfold aC
 by_cases hge:raw.length≤a
 ·rw[if_pos hge]
  clear hb hr;go_enter Tryz.func37,Tryz.ntmps37
  go_wp2_with fail
  go_quiet (fail)
  go_wp2_with fail
  go_ret
  exact⟨rfl,HS.out,SFr.drewN (SFr.refl _ _)⟩
 ·rw[if_neg hge]
  have hlt:a<raw.length:=by omega
  obtain⟨b,off,rfl,hD,hbl,cr,hI⟩:=hr.cellAt a hlt;have HSET:=Lib.hid (HS.out.set hlt);have HI:=Lib.hid hI;have hD':b≠s:=Nat.ne_of_lt hD;have HCR:=Lib.hid (HSET.out.2.cell hD' cr);obtain⟨v',hb',_,_⟩:=HSET.out.1;have hsl:=HS.out.lt;have g0:(w.setCell ⟨s,1,none⟩ (.int .i64 ((a:Int)+1))).cell? ⟨s,0,none⟩=some (.slice (some ⟨b,off,none⟩) raw.length rc):=by
   have h:=hb;simp [World.setCell,World.cell?,Array.getElem?_modify,h]
  clear hb hr hI hD hge hb';generalize hc:raw.getD a 0=c at*;clear hc;go_enter Tryz.func37,Tryz.ntmps37
  go_wp2_with fail
  go_quiet (fail)
  go_wp2_with fail
  have hsv:aZ ((w.drewN nq).setCell ⟨s,1,none⟩ (.int .i64 ((a:Int)+1))) s raw (a+1):=HSET.out.1.drewN (n:=nq);have hfv:SFr s w ((w.drewN nq).setCell ⟨s,1,none⟩ (.int .i64 ((a:Int)+1))):=HSET.out.2.drewN (n:=nq);have k0:((w.drewN nq).setCell ⟨s,1,none⟩ (.int .i64 ((a:Int)+1))).cell? ⟨s,0,none⟩=some (.slice (some ⟨b,off,none⟩) raw.length rc):=g0;have k1:((w.drewN nq).setCell ⟨s,1,none⟩ (.int .i64 ((a:Int)+1))).cell? ⟨s,1,none⟩=some (.int .i64 ((a:Int)+1)):=by
   obtain⟨v2,hb2,_⟩:=hsv;rw[Lib.cell_of_heap hb2];show some (Value.int .i64 ((a+1:Nat):Int))=_;rw[show((a+1:Nat):Int)=(a:Int)+1 from by omega]
  have kr:((w.drewN nq).setCell ⟨s,1,none⟩ (.int .i64 ((a:Int)+1))).cell? ⟨b,off+a,none⟩=some (.int .i64 c):=HCR.out;have HSV:=Lib.hid hsv;have HFV:=Lib.hid hfv;clear hsv hfv g0 c0 c1 cr fz HSET HCR HS;generalize (w.drewN nq).setCell ⟨s,1,none⟩ (.int .i64 ((a:Int)+1))=V at*;have S1:IntKind.i64.wrap ((a:Int)+1 - 1)=a:=by rw[IntWalk.i64_in _ (by omega)];omega
  have S2:IntKind.i64.wrap (a:Int)=a:=IntWalk.i64_in _ (by omega);have i0:(0:Int)≤(a:Int):=by omega
  have i1:(a:Int)<(raw.length:Int):=by omega
  have hbv:b<V.heap.size:=World.block_lt_of_cell? _ _ kr;have hsv:s<V.heap.size:=HSV.out.lt
  go_region_held3 (fun w'=>w'.cell? ⟨s,0,none⟩=some (.slice (some ⟨b,off,none⟩) raw.length rc)∧w'.cell? ⟨s,1,none⟩=some (.int .i64 ((a:Int)+1))∧w'.cell? ⟨b,off+a,none⟩=some (.int .i64 c)) (first|(simp [*,World.cell?_alloc_lt];done)|go_keep) (first
   |(go_at_call 82;refine(yF c n HI.out h0 (by omega) _).mono ?_;rintro r w2 ⟨he,hw⟩;subst he;subst hw))
  go_wp2_with fail
  go_ret
  exact⟨rfl,HSV.out,SFr.drewN (n:=1) HFV.out⟩
end Go.Proofs.YtcfpfnoldgnloaaGreatDoor
namespace Go.Proofs.YtcfpfnoldgnloaaGreatDoor
open Go.ChangeShapes Go.WideShapes Go.ChangeAt Go.RowKit
set_option maxHeartbeats 4000000
set_option maxRecDepth 100000
def ep(D:Nat→Prop)(w:World)(l:List Int)(v:Value):Prop:=
 ∃a cap b off,v= .slice a l.length cap∧l.length≤cap∧cap≤9223372036854775807∧(l.length=0∨(a=some ⟨b,off,none⟩∧D b))∧
  (∀i,i<l.length→w.cell? ⟨b,off+i,none⟩=some (.int .i64 (l.getD i 0)))∧∀i,i<l.length→I64 (l.getD i 0)
theorem ep.keep {D:Nat→Prop}{w w':World}(hk:cd D w w'){l:List Int}{v:Value}(h:ep D w l v):ep D w' l v:=by
 obtain⟨a,cap,b,off,hv,h1,h2,h3,h4,h5⟩:=h;refine⟨a,cap,b,off,hv,h1,h2,h3,fun i hi=> ?_,h5⟩;rcases h3 with h3|⟨_,hD⟩
 ·omega
 ·exact hk _ _ _ hD (h4 i hi)
theorem ep.mono {D D':Nat→Prop}(hD:∀b,D b→D' b){w:World}{l:List Int}{v:Value}(h:ep D w l v):ep D' w l v:=by
 obtain⟨a,cap,b,off,hv,h1,h2,h3,h4,h5⟩:=h;exact⟨a,cap,b,off,hv,h1,h2,h3.imp id (fun q=>⟨q.1,hD _ q.2⟩),h4,h5⟩
theorem ep.old {w w':World}{l:List Int}{v:Value}(hb:Below w.heap.size w w')(h:ep (· <w.heap.size) w l v):ep (· <w'.heap.size) w' l v:=
 (h.keep (aw hb)).mono (fun b hl=>Nat.lt_of_lt_of_le hl hb.size)
theorem ep.shape {D:Nat→Prop}{w:World}{l:List Int}{v:Value}(h:ep D w l v):∃a cap,v= .slice a l.length cap:=by
 obtain⟨a,cap,b,off,hv,_⟩:=h;exact⟨a,cap,hv⟩
theorem ep.len {D:Nat→Prop}{w:World}{l:List Int}{v:Value}(h:ep D w l v):l.length≤9223372036854775807:=by
 obtain⟨a,cap,b,off,hv,h1,h2,_⟩:=h;omega
theorem ep.take {D:Nat→Prop}{w:World}{l:List Int}{a:Option Addr}{n cap:Nat}(h:ep D w l (.slice a n cap))(k:Nat)(hk:k≤l.length)(h4:k≤1000):ew D w (l.take k) (.slice a k cap):=by
 obtain⟨a',cap',b,off,hv,h1,h2,h3,h5,h6⟩:=h
 cases hv
 have e:(l.take k).length=k:=by rw[List.length_take];omega
 refine⟨a,cap,b,off,by rw[e],by rw[e];omega,by rw[e];show k≤_;omega,?_,fun i hi=> ?_,fun i hi=> ?_⟩
 ·rcases h3 with h3|h3
  ·left;rw[e];omega
  ·exact .inr h3
 ·rw[e]at hi
  have:=h5 i (by omega);rw[List.getD_eq_getElem?_getD,List.getElem?_take,if_pos hi,←List.getD_eq_getElem?_getD];exact this
 ·rw[e]at hi
  have:=h6 i (by omega);rw[List.getD_eq_getElem?_getD,List.getElem?_take,if_pos hi,←List.getD_eq_getElem?_getD];exact this
theorem wE {n:Int}(h:(Lit.int .i64 n).wf=true):I64 n:=by
 simp only[Lit.wf,Bool.and_eq_true,decide_eq_true_eq]at h;exact h
theorem nO:Tryz.prog.cellsOf 3=1:=by kernel_rfl
theorem yT {H:Type}{enc:TypeId ×Value→H}{W:World}{base:Nat}{x:Value}{d:DataW H}{p:List MemPlace}(hv:Value.okWide Tryz.prog W .any base 38 x)(h:DataW.Trod enc Tryz.prog W 0 (fun _=>true) true 38 x d p):
  ∃raw,ep (· <W.heap.size) W raw x∧∀(W':World) (sp:Nat→Bool) (hd:Bool),Below W.heap.size W W'→(∀q,q∈p→sp q.block=true)→DataW.Trod enc Tryz.prog W' 0 sp hd 38 x d p:=by
 obtain⟨a0,len,cap,rfl⟩:=okWide_slice Tryz.underlying38 hv;obtain⟨fuel,hf⟩:=h;rcases open_ints Tryz.underlying38 Tryz.underlying3 nO hf with⟨hcs,hx⟩|⟨a,len',cap',zs,hcs,hb,hl,hm,hz,hx,hcell,hwz⟩
 ·cases hcs;cases hx
  exact⟨[],⟨none,0,0,0,rfl,Nat.le_refl _,Nat.zero_le _,.inl rfl,fun i hi=>(by cases hi),fun i hi=>(by cases hi)⟩,fun W' sp hd _ _=>⟨2,rfl⟩⟩
 ·cases hcs;cases hx
  rw[if_pos rfl]at hz;have e:(zs.take len).length=len:=by rw[List.length_take];omega
  have hmax:cap≤9223372036854775807:=by unfold maxLen at hm;omega
  have wf0:∀i,i<zs.length→I64 (zs.getD i 0):=fun i hi=>wE (hwz _ (by rw[List.getD_eq_getElem?_getD,List.getElem?_eq_getElem hi];exact List.getElem_mem hi))
  rcases Nat.eq_zero_or_pos zs.length with h0|h0
  ·have hl0:len=0:=by omega
   subst hl0;refine⟨[],⟨some a,cap,0,0,rfl,Nat.zero_le _,hmax,.inl rfl,fun i hi=>(by cases hi),fun i hi=>(by cases hi)⟩,fun W' sp hd _ _=>⟨2,?_⟩⟩;exact shut_ints 0 Tryz.underlying38 Tryz.underlying3 nO (Nat.zero_le _) hl hm (by split<;>omega) (fun i hi=>by omega) hwz
  ·obtain⟨b,off,rfl,hc⟩:=ints_at hcell h0
   have hbl:b<W.heap.size:=World.block_lt_of_cell? _ _ (hc 0 h0);refine⟨zs.take len,⟨some ⟨b,off,none⟩,cap,b,off,by rw[e],by rw[e];exact hl,hmax,.inr ⟨rfl,hbl⟩,fun i hi=> ?_,fun i hi=> ?_⟩,fun W' sp hd hB hsp=>⟨2,?_⟩⟩
   ·rw[e]at hi
    have:=hc i (by omega);rw[List.getD_eq_getElem?_getD,List.getElem?_take,if_pos hi,←List.getD_eq_getElem?_getD];exact this
   ·rw[e]at hi
    have:=wf0 i (by omega);rw[List.getD_eq_getElem?_getD,List.getElem?_take,if_pos hi,←List.getD_eq_getElem?_getD];exact this
   ·have hs:sp b=true:=hsp (.cell b (off+0)) (MemPlace.mem_row.2 ⟨0,h0,rfl⟩)
    exact shut_ints' 0 Tryz.underlying38 Tryz.underlying3 nO (Nat.zero_le _) hl hm (by rw[hs];simpa using hz) (fun i hi=>aE hB (hc i hi)) hwz
end Go.Proofs.YtcfpfnoldgnloaaGreatDoor
namespace Go.Proofs.YtcfpfnoldgnloaaGreatDoor
open Go.RowKit
set_option maxHeartbeats 20000000
set_option maxRecDepth 100000
structure Tk where
 kind:Int
 text:Bs
 num:Int
 line:Int
def fo(t:Tk):List Value:=[.int .i64 t.kind,.string (aB t.text),.int .i64 t.num,.int .i64 t.line]
theorem infoTk:(Tryz.prog.info? 50).map (fun i=>(i.zero,i.size,i.bytes))=some (some (.agg #[.int .i64 0,.string ⟨#[]⟩,.int .i64 0,.int .i64 0]),4,40):=by kernel_rfl
def e7(w:World)(base:Nat)(l:List Tk)(v:Value):Prop:=w.ownsRow base 50 4 v l.length (l.flatMap fo)
theorem e7.zero(w:World)(base:Nat):e7 w base [] (.slice none 0 0):=⟨rfl,.inl ⟨rfl,rfl⟩⟩
theorem e7.ge {w:World}{base:Nat}{l:List Tk}{v:Value}(h:e7 w base l v){k:Nat}(hk:v.ownBlock=some k):base≤k∧k<w.heap.size:=World.ownsRow.lt h k hk
theorem e7.snoc {w':World}{base:Nat}{l:List Tk}(a:Tk){g cap:Nat}(hown:w'.ownsRow base 50 4 (.slice (some ⟨g,0,none⟩) (l.length+1) cap) (l.length+1) (l.flatMap fo++fo a)):
  e7 w' base (l++[a]) (.slice (some ⟨g,0,none⟩) (l.length+1) cap):=by
 unfold e7;simpa using hown
theorem mL(a:Tk):∀u,u∈fo a→u.oneCell'=true:=by
 intro u hu;simp only[fo,List.mem_cons,List.not_mem_nil,or_false]at hu;rcases hu with rfl|rfl|rfl|rfl<;>rfl
abbrev PR(α:Type):=Except Int (α ×List Tk)
def iF(l:List Tk):Int:=(l.head?.map (·.line)).getD 0
def isP(s:Bs)(t:Tk):Bool:=(t.kind==2||t.kind==4) && t.text==s
def bF(s:Bs):List Tk→Option (List Tk)
 |[]=>none
 |t::r=>if isP s t=true then some r else none
def aV(s:Bs)(l:List Tk):Except Int (List Tk):=match bF s l with
 |some r=> .ok r
 |none=> .error (iF l)
def gx(k:Int):List Tk→PR Tk
 |[]=> .error 0
 |t::r=>if t.kind=k then .ok (t,r)else .error t.line
def dK(l:List Tk):PR Bs:=match gx 1 l with
 | .ok (t,r)=> .ok (t.text,r)
 | .error e=> .error e
def dR(l:List Tk):Option (Int ×List Tk):=
 match bF (aU 17) l with
 |some r=>some (17,r)
 |none=>match bF (aU 18) l with
  |some r=>some (18,r)
  |none=>match bF (aU 19) l with
   |some r=>some (19,r)
   |none=>none
def cJ(lv:Int)(l:List Tk):Int:=match l with
 |[]=>0
 |t::_=>((((List.range 16).map fun i:Nat=>(i:Int)+1).find? fun op=>isP (aU op) t && decide (lv≤aP op))).getD 0
mutual
def ar:Nat→Int→List Tk→PR Ex
 |0,_,l=> .error (iF l)
 |f+1,lv,l=>match bH f l with
  | .error e=> .error e
  | .ok (x,r)=>fs f lv x r
def fs:Nat→Int→Ex→List Tk→PR Ex
 |0,_,_,l=> .error (iF l)
 |f+1,lv,x,l=>if cJ lv l=0 then .ok (x,l)else
  match ar f (aP (cJ lv l)+1) (l.drop 1)with
  | .error e=> .error e
  | .ok (y,r)=>fs f lv (.mk 4 (cJ lv l) 0 [] [x,y]) r
def bH:Nat→List Tk→PR Ex
 |0,l=> .error (iF l)
 |f+1,l=>match dR l with
  |some (op,r)=>(match bH f r with
   | .error e=> .error e
   | .ok (x,r)=> .ok (.mk 3 op 0 [] [x],r))
  |none=>match bF [40] l with
   |some r=>(match ar f 1 r with
    | .error e=> .error e
    | .ok (x,r)=>match aV [41] r with
     | .error e=> .error e
     | .ok r=> .ok (x,r))
   |none=>match bF [114,101,97,100] l with
    |some r=>(match aV [40] r with
     | .error e=> .error e
     | .ok r=>match aV [41] r with
      | .error e=> .error e
      | .ok r=> .ok (.mk 7 0 0 [] [],r))
    |none=>match l with
     |[]=> .error 0
     |t::r=>if t.kind=3 then .ok (.mk 1 0 t.num [] [],r)else
      if t.kind=1 then cQ f t.text r else .error t.line
def cQ:Nat→Bs→List Tk→PR Ex
 |0,_,l=> .error (iF l)
 |f+1,s,l=>match bF [40] l with
  |some r=>(match eP f r with
   | .error e=> .error e
   | .ok (a,r)=> .ok (.mk 5 0 0 s a,r))
  |none=>match bF [91] l with
   |some r=>(match ar f 1 r with
    | .error e=> .error e
    | .ok (x,r)=>match aV [93] r with
     | .error e=> .error e
     | .ok r=> .ok (.mk 6 0 0 s [x],r))
   |none=> .ok (.mk 2 0 0 s [],l)
def eP:Nat→List Tk→PR (List Ex)
 |0,l=> .error (iF l)
 |f+1,l=>match bF [41] l with
  |some r=> .ok ([],r)
  |none=>fi f [] l
def fi:Nat→List Ex→List Tk→PR (List Ex)
 |0,_,l=> .error (iF l)
 |f+1,a,l=>match ar f 1 l with
  | .error e=> .error e
  | .ok (x,r)=>match bF [44] r with
   |some r=>fi f (a++[x]) r
   |none=>match aV [41] r with
    | .error e=> .error e
    | .ok r=> .ok (a++[x],r)
end
def bq(f:Nat)(l:List Tk):PR Ex:=match aV [40] l with
 | .error e=> .error e
 | .ok r=>match ar f 1 r with
  | .error e=> .error e
  | .ok (x,r)=>match aV [41] r with
   | .error e=> .error e
   | .ok r=> .ok (x,r)
def aW(f:Nat)(l:List Tk):PR St:=
 match bF [98,114,101,97,107] l with
 |some r=> .ok (.mk 5 [] [] [] [],r)
 |none=>match bF [99,111,110,116,105,110,117,101] l with
 |some r=> .ok (.mk 6 [] [] [] [],r)
 |none=>match bF [114,101,116,117,114,110] l with
 |some r=>(match ar f 1 r with
  | .error e=> .error e
  | .ok (x,r)=> .ok (.mk 7 [] [x] [] [],r))
 |none=>match bF [112,114,105,110,116] l with
 |some r=>(match bq f r with
  | .error e=> .error e
  | .ok (x,r)=> .ok (.mk 8 [] [x] [] [],r))
 |none=>match bF [116,114,97,112] l with
 |some r=>(match bq f r with
  | .error e=> .error e
  | .ok (x,r)=> .ok (.mk 9 [] [x] [] [],r))
 |none=>match dK l with
 | .error e=> .error e
 | .ok (s,l)=>match bF [40] l with
 |some r=>(match eP f r with
  | .error e=> .error e
  | .ok (a,r)=> .ok (.mk 10 [] [.mk 5 0 0 s a] [] [],r))
 |none=>match bF [91] l with
 |some r=>(match ar f 1 r with
  | .error e=> .error e
  | .ok (x,r)=>match aV [93] r with
   | .error e=> .error e
   | .ok r=>match aV [61] r with
    | .error e=> .error e
    | .ok r=>match ar f 1 r with
     | .error e=> .error e
     | .ok (y,r)=> .ok (.mk 2 s [x,y] [] [],r))
 |none=>match aV [61] l with
  | .error e=> .error e
  | .ok r=>match ar f 1 r with
   | .error e=> .error e
   | .ok (x,r)=> .ok (.mk 1 s [x] [] [],r)
mutual
def cW:Nat→List Tk→PR St
 |0,l=> .error (iF l)
 |f+1,l=>match bF [105,102] l with
  |some r=>(match bq f r with
   | .error e=> .error e
   | .ok (x,r)=>match aV [123] r with
    | .error e=> .error e
    | .ok r=>match cV f [] r with
     | .error e=> .error e
     | .ok (a,r)=>match bF [101,108,115,101] r with
      |none=> .ok (.mk 3 [] [x] a [],r)
      |some r=>match aV [123] r with
       | .error e=> .error e
       | .ok r=>match cV f [] r with
        | .error e=> .error e
        | .ok (b,r)=> .ok (.mk 3 [] [x] a b,r))
  |none=>match bF [119,104,105,108,101] l with
  |some r=>(match bq f r with
   | .error e=> .error e
   | .ok (x,r)=>match aV [123] r with
    | .error e=> .error e
    | .ok r=>match cV f [] r with
     | .error e=> .error e
     | .ok (a,r)=> .ok (.mk 4 [] [x] a [],r))
  |none=>match aW f l with
   | .error e=> .error e
   | .ok (x,r)=>match aV [59] r with
    | .error e=> .error e
    | .ok r=> .ok (x,r)
def cV:Nat→List St→List Tk→PR (List St)
 |0,_,l=> .error (iF l)
 |f+1,a,l=>match bF [125] l with
  |some r=> .ok (a,r)
  |none=>match cW f l with
   | .error e=> .error e
   | .ok (x,r)=>cV f (a++[x]) r
end
def gL:Nat→List Bs→List Tk→PR (List Bs)
 |0,_,l=> .error (iF l)
 |f+1,a,l=>match aV [105,110,116] l with
  | .error e=> .error e
  | .ok r=>match dK r with
   | .error e=> .error e
   | .ok (s,r)=>match bF [44] r with
    |some r=>gL f (a++[s]) r
    |none=>match aV [41] r with
     | .error e=> .error e
     | .ok r=> .ok (a++[s],r)
def eU:Nat→List Bs→List Tk→PR (List Bs)
 |0,_,l=> .error (iF l)
 |f+1,a,l=>match bF [105,110,116] l with
  |none=> .ok (a,l)
  |some r=>match dK r with
   | .error e=> .error e
   | .ok (s,r)=>match aV [59] r with
    | .error e=> .error e
    | .ok r=>eU f (a++[s]) r
def dw(f:Nat)(s:Bs)(l:List Tk):PR Fu:=
 match(match bF [41] l with|some r=>(.ok ([],r):PR (List Bs))|none=>gL f [] l)with
 | .error e=> .error e
 | .ok (ps,r)=>match aV [123] r with
  | .error e=> .error e
  | .ok r=>match eU f [] r with
   | .error e=> .error e
   | .ok (ls,r)=>match cV f [] r with
    | .error e=> .error e
    | .ok (b,r)=> .ok (⟨s,ps,ls,b⟩,r)
def dd:Nat→Pr→List Tk→PR Pr
 |0,_,l=> .error (iF l)
 |f+1,p,l=>if(l.head?.map (·.kind)).getD 0=5 then .ok (p,l)else
  match aV [105,110,116] l with
  | .error e=> .error e
  | .ok r=>match dK r with
   | .error e=> .error e
   | .ok (s,r)=>match(if p.funcs.isEmpty=true then bF [91] r else none)with
    |some r=>(match gx 3 r with
     | .error e=> .error e
     | .ok (t,r)=>match aV [93] r with
      | .error e=> .error e
      | .ok r=>match aV [59] r with
       | .error e=> .error e
       | .ok r=>dd f {p with arrays:=p.arrays++[⟨s,t.num⟩]} r)
    |none=>match aV [40] r with
     | .error e=> .error e
     | .ok r=>match dw f s r with
      | .error e=> .error e
      | .ok (x,r)=>dd f {p with funcs:=p.funcs++[x]} r
theorem aQ {s:Bs}{t:Tk}{r:List Tk}(h:isP s t=true):bF s (t::r)=some r:=by
 show(if isP s t=true then some r else none)=some r
 rw[if_pos h]
theorem aH {s:Bs}{t:Tk}{r:List Tk}(h:isP s t=false):bF s (t::r)=none:=by
 show(if isP s t=true then some r else none)=none
 rw[if_neg (by rw[h];decide)]
theorem bR {s:Bs}{t:Tk}{r:List Tk}(h:isP s t=true):aV s (t::r)= .ok r:=by
 unfold aV;rw[aQ h]
theorem bW {s:Bs}{l r:List Tk}(h:bF s l=some r):r.length<l.length:=by
 cases l with
 |nil=>cases h
 |cons t l=>
  have h:(if isP s t=true then some l else none)=some r:=h;split at h
  ·injection h with h;subst h;simp
  ·cases h
theorem bC {s:Bs}{l r:List Tk}(h:aV s l= .ok r):r.length<l.length:=by
 unfold aV at h
 cases ht:bF s l with
 |none=>rw[ht]at h;cases h
 |some q=>rw[ht]at h;injection h with h;subst h;exact bW ht
theorem ou {k:Int}{l r:List Tk}{t:Tk}(h:gx k l= .ok (t,r)):r.length<l.length:=by
 cases l with
 |nil=>cases h
 |cons u l=>
  have h:(if u.kind=k then Except.ok (u,l)else Except.error u.line)= .ok (t,r):=h;split at h
  ·injection h with h;injection h with h1 h2;subst h2;simp
  ·cases h
theorem fD {l r:List Tk}{s:Bs}(h:dK l= .ok (s,r)):r.length<l.length:=by
 unfold dK at h
 cases hk:gx 1 l with
 |error e=>rw[hk]at h;cases h
 |ok q=>
  obtain⟨t,q⟩:=q;rw[hk]at h;injection h with h;injection h with h1 h2;subst h2
  exact ou hk
theorem tn {l r:List Tk}{op:Int}(h:dR l=some (op,r)):r.length<l.length:=by
 unfold dR at h
 cases h1:bF (aU 17) l with
 |some q=>rw[h1]at h;injection h with h;injection h with _ h;subst h;exact bW h1
 |none=>
  rw[h1]at h;dsimp only at h
  cases h2:bF (aU 18) l with
  |some q=>rw[h2]at h;injection h with h;injection h with _ h;subst h;exact bW h2
  |none=>
   rw[h2]at h;dsimp only at h
   cases h3:bF (aU 19) l with
   |some q=>rw[h3]at h;injection h with h;injection h with _ h;subst h;exact bW h3
   |none=>rw[h3]at h;cases h
theorem dM:∀f:Nat,
  (∀lv l x r,ar f lv l= .ok (x,r)→r.length<l.length)∧(∀lv y l x r,fs f lv y l= .ok (x,r)→r.length≤l.length)∧(∀l x r,bH f l= .ok (x,r)→r.length<l.length)∧
  (∀s l x r,cQ f s l= .ok (x,r)→r.length≤l.length)∧(∀l x r,eP f l= .ok (x,r)→r.length<l.length)∧(∀a l x r,fi f a l= .ok (x,r)→r.length<l.length)
 |0=>⟨fun lv l x r h=>(by cases h),fun lv y l x r h=>(by cases h),fun l x r h=>(by cases h),fun s l x r h=>(by cases h),fun l x r h=>(by cases h),fun a l x r h=>(by cases h)⟩
 |f+1=>by
  obtain⟨ic,il,it,inm,ia,im⟩:=dM f;refine⟨?_,?_,?_,?_,?_,?_⟩
  ·intro lv l x r h
   unfold ar at h
   cases ht:bH f l with
   |error e=>rw[ht]at h;cases h
   |ok q=>
    obtain⟨y,q⟩:=q;rw[ht]at h;have h1:=it _ _ _ ht;have h2:=il _ _ _ _ _ h;omega
  ·intro lv y l x r h
   unfold fs at h;split at h
   ·injection h with h;injection h with _ h;subst h;exact Nat.le_refl _
   ·cases hc:ar f (aP (cJ lv l)+1) (l.drop 1)with
    |error e=>rw[hc]at h;cases h
    |ok q=>
     obtain⟨z,q⟩:=q;rw[hc]at h;have h1:=ic _ _ _ _ hc;have h2:=il _ _ _ _ _ h;rw[List.length_drop]at h1;omega
  ·intro l x r h
   unfold bH at h
   cases hu:dR l with
   |some q=>
    obtain⟨op,q⟩:=q;rw[hu]at h;dsimp only at h;have h0:=tn hu
    cases ht:bH f q with
    |error e=>rw[ht]at h;cases h
    |ok z=>
     obtain⟨y,z⟩:=z;rw[ht]at h;injection h with h;injection h with _ h;subst h
     have:=it _ _ _ ht;omega
   |none=>
    rw[hu]at h;dsimp only at h
    cases h1:bF [40] l with
    |some q=>
     rw[h1]at h;dsimp only at h;have h0:=bW h1
     cases hc:ar f 1 q with
     |error e=>rw[hc]at h;cases h
     |ok z=>
      obtain⟨y,z⟩:=z;rw[hc]at h;dsimp only at h;have h2:=ic _ _ _ _ hc
      cases hw:aV [41] z with
      |error e=>rw[hw]at h;cases h
      |ok v=>
       rw[hw]at h;injection h with h;injection h with _ h;subst h
       have:=bC hw;omega
    |none=>
     rw[h1]at h;dsimp only at h
     cases h2:bF [114,101,97,100] l with
     |some q=>
      rw[h2]at h;dsimp only at h;have h0:=bW h2
      cases hw:aV [40] q with
      |error e=>rw[hw]at h;cases h
      |ok v=>
       rw[hw]at h;dsimp only at h;have h3:=bC hw
       cases hz:aV [41] v with
       |error e=>rw[hz]at h;cases h
       |ok z=>
        rw[hz]at h;injection h with h;injection h with _ h;subst h
        have:=bC hz;omega
     |none=>
      rw[h2]at h;dsimp only at h
      cases l with
      |nil=>cases h
      |cons t l=>
       dsimp only at h;split at h
       ·injection h with h;injection h with _ h;subst h;simp
       ·split at h
        ·have:=inm _ _ _ _ h;simp;omega
        ·cases h
  ·intro s l x r h
   unfold cQ at h
   cases h1:bF [40] l with
   |some q=>
    rw[h1]at h;dsimp only at h;have h0:=bW h1
    cases ha:eP f q with
    |error e=>rw[ha]at h;cases h
    |ok z=>
     obtain⟨y,z⟩:=z;rw[ha]at h;injection h with h;injection h with _ h;subst h
     have:=ia _ _ _ ha;omega
   |none=>
    rw[h1]at h;dsimp only at h
    cases h2:bF [91] l with
    |some q=>
     rw[h2]at h;dsimp only at h;have h0:=bW h2
     cases hc:ar f 1 q with
     |error e=>rw[hc]at h;cases h
     |ok z=>
      obtain⟨y,z⟩:=z;rw[hc]at h;dsimp only at h;have h3:=ic _ _ _ _ hc
      cases hw:aV [93] z with
      |error e=>rw[hw]at h;cases h
      |ok v=>
       rw[hw]at h;injection h with h;injection h with _ h;subst h
       have:=bC hw;omega
    |none=>
     rw[h2]at h;injection h with h;injection h with _ h;subst h;exact Nat.le_refl _
  ·intro l x r h
   unfold eP at h
   cases h1:bF [41] l with
   |some q=>
    rw[h1]at h;injection h with h;injection h with _ h;subst h
    exact bW h1
   |none=>rw[h1]at h;exact im _ _ _ _ h
  ·intro a l x r h
   unfold fi at h
   cases hc:ar f 1 l with
   |error e=>rw[hc]at h;cases h
   |ok z=>
    obtain⟨y,z⟩:=z;rw[hc]at h;dsimp only at h;have h3:=ic _ _ _ _ hc
    cases h2:bF [44] z with
    |some q=>
     rw[h2]at h;have h0:=bW h2;have:=im _ _ _ _ h;omega
    |none=>
     rw[h2]at h;dsimp only at h
     cases hw:aV [41] z with
     |error e=>rw[hw]at h;cases h
     |ok v=>
      rw[hw]at h;injection h with h;injection h with _ h;subst h
      have:=bC hw;omega
def ir(w:World)(tb:Nat):Nat→List Tk→Prop
 |_,[]=>True
 |o,t::l=>w.cell? ⟨tb,o,none⟩=some (.int .i64 t.kind)∧w.cell? ⟨tb,o+1,none⟩=some (.string (aB t.text))∧w.cell? ⟨tb,o+2,none⟩=some (.int .i64 t.num)∧w.cell? ⟨tb,o+3,none⟩=some (.int .i64 t.line)∧ir w tb (o+4) l
theorem ir.keep {w w':World}{tb:Nat}(hk:cd (· =tb) w w'):∀ {l:List Tk} {o:Nat},ir w tb o l→ir w' tb o l
 |[],_,_=>trivial
 |t::l,o,h=>⟨hk _ _ _ rfl h.1,hk _ _ _ rfl h.2.1,hk _ _ _ rfl h.2.2.1,hk _ _ _ rfl h.2.2.2.1,ir.keep hk h.2.2.2.2⟩
def gE:List Tk→Prop
 |[]=>False
 |[t]=>t.kind=5
 |_::u::r=>gE (u::r)
theorem gE.tail {t:Tk}{r:List Tk}(h:gE (t::r))(hk:t.kind≠5):gE r:=by
 cases r with
 |nil=>exact absurd h hk
 |cons u r=>exact h
theorem gE.ne {l:List Tk}(h:gE l):∃t r,l=t::r:=by
 cases l with
 |nil=>exact h.elim
 |cons t r=>exact⟨t,r,rfl⟩
theorem sV {s:Bs}{t:Tk}(h:isP s t=true):t.kind≠5:=by
 intro e;unfold isP at h;rw[e]at h;simp at h
structure qI (w:World)(p tb o cap:Nat)(l:List Tk):Prop where
 own:aG w p [.slice (some ⟨tb,o,none⟩) l.length cap] 113
 row:ir w tb o l
 hcap:l.length≤cap
 fit:l.length≤1000000
 lt:tb<p
 ends:gE l
 nums:∀t,t∈l→I64 t.num
def Ps(w:World)(p tb:Nat)(l:List Tk):Prop:= ∃o cap,qI w p tb o cap l
theorem qI.old {w w':World}{p tb o cap:Nat}{l:List Tk}(h:qI w p tb o cap l)(hb:Below w.heap.size w w'):qI w' p tb o cap l:=
 ⟨h.own.old hb,h.row.keep (aw hb),h.hcap,h.fit,h.lt,h.ends,h.nums⟩
theorem Ps.old {w w':World}{p tb:Nat}{l:List Tk}(h:Ps w p tb l)(hb:Below w.heap.size w w'):Ps w' p tb l:=by
 obtain⟨o,cap,h⟩:=h;exact⟨o,cap,h.old hb⟩
theorem Ps.alloc {w:World}{p tb:Nat}{l:List Tk}(h:Ps w p tb l)(x:Obj):Ps (w.alloc x) p tb l:=h.old (bA)
theorem qI.other {w:World}{p tb o cap:Nat}{l:List Tk}(h:qI w p tb o cap l){k:Nat}(hk:p<k)(i:Nat)(v:Value):qI (w.setCell ⟨k,i,none⟩ v) p tb o cap l:=
 ⟨h.own.other (Nat.ne_of_lt hk) i v,h.row.keep (aN w (by have:=h.lt;show ¬k=tb;omega) i v),h.hcap,h.fit,h.lt,h.ends,h.nums⟩
theorem Ps.other {w:World}{p tb:Nat}{l:List Tk}(h:Ps w p tb l){k:Nat}(hk:p<k)(i:Nat)(v:Value):Ps (w.setCell ⟨k,i,none⟩ v) p tb l:=by
 obtain⟨o,cap,h⟩:=h;exact⟨o,cap,h.other hk i v⟩
theorem Ps.lt {w:World}{p tb:Nat}{l:List Tk}(h:Ps w p tb l):p<w.heap.size:=by
 obtain⟨o,cap,h⟩:=h;exact h.own.lt
theorem Ps.ends {w:World}{p tb:Nat}{l:List Tk}(h:Ps w p tb l):gE l:=by
 obtain⟨o,cap,h⟩:=h;exact h.ends
theorem Ps.nums {w:World}{p tb:Nat}{l:List Tk}(h:Ps w p tb l):∀t,t∈l→I64 t.num:=by
 obtain⟨o,cap,h⟩:=h;exact h.nums
theorem qI.take {w:World}{p tb o cap:Nat}{t:Tk}{r:List Tk}(h:qI w p tb o cap (t::r))(hk:t.kind≠5):
  Ps (w.setCell ⟨p,0,none⟩ (.slice (some ⟨tb,o+4,none⟩) r.length (cap - 1))) p tb r∧SFr p w (w.setCell ⟨p,0,none⟩ (.slice (some ⟨tb,o+4,none⟩) r.length (cap - 1))):=by
 have hc:=h.hcap;have hf:=h.fit;have hl:=h.lt;rw[List.length_cons]at hc hf;refine⟨⟨o+4,cap - 1,?_,?_,by omega,by omega,hl,h.ends.tail hk,fun x hx=>h.nums x (List.mem_cons_of_mem _ hx)⟩,⟨rfl,rfl,rfl,by simp [World.setCell],fun k _ hk=>Below.heap_setCell _ _ _ _ hk⟩⟩
 ·exact h.own.set 0 _
 ·exact ir.keep (aN w (by show ¬p=tb;omega) 0 _) h.row.2.2.2.2
def tkV(t:Tk):Value:= .agg #[.int .i64 t.kind,.string (aB t.text),.int .i64 t.num,.int .i64 t.line]
def az(n:Int):Ending:= .panicked [{v:= .iface 110 (.agg #[.int .i64 n]),recovered:=false}]
def eH {α:Type}(H:α→Value→World→Prop)(w:World)(p tb:Nat)(r:PR α)(e:Ending)(w':World):Prop:=
 SFr p w w'∧match r with
  | .ok (x,l)=> ∃v,e= .returned v∧Ps w' p tb l∧H x v w'
  | .error n=>e=az n
theorem eI(p tb:Nat)(t:Tk)(r:List Tk)(w:World)(h:Ps w p tb (t::r)):
  Calls Tryz.prog 58 #[.pointer (some ⟨p,0,none⟩)] w fun e w'=>e= .returned (tkV t)∧Below w.heap.size w w':=by
 obtain⟨o,cap,h⟩:=h;have hb1:Below w.heap.size w (w.alloc (.cells #[.int .i64 0,.string ⟨#[]⟩,.int .i64 0,.int .i64 0] 50)):=bA;have h1:=h.old hb1;have c0:=h1.own.at 0 _ rfl;obtain⟨r0,r1,r2,r3,_⟩:=h1.row;have hpl:=h.own.lt;have hcap:=h.hcap;have htl:=h.lt;have hn0:(0:Int)<((t::r).length:Int):=by rw[List.length_cons];omega
 have hn1:0<(t::r).length:=by simp
 clear h h1 hb1;generalize (t::r).length=n at*;go_enter Tryz.func58,Tryz.ntmps58
 go_wp2_with fail
 exact bodyPost_ret (v:=tkV t) (by simp [tkV,results,Tryz.results58,go_sem]) rfl ⟨rfl,bA⟩
@[go_sem] theorem field_tk0 (a b c d:Value) (w:World):(Instr.field 50 (.agg #[a,b,c,d]) 0).run Tryz.prog w= .ok a w:=by kernel_rfl
@[go_sem] theorem field_tk1 (a b c d:Value) (w:World):(Instr.field 50 (.agg #[a,b,c,d]) 1).run Tryz.prog w= .ok b w:=by kernel_rfl
@[go_sem] theorem field_tk3 (a b c d:Value) (w:World):(Instr.field 50 (.agg #[a,b,c,d]) 3).run Tryz.prog w= .ok d w:=by kernel_rfl
theorem fy(p tb:Nat)(t:Tk)(r:List Tk)(w:World)(h:Ps w p tb (t::r)):
  Calls Tryz.prog 59 #[.pointer (some ⟨p,0,none⟩)] w fun e w'=>e=az t.line∧Below w.heap.size w w':=by
 have HN:=Lib.hid (eI p tb t r w h);clear h;go_enter Tryz.func59,Tryz.ntmps59
 go_wp2_with fail
 refine HN.out.mono ?_;rintro e w1 ⟨rfl,hb⟩;unfold tkV;have HB:=Lib.hid hb;clear hb;go_wp2_with fail
 exact⟨rfl,rfl,HB.out⟩
end Go.Proofs.YtcfpfnoldgnloaaGreatDoor

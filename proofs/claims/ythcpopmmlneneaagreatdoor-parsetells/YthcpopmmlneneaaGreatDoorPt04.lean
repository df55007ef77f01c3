/-
  scope.call: a raw call. Conditions: the source and the scope lie in memory as the types say.
-/
import Derived.Test.YthcpopmmlneneaaGreatDoorPt01
import Derived.Test.YthcpopmmlneneaaGreatDoorPt02
import Derived.IntWalk
set_option linter.unusedVariables false
set_option linter.unusedSimpArgs false
namespace Go.Proofs.YthcpopmmlneneaaGreatDoor
open Go.RowKit Go.Proofs.Tryz
set_option maxHeartbeats 20000000
set_option maxRecDepth 100000
open Go.RowKit renaming Hid→Zq,Below→Zu
open Go renaming World→Zr,Calls→Zs,Addr→Zt,bodyPost_ret→Zv
open Go.Proofs.Tryz renaming prog→Za,results26→Zf
open Go.Lib renaming hid→Zb
open SFr renaming of_below→Zc
open Nat renaming le_trans→Zd
open Ad renaming new→Ze
open List renaming all_eq_true→Zg,mem_singleton→Zh,mem_cons→Zi,not_mem_nil→Zm
open Go.RowKit.Below renaming refl→Zj
open Ag renaming zero→Zk
open IntWalk renaming i64_in→Zl
open Int renaming tmod_eq_emod_of_nonneg→Zn,eq_ofNat_of_zero_le→Zp
open World renaming cell?_of_block→Zo
def Hp(c n:Int):Int:=(if c<0 then -(c+1)else c) % n
theorem Ni(c n:Int)(a:0<n):0≤Hp c n∧Hp c n<n:=⟨Int.emod_nonneg _ (by omega),Int.emod_lt_of_pos _ a⟩
def Ab(raw:List Int)(a:Nat)(n:Int):Int ×Nat:=if raw.length≤a then(0,a)else(Hp (raw.getD a 0) n,a+1)
theorem Am(raw:List Int)(a:Nat)(n:Int)(b:0<n):0≤(Ab raw a n).1∧(Ab raw a n).1<n:=by
 unfold Ab;split
 ·exact⟨Int.le_refl _,b⟩
 ·exact Ni _ _ b
theorem tA(raw:List Int)(a:Nat)(n:Int)(b:a≤raw.length):(Ab raw a n).2≤raw.length:=by
 unfold Ab;split
 ·exact b
 ·show a+1≤_;omega
def lX:List Bs:=[[],[49],[95],[90,57],[105,102],[120],[48],[97,97],[105,110,116,105,110,116],[113,55],[66],[48,48]]
def Kf(c:Int):Bs:=UInt8.ofNat (97+(Hp c 312 % 26).toNat)::lX.getD (Hp c 312 / 26).toNat []
theorem var_all:∀k:Fin 312,Ak (UInt8.ofNat (97+(k.val % 26))::lX.getD (k.val / 26) [])=true:=by decide+kernel
theorem Ja(c:Int):Ak (Kf c)=true:=by
 have d:=Ni c 312 (by decide);have q:=var_all ⟨(Hp c 312).toNat,by omega⟩;unfold Kf;have a:(Hp c 312 % 26).toNat=(Hp c 312).toNat % 26:=by omega
 have b:(Hp c 312 / 26).toNat=(Hp c 312).toNat / 26:=by omega
 rw[a,b];exact q
structure Sc where
 vars:List Bs
 arrays:List Ar
 funcs:List Fu
 free:Bool
 loop:Bool
def Gn(b:Bool)(l:List Bs)(raw:List Int)(a:Nat):Bs ×Nat:=
 if b||l.isEmpty then(Kf (Ab raw a 312).1,(Ab raw a 312).2)else(l.getD (Ab raw a l.length).1.toNat [],(Ab raw a l.length).2)
def Cq(b:Bool)(l:List Ar)(raw:List Int)(a:Nat):Ar ×Nat:=
 if b||l.isEmpty then(⟨Kf (Ab raw a 312).1,1+(Ab raw (Ab raw a 312).2 1000).1⟩,(Ab raw (Ab raw a 312).2 1000).2)else(Em l (Ab raw a l.length).1.toNat,(Ab raw a l.length).2)
def Eu(n j:Int):Int:=
 if j=0 then 0 else if j=1 then 1 else if j=2 then 2 else if j=3 then 3 else if j=4 then n else if j=5 then n*n else if j=6 then 2 ^ (n % 63).toNat else 9223372036854775807
def Ej(g:Nat→Ex ×Nat):Nat→Nat→List Ex ×Nat
 |0,a=>([],a)
 |c+1,a=>((Ej g c a).1++[(g (Ej g c a).2).1],(g (Ej g c a).2).2)
def Hu(sc:Sc)(raw:List Int)(g:Nat→Ex ×Nat)(a:Nat):Ex ×Nat:=
 if sc.free||sc.funcs.isEmpty then
  let r:=Ab raw a 312;let q:=Ab raw r.2 7;let m:=Ej g q.1.toNat q.2
  (.mk 5 0 0 (Kf r.1) m.1,m.2)
 else
  let r:=Ab raw a sc.funcs.length;let f:=Bc sc.funcs r.1.toNat;let m:=Ej g f.params.length r.2
  (.mk 5 0 0 f.name m.1,m.2)
def Sc.hasVars(sc:Sc):Bool:= !sc.vars.isEmpty||sc.free
def Sc.hasArrays(sc:Sc):Bool:= !sc.arrays.isEmpty||sc.free
def Sc.hasFuncs(sc:Sc):Bool:= !sc.funcs.isEmpty||sc.free
def gK(raw:List Int)(d a:Nat):Int:=if d<2 then(Ab raw a 12).1 % 4 else(Ab raw a 12).1
def Dg(sc:Sc)(raw:List Int)(g:Nat→Ex ×Nat)(k:Int)(a:Nat):Ex ×Nat:=
 if(k=1∨k=2)∧sc.hasVars=true then
  let n:=Gn sc.free sc.vars raw a
  (.mk 2 0 0 n.1 [],n.2)
 else if k=3∧(Ab raw a 3).1=2 then(.mk 7 0 0 [] [],(Ab raw a 3).2)
 else if k<4 then
  let b:=if k=3 then(Ab raw a 3).2 else a
  let n:=Ab raw b 1000;let j:=Ab raw n.2 8
  (.mk 1 0 (Eu n.1 j.1) [] [],j.2)
 else if k=4 then
  let o:=Ab raw a 3;let x:=g o.2
  (.mk 3 (17+o.1) 0 [] [x.1],x.2)
 else if k=5∧sc.hasArrays=true then
  let n:=Cq sc.free sc.arrays raw a;let x:=g n.2
  (.mk 6 0 0 n.1.name [x.1],x.2)
 else if k=6∧sc.hasFuncs=true then Hu sc raw g a
 else
  let o:=Ab raw a 16;let x:=g o.2;let y:=g x.2
  (.mk 4 (1+o.1) 0 [] [x.1,y.1],y.2)
def Px(sc:Sc)(raw:List Int)(d:Nat)(g:Nat→Ex ×Nat)(a:Nat):Ex ×Nat:=Dg sc raw g (gK raw d a) (Ab raw a 12).2
def Aw(sc:Sc)(raw:List Int):Nat→Nat→Ex ×Nat
 |0=>Px sc raw 0 (fun a=>(Ex.nil,a))
 |d+1=>Px sc raw (d+1) (Aw sc raw d)
structure Sc.Ok (sc:Sc):Prop where
 vars:∀x,x∈sc.vars→Ak x=true
 arrays:∀x,x∈sc.arrays→Ak x.name=true
 funcs:∀x,x∈sc.funcs→Ak x.name=true∧x.params.length≤6
theorem pB {α:Type}{l:List α}{d:α}{i:Nat}(a:i<l.length):l.getD i d∈l:=by
 rw[List.getD_eq_getElem?_getD,List.getElem?_eq_getElem a];exact List.getElem_mem a
theorem dY {α:Type}{l:List α}{b:Bool}(a:¬(b||l.isEmpty)=true):0<l.length:=by
 cases l with
 |nil=>simp at a
 |cons x l=>simp
theorem Oo {sc:Sc}(b:sc.Ok)(raw:List Int)(a:Nat):Ak (Gn sc.free sc.vars raw a).1=true:=by
 unfold Gn;split
 ·exact Ja _
 ·rename_i c
  have d:=dY c;have:=Am raw a sc.vars.length (by omega);exact b.vars _ (pB (by omega))
theorem Nb {sc:Sc}(b:sc.Ok)(raw:List Int)(a:Nat):Ak (Cq sc.free sc.arrays raw a).1.name=true:=by
 unfold Cq;split
 ·exact Ja _
 ·rename_i c
  have d:=dY c;have:=Am raw a sc.arrays.length (by omega);exact b.arrays _ (pB (by omega))
def Nu(d:Nat)(e:Ex):Prop:=Ic (max d 1) e=true∧Cc e=true
theorem Im(g:Nat→Ex ×Nat):∀c a,(Ej g c a).1.length=c
 |0,a=>rfl
 |c+1,a=>by rw[Ej];simp [Im g c a]
theorem Kj(g:Nat→Ex ×Nat)(P:Ex→Prop)(d:∀a,P (g a).1):∀c a,∀x,x∈(Ej g c a).1→P x
 |0,a,x,hx=>by cases hx
 |c+1,a,x,hx=>by
  rw[Ej]at hx;rcases List.mem_append.1 hx with b|b
  ·exact Kj g P d c a x b
  ·rw[Zh.1 b];exact d _
theorem Nd {d:Nat}{k c n:Int}{nm:Bs}{args:List Ex}(f:Cl (.mk k c n nm args)=true)(a:∀x,x∈args→Nu d x)(b:args=[]∨1≤d):Nu (d+1) (.mk k c n nm args):=by
 refine⟨?_,?_⟩
 ·rw[show max (d+1) 1=d+1 by omega]
  show args.all (Ic d)=true
  rw[Zg];intro x hx;have e:=(a x hx).1;rcases b with rfl|b
  ·cases hx
  ·rwa[show max d 1=d by omega]at e
 ·rw[Lh,f,Bool.true_and,Zg]
  exact fun x hx=>(a x hx).2
theorem Td {d:Nat}{k b n:Int}{nm:Bs}(c:Cl (.mk k b n nm [])=true):Nu d (.mk k b n nm []):=by
 refine⟨?_,?_⟩
 ·obtain⟨a,e⟩:∃a,max d 1=a+1:=⟨max d 1-1,by omega⟩
  rw[e];rfl
 ·rw[Lh,c,Bool.true_and];rfl
theorem Mb(n j:Int)(a:0≤n∧n<1000):0≤Eu n j∧Eu n j≤9223372036854775807:=by
 unfold Eu
 repeat' split
 all_goals try omega
 ·constructor
  ·exact Int.mul_nonneg a.1 a.1
  ·have:n*n≤999*999:=Int.mul_le_mul (by omega) (by omega) (by omega) (by omega)
   omega
 ·have b:(n % 63).toNat≤62:=by omega
  have c:(2:Nat) ^ (n % 63).toNat≤2 ^ 62:=Nat.pow_le_pow_right (by decide) b;have d:((2:Int) ^ (n % 63).toNat)=((2 ^ (n % 63).toNat:Nat):Int):=by simp
  rw[d];constructor
  ·exact Int.natCast_nonneg _
  ·have:(2:Nat) ^ 62≤9223372036854775807:=by decide
   exact Int.ofNat_le.2 (Zd c this)
theorem eO:∀i:Fin 16,0<Ao (1+(i.val:Int)):=by decide+kernel
theorem yC{a:Int}(b:0≤a∧a<16):0<Ao (1+a):=by
 have:=eO ⟨a.toNat,by omega⟩;simpa only[Int.toNat_of_nonneg b.1]using this
theorem fL {sc:Sc}(j:sc.Ok)(raw:List Int)(d:Nat){g:Nat→Ex ×Nat}{k:Int}(b:4≤k→1≤d∧∀a,Nu d (g a).1){a:Nat}:Nu (d+1) (Dg sc raw g k a).1:=by
 unfold Dg;split
 ·refine Td ?_
  have:=Oo j raw a;simp [Cl,Gr,Iq,Lb,Ez,De,Ex.kind,Ex.op,Ex.n,Ex.name,Ex.args,this]
 split
 ·exact Td (by decide)
 split
 ·refine Td ?_
  have l:=Am raw (if k=3 then(Ab raw a 3).2 else a) 1000 (by decide);have m:=(Mb _ (Ab raw (Ab raw (if k=3 then(Ab raw a 3).2 else a) 1000).2 8).1 l).1;simp only[Cl,Gr,Iq,Lb,Ez,De,Ex.kind,Ex.op,Ex.n,Ex.name,Ex.args];simp [m]
 rename_i l m p;obtain⟨b,c⟩:=b (by omega);split
 ·refine Nd ?_ (fun x hx=>by rw[Zh.1 hx];exact c _) (.inr b)
  have:=Am raw a 3 (by decide);have e:17+(Ab raw a 3).1=17∨17+(Ab raw a 3).1=18∨17+(Ab raw a 3).1=19:=by omega
  simp only[Cl,Gr,Iq,Lb,Ez,De,Ex.kind,Ex.op,Ex.n,Ex.name,Ex.args];simp [e]
 split
 ·refine Nd ?_ (fun x hx=>by rw[Zh.1 hx];exact c _) (.inr b)
  have:=Nb j raw a;simp [Cl,Gr,Iq,Lb,Ez,De,Ex.kind,Ex.op,Ex.n,Ex.name,Ex.args,this]
 split
 ·unfold Hu
  split
  ·refine Nd ?_ (Kj g _ c _ _) (.inr b)
   have q:=Am raw (Ab raw a 312).2 7 (by decide);have h:=Ja (Ab raw a 312).1;simp only[Cl,Gr,Iq,Lb,Ez,De,Ex.kind,Ex.op,Ex.n,Ex.name,Ex.args,Im];simp [h];omega
  ·rename_i h
   have r:=dY h;have s:=Am raw a sc.funcs.length (by omega);have o:Ak (Bc sc.funcs (Ab raw a sc.funcs.length).1.toNat).name=true∧(Bc sc.funcs (Ab raw a sc.funcs.length).1.toNat).params.length≤6:=j.funcs _ (pB (d:=Fu.nil) (i:=(Ab raw a sc.funcs.length).1.toNat) (by omega));dsimp only;generalize Bc sc.funcs (Ab raw a sc.funcs.length).1.toNat=f at o ⊢;refine Nd ?_ (Kj g _ c _ _) (.inr b);simp only[Cl,Gr,Iq,Lb,Ez,De,Ex.kind,Ex.op,Ex.n,Ex.name,Ex.args,Im];simp only[o.1];simp;omega
 ·refine Nd ?_ (fun x hx=>?_) (.inr b)
  ·have:=yC (Am raw a 16 (by decide))
   simp only[Cl,Gr,Iq,Lb,Ez,De,Ex.kind,Ex.op,Ex.n,Ex.name,Ex.args];simp [this]
  ·rcases Zi.1 hx with rfl|hx
   ·exact c _
   ·rw[Zh.1 hx];exact c _
theorem dT(raw:List Int)(d a:Nat)(b:d<2):gK raw d a<4:=by
 unfold gK;rw[if_pos b];have:=Am raw a 12 (by decide);omega
theorem Wn {sc:Sc}(c:sc.Ok)(raw:List Int):∀d a,Nu d (Aw sc raw d a).1
 |0,a=>by
  rw[Aw];unfold Px;exact fL c raw 0 (fun f=>by have:=dT raw 0 a (by omega);omega)
 |d+1,a=>by
  rw[Aw];unfold Px;refine fL c raw d (fun f=>⟨?_,fun b=>Wn c raw d b⟩);rcases Nat.lt_or_ge (d+1) 2 with e|e
  ·have:=dT raw (d+1) a e;omega
  ·omega
def Cj(sc:Sc)(raw:List Int)(gs gl:Nat→List St ×Nat)(k:Int)(a:Nat):St ×Nat:=
 if k<4∧sc.hasVars=true then
  let n:=Gn sc.free sc.vars raw a
  (.mk 1 n.1 [] [] [],n.2)
 else if k=4∧sc.hasArrays=true then
  let n:=Cq sc.free sc.arrays raw a;let e:=Aw sc raw 3 n.2
  (.mk 2 n.1.name [e.1] [] [],e.2)
 else if k=5∧sc.hasFuncs=true then
  let c:=Hu sc raw (Aw sc raw 2) a
  (.mk 10 [] [c.1] [] [],c.2)
 else if k=6∧(Ab raw a 3).1=2 then
  let j:=Ab raw (Ab raw a 3).2 2
  (.mk (if j.1=0 then 7 else 9) [] [] [] [],j.2)
 else if k=7∨k=8 then
  let e:=Aw sc raw 3 a;let t:=gs e.2;let u:=gs t.2
  (.mk 3 [] [e.1] t.1 u.1,u.2)
 else if k=9∨k=10 then
  let e:=Aw sc raw 3 a;let t:=gl e.2
  (.mk 4 [] [e.1] t.1 [],t.2)
 else if k=11∧(sc.loop||sc.free)=true∧(Ab raw a 2).1=1 then
  let j:=Ab raw (Ab raw a 2).2 2
  (.mk (if j.1=0 then 5 else 6) [] [] [] [],j.2)
 else(.mk 8 [] [] [] [],if k=6 then(Ab raw a 3).2 else if k=11∧(sc.loop||sc.free)=true then(Ab raw a 2).2 else a)
def Df(k:Int):Nat:=if k=2 then 2 else if k=5∨k=6 then 0 else 1
def Kv(sc:Sc)(raw:List Int)(x:St)(a:Nat):St ×Nat:=
 if x.args.length<Df x.kind then(.mk x.kind x.name (x.args++[(Aw sc raw 4 a).1]) x.thn x.els,(Aw sc raw 4 a).2)else(x,a)
def Th(raw:List Int)(d a:Nat):Int:=if d<2∧7≤(Ab raw a 14).1∧(Ab raw a 14).1<11 then 0 else(Ab raw a 14).1
def gSt(sc:Sc)(raw:List Int)(gs gl:Nat→List St ×Nat)(d:Nat)(a:Nat):St ×Nat:=
 let h:=Cj sc raw gs gl (Th raw d a) (Ab raw a 14).2
 Kv sc raw h.1 h.2
def Ir(b:Nat→St ×Nat):Nat→Nat→List St ×Nat
 |0,a=>([],a)
 |c+1,a=>((Ir b c a).1++[(b (Ir b c a).2).1],(b (Ir b c a).2).2)
def Sc.inLoop(sc:Sc):Sc:=⟨sc.vars,sc.arrays,sc.funcs,sc.free,true⟩
def Gt(raw:List Int):Nat→Sc→Nat→List St ×Nat
 |0,sc,a=>Ir (gSt sc raw (fun a=>([],a)) (fun a=>([],a)) 0) (Ab raw a 5).1.toNat (Ab raw a 5).2
 |d+1,sc,a=>Ir (gSt sc raw (Gt raw d sc) (Gt raw d sc.inLoop) (d+1)) (Ab raw a 5).1.toNat (Ab raw a 5).2
theorem Ts:∀(a n:Nat) (e:Ex),a≤n→Ic a e=true→Ic n e=true
 |0,_,_,_,b=>by cases b
 |a+1,0,e,hmn,_=>by omega
 |a+1,n+1,e,hmn,b=>by
  have b:e.args.all (Ic a)=true:=b;show e.args.all (Ic n)=true
  rw[Zg]at*;exact fun x hx=>Ts a n x (by omega) (b x hx)
theorem Wj {d:Nat}{e:Ex}(b:d≤40)(a:Nu d e):Cf e=true:=by
 unfold Cf;rw[Ts _ _ _ (by omega) a.1,a.2];rfl
theorem kW {sc:Sc}(j:sc.Ok)(raw:List Int)(d:Nat)(c:1≤d)(g:Nat→Ex ×Nat)(h:∀a,Nu d (g a).1)(a:Nat):Nu (d+1) (Hu sc raw g a).1∧(Hu sc raw g a).1.kind=5:=by
 unfold Hu;split
 ·refine⟨Nd ?_ (Kj g _ h _ _) (.inr c),rfl⟩
  have k:=Am raw (Ab raw a 312).2 7 (by decide);have b:=Ja (Ab raw a 312).1;simp only[Cl,Gr,Iq,Lb,Ez,De,Ex.kind,Ex.op,Ex.n,Ex.name,Ex.args,Im];simp [b];omega
 ·rename_i b
  have l:=dY b;have m:=Am raw a sc.funcs.length (by omega);have e:Ak (Bc sc.funcs (Ab raw a sc.funcs.length).1.toNat).name=true∧(Bc sc.funcs (Ab raw a sc.funcs.length).1.toNat).params.length≤6:=j.funcs _ (pB (d:=Fu.nil) (i:=(Ab raw a sc.funcs.length).1.toNat) (by omega));dsimp only;generalize Bc sc.funcs (Ab raw a sc.funcs.length).1.toNat=f at e ⊢;refine⟨Nd ?_ (Kj g _ h _ _) (.inr c),rfl⟩;simp only[Cl,Gr,Iq,Lb,Ez,De,Ex.kind,Ex.op,Ex.n,Ex.name,Ex.args,Im];simp only[e.1];simp;omega
theorem Kq {b:Nat}{k:Int}{nm:Bs}{args:List Ex}{thn els:List St}(o:1≤b)(e:fOk k=true)(f:(args.length:Int)=Ey k)(g:Ji k=true∨thn=[])(h:Jn k=true∨els=[])(i:En k=Ak nm)
  (j:En k=true∨nm=[]) (l:k≠10∨(args.headD (.mk 0 0 0 [] [])).kind=5) (m:∀x,x∈args→Cf x=true) (d:∀x,x∈thn→Dy (b-1) x=true) (c:∀x,x∈els→Dy (b-1) x=true):Dy b (.mk k nm args thn els)=true:=by
 obtain⟨n,rfl⟩:∃n,b=n+1:=⟨b-1,by omega⟩;rw[Nat.add_sub_cancel]at d c;simp only[Dy,Io,Nn,St.kind,St.args,St.thn,St.els,St.name,Bool.and_eq_true,Bool.not_eq_true',Bool.or_eq_false_iff,Bool.not_eq_false',Zg];refine⟨⟨⟨⟨⟨⟨⟨⟨e,?_⟩,?_⟩,?_⟩,?_⟩,⟨⟨?_,?_⟩,?_⟩⟩,m⟩,d⟩,c⟩
 ·simp;omega
 ·simpa using f
 ·rcases g with a|rfl
  ·simp [a]
  ·simp
 ·rcases h with a|rfl
  ·simp [a]
  ·simp
 ·simp [i]
 ·rcases j with a|rfl
  ·simp [a]
  ·simp
 ·rcases l with a|a
  ·simp [a]
  ·rw[a];simp
theorem Sc.Ok.inLoop {sc:Sc}(a:sc.Ok):sc.inLoop.Ok:=⟨a.vars,a.arrays,a.funcs⟩
theorem Pl(d:Nat→St ×Nat)(P:St→Prop)(e:∀a,P (d a).1):∀c a,∀x,x∈(Ir d c a).1→P x
 |0,a,x,hx=>by cases hx
 |c+1,a,x,hx=>by
  rw[Ir]at hx;rcases List.mem_append.1 hx with b|b
  ·exact Pl d P e c a x b
  ·rw[Zh.1 b];exact e _
theorem Mv(b:Nat→St ×Nat):∀c a,(Ir b c a).1.length=c
 |0,a=>rfl
 |c+1,a=>by rw[Ir];simp [Mv b c a]
theorem Lz {sc:Sc}(c:sc.Ok)(raw:List Int)(d a:Nat)(b:d≤40):Cf (Aw sc raw d a).1=true:=Wj b (Wn c raw d a)
theorem Lg(sc:Sc)(raw:List Int){k:Int}{nm:Bs}{args:List Ex}{t e:List St}(a:Nat)(b:args.length<Df k):Kv sc raw (.mk k nm args t e) a=(.mk k nm (args++[(Aw sc raw 4 a).1]) t e,(Aw sc raw 4 a).2):=if_pos b
theorem Lx(sc:Sc)(raw:List Int){k:Int}{nm:Bs}{args:List Ex}{t e:List St}(a:Nat)(b:¬args.length<Df k):Kv sc raw (.mk k nm args t e) a=(.mk k nm args t e,a):=if_neg b
theorem sM {sc:Sc}(g:sc.Ok)(raw:List Int){gs gl:Nat→List St ×Nat}(d:Nat)(i:Nat)(e:1≤i)(l:2≤d→∀a x,x∈(gs a).1→Dy (i-1) x=true)(m:2≤d→∀a x,x∈(gl a).1→Dy (i-1) x=true)(a:Nat):Dy i (gSt sc raw gs gl d a).1=true:=by
 unfold gSt;have f:∀k,Th raw d a=k→7≤k→k<11→2≤d:=by
  intro k f n o;unfold Th at f;split at f
  ·omega
  ·omega
 generalize Th raw d a=k at f;have f:=f k rfl;generalize (Ab raw a 14).2=b;dsimp only;have h:∀a,∀x,x∈[(Aw sc raw 4 a).1]→Cf x=true:=fun a x hx=>by rw[Zh.1 hx];exact Lz g raw 4 a (by omega)
 have j:∀a,∀x,x∈[(Aw sc raw 3 a).1]→Cf x=true:=fun a x hx=>by rw[Zh.1 hx];exact Lz g raw 3 a (by omega)
 have c:∀x:St,x∈([]:List St)→Dy (i-1) x=true:=fun x hx=>by cases hx
 unfold Cj;split
 ·have:=Oo g raw b
  dsimp only;rw[Lg _ _ _ (by simp [Df])];exact Kq e rfl rfl (.inr rfl) (.inr rfl) (by rw[this];rfl) (.inl rfl) (.inl (by decide)) (h _) c c
 split
 ·have:=Nb g raw b
  dsimp only;rw[Lg _ _ _ (by simp [Df])];exact Kq e rfl rfl (.inr rfl) (.inr rfl) (by rw[this];rfl) (.inl rfl) (.inl (by decide)) (fun x hx=>by
   rcases Zi.1 hx with rfl|hx
   ·exact Lz g raw 3 _ (by omega)
   ·exact h _ x hx) c c
 split
 ·have:=kW g raw 2 (by omega) (Aw sc raw 2) (Wn g raw 2) b
  dsimp only;rw[Lx _ _ _ (by simp [Df])];exact Kq e rfl rfl (.inr rfl) (.inr rfl) rfl (.inr rfl) (.inr this.2) (fun x hx=>by rw[Zh.1 hx];exact Wj (by omega) this.1) c c
 split
 ·dsimp only
  split
  ·rw[Lg _ _ _ (by simp [Df])]
   exact Kq e rfl rfl (.inr rfl) (.inr rfl) rfl (.inr rfl) (.inl (by decide)) (h _) c c
  ·rw[Lg _ _ _ (by simp [Df])]
   exact Kq e rfl rfl (.inr rfl) (.inr rfl) rfl (.inr rfl) (.inl (by decide)) (h _) c c
 split
 ·dsimp only
  rw[Lx _ _ _ (by simp [Df])];exact Kq e rfl rfl (.inl rfl) (.inl rfl) rfl (.inr rfl) (.inl (by decide)) (j _) (l (f (by omega) (by omega)) _) (l (f (by omega) (by omega)) _)
 split
 ·dsimp only
  rw[Lx _ _ _ (by simp [Df])];exact Kq e rfl rfl (.inl rfl) (.inr rfl) rfl (.inr rfl) (.inl (by decide)) (j _) (m (f (by omega) (by omega)) _) c
 split
 ·dsimp only
  split
  ·rw[Lx _ _ _ (by simp [Df])]
   exact Kq e rfl rfl (.inr rfl) (.inr rfl) rfl (.inr rfl) (.inl (by decide)) (fun x hx=>by cases hx) c c
  ·rw[Lx _ _ _ (by simp [Df])]
   exact Kq e rfl rfl (.inr rfl) (.inr rfl) rfl (.inr rfl) (.inl (by decide)) (fun x hx=>by cases hx) c c
 ·dsimp only
  rw[Lg _ _ _ (by simp [Df])];exact Kq e rfl rfl (.inr rfl) (.inr rfl) rfl (.inr rfl) (.inl (by decide)) (h _) c c
theorem Sl(raw:List Int):∀(d:Nat) (sc:Sc),sc.Ok→∀b,1≤b→d≤b→∀a x,x∈(Gt raw d sc a).1→Dy b x=true
 |0,sc,hs,b,hm,hd,a,x,hx=>by
  rw[Gt]at hx;exact Pl _ (fun x=>Dy b x=true) (sM hs raw 0 b hm (fun c=>by omega) (fun c=>by omega)) _ _ x hx
 |d+1,sc,hs,b,hm,hd,a,x,hx=>by
  rw[Gt]at hx;exact Pl _ (fun x=>Dy b x=true) (sM hs raw (d+1) b hm (fun c=>Sl raw d sc hs (b-1) (by omega) (by omega)) (fun c=>Sl raw d sc.inLoop hs.inLoop (b-1) (by omega) (by omega))) _ _ x hx
def Gf:List Bs:=[[97],[98],[99]]
def Fj:List Bs:=[[102],[103],[104]]
def Hw:List Bs:=[[112],[113],[114],[115],[116],[117]]
def Dp:List Bs:=[[120],[121],[122],[105],[107]]
def Ge:List Int:=[1,4,10,1000]
def Xj(b:Bool)(raw:List Int)(i:Nat)(a:Nat):Ar ×Nat:=
 if b then Cq true [] raw (Ab raw a 4).2 else(⟨Gf.getD i [],Ge.getD (Ab raw a 4).1.toNat 0⟩,(Ab raw a 4).2)
def Jg(b:Bool)(raw:List Int):Nat→Nat→List Ar ×Nat
 |0,a=>([],a)
 |i+1,a=>((Xj b raw (i+1) a).1::(Jg b raw i (Xj b raw (i+1) a).2).1,(Jg b raw i (Xj b raw (i+1) a).2).2)
def fT(raw:List Int)(i a:Nat):Fu ×Nat:=(⟨Fj.getD i [],Hw.take (Ab raw a 7).1.toNat,[],[]⟩,(Ab raw a 7).2)
def Iu(raw:List Int):Nat→Nat→List Fu ×Nat
 |0,a=>([],a)
 |i+1,a=>((fT raw (i+1) a).1::(Iu raw i (fT raw (i+1) a).2).1,(Iu raw i (fT raw (i+1) a).2).2)
def Pw(raw:List Int)(sc:Sc)(f:Fu)(a:Nat):Fu ×Nat:=
 let l:=Dp.take (Ab raw a 6).1.toNat
 let b:=Gt raw 4 ⟨f.params++l,sc.arrays,sc.funcs,sc.free,false⟩ (Ab raw a 6).2
 (⟨f.name,f.params,l,b.1⟩,b.2)
def Dk(raw:List Int)(sc:Sc):List Fu→Nat→List Fu ×Nat
 |[],a=>([],a)
 |f::l,a=>((Pw raw sc f a).1::(Dk raw sc l (Pw raw sc f a).2).1,(Dk raw sc l (Pw raw sc f a).2).2)
def Lc:Fu:=⟨[109,97,105,110],[],[],[]⟩
def Kd(raw:List Int)(a:Bool):List Ar ×Nat:=Jg a raw (Ab raw 0 3).1.toNat (Ab raw 0 3).2
def Qb(raw:List Int)(a:Nat):List Fu ×Nat:=Iu raw (Ab raw a 3).1.toNat (Ab raw a 3).2
def Jr(raw:List Int)(a:Bool):Sc:=⟨[],(Kd raw a).1,Lc::(Qb raw (Kd raw a).2).1,a,false⟩
def Kt(b:List Int)(a:Bool):Pr:=
 let raw:=b.take 400
 ⟨(Kd raw a).1,(Dk raw (Jr raw a) (Jr raw a).funcs (Qb raw (Kd raw a).2).2).1⟩
def Mw(a:List Int):Ex:=(Aw ⟨[],[],[],true,false⟩ (a.take 100) 6 0).1
theorem gArr_ok(c:Bool)(raw:List Int)(i a:Nat)(g:i=1∨i=2):Cz (Xj c raw i a).1=true:=by
 unfold Xj;split
 ·have d:=Ja (Ab raw (Ab raw a 4).2 312).1
  have e:=Am raw (Ab raw (Ab raw a 4).2 312).2 1000 (by decide);unfold Cq;rw[if_pos (by simp)];simp only[Cz,d,Bool.true_and];simp;omega
 ·have e:=Am raw a 4 (by decide)
  have f:(Ab raw a 4).1=0∨(Ab raw a 4).1=1∨(Ab raw a 4).1=2∨(Ab raw a 4).1=3:=by omega
  dsimp only;rcases g with rfl|rfl<;>rcases f with b|b|b|b<;>rw[b]<;>decide
theorem gZ(b:Bool)(raw:List Int):∀i a,i≤2→∀x,x∈(Jg b raw i a).1→Cz x=true
 |0,a,_,x,hx=>by cases hx
 |i+1,a,hi,x,hx=>by
  rw[Jg]at hx;rcases Zi.1 hx with rfl|hx
  ·exact gArr_ok b raw (i+1) a (by omega)
  ·exact gZ b raw i _ (by omega) x hx
def dM(f:Fu):Prop:=Ak f.name=true∧f.params.length≤6∧∀x,x∈f.params→Ak x=true
theorem nY:∀x,x∈Hw→Ak x=true:=by decide
theorem bC:∀x,x∈Dp→Ak x=true:=by decide
theorem gY(raw:List Int):∀i a,i≤2→∀x,x∈(Iu raw i a).1→dM x
 |0,a,_,x,hx=>by cases hx
 |i+1,a,hi,x,hx=>by
  rw[Iu]at hx;rcases Zi.1 hx with rfl|hx
  ·have b:i=0∨i=1:=by omega
   refine⟨?_,?_,fun x hx=>nY x (List.mem_of_mem_take hx)⟩
   ·show Ak (Fj.getD (i+1) [])=true
    rcases b with rfl|rfl<;>decide
   ·show(Hw.take _).length≤6
    rw[List.length_take];exact Nat.min_le_right _ _
  ·exact gY raw i _ (by omega) x hx
theorem Xc(raw:List Int)(sc:Sc)(e:∀x,x∈sc.arrays→Ak x.name=true)(c:∀x,x∈sc.funcs→dM x):∀l a,(∀x,x∈l→dM x)→∀x,x∈(Dk raw sc l a).1→Dr x=true
 |[],a,_,x,hx=>by cases hx
 |f::l,a,hl,x,hx=>by
  rw[Dk]at hx;rcases Zi.1 hx with rfl|hx
  ·have b:=hl f List.mem_cons_self
   have d:∀x,x∈Dp.take (Ab raw a 6).1.toNat→Ak x=true:=fun x hx=>bC x (List.mem_of_mem_take hx)
   have h:Sc.Ok ⟨f.params++Dp.take (Ab raw a 6).1.toNat,sc.arrays,sc.funcs,sc.free,false⟩:=⟨fun x hx=>by
    rcases List.mem_append.1 hx with hx|hx
    ·exact b.2.2 x hx
    ·exact d x hx,e,fun x hx=>⟨(c x hx).1,(c x hx).2.1⟩⟩
   have g:=Sl raw 4 _ h 40 (by omega) (by omega) (Ab raw a 6).2;unfold Pw Dr;dsimp only;rw[b.1,Zg.2 b.2.2,Zg.2 d,Zg.2 g,decide_eq_true b.2.1];rfl
  ·exact Xc raw sc e c l _ (fun x hx=>hl x (List.mem_cons_of_mem _ hx)) x hx
theorem Ht(raw:List Int)(a:Bool):∀x,x∈(Jr raw a).funcs→dM x:=by
 intro x hx;rcases Zi.1 hx with rfl|hx
 ·exact⟨by decide,by decide,fun x hx=>by cases hx⟩
 ·exact gY raw _ _ (by have:=Am raw (Kd raw a).2 3 (by decide);omega) x hx
theorem Nt(raw:List Int)(a:Bool):∀x,x∈(Kd raw a).1→Cz x=true:=
 gZ a raw _ _ (by have:=Am raw 0 3 (by decide);omega)
theorem Oe(b:List Int)(a:Bool):Eh (Kt b a)=true:=by
 unfold Kt Eh;dsimp only;rw[Bool.and_eq_true,Zg,Zg];refine⟨Nt _ _,Xc _ _ (fun x hx=>?_) (Ht _ _) _ _ (Ht _ _)⟩;have:=Nt (b.take 400) a x hx;unfold Cz at this;exact((Bool.and_eq_true _ _).mp this).1
theorem Vw(a:List Int):Cf (Mw a)=true:=
 Lz ⟨fun _ hx=>(Zm hx).elim,fun _ hx=>(Zm hx).elim,fun _ hx=>(Zm hx).elim⟩ _ 6 0 (by omega)
theorem xO(c n:Int)(a:I64 c)(b:0<n)(d:n≤9223372036854775807){w:Zr}:
  Zs Za 47 #[.int .i64 c,.int .i64 n] w fun e w'=>e=.returned (.int .i64 (Hp c n))∧w'=w:=by
 obtain⟨l,u⟩:=a;unfold Hp
 by_cases hneg:c<0
 ·rw[if_pos hneg]
  have f:(n==0)=false:=by simp;omega
  go_enter func47,ntmps47;go_wp2;go_ret
  exact⟨Iv (by show -((c+1).tmod n)=_;rw[←Int.neg_tmod,Zn (by omega)]),rfl⟩
 ·rw[if_neg hneg]
  have g:0≤c:=by omega
  go_enter func47,ntmps47;go_wp2;go_ret
  exact⟨rfl,rfl⟩
def Ib(D:Nat→Prop)(w:Zr)(l:List Int)(v:Value):Prop:=
 ∃a cap b c,v=.slice a l.length cap∧l.length≤cap∧Cv l.length∧(l.length=0∨(a=some ⟨b,c,none⟩∧D b))∧
  (∀i,i<l.length→w.cell? ⟨b,c+i,none⟩=some (.int .i64 (l.getD i 0)))∧∀i,i<l.length→I64 (l.getD i 0)
theorem Ib.keep {D:Nat→Prop}{w w':Zr}(m:Db D w w'){l:List Int}{v:Value}(d:Ib D w l v):Ib D w' l v:=by
 obtain⟨a,cap,b,o,n,e,f,c,g,h⟩:=d;refine⟨a,cap,b,o,n,e,f,c,fun i k=>?_,h⟩;rcases c with c|⟨_,j⟩
 ·omega
 ·exact m _ _ _ j (g i k)
theorem Ib.shape {D:Nat→Prop}{w:Zr}{l:List Int}{v:Value}(c:Ib D w l v):∃a cap,v=.slice a l.length cap:=by
 obtain⟨a,cap,b,e,d,_⟩:=c;exact⟨a,cap,d⟩
theorem Ib.fits {D:Nat→Prop}{w:Zr}{l:List Int}{v:Value}(c:Ib D w l v):Cv l.length:=by
 obtain⟨a,cap,b,g,f,e,d,_⟩:=c;exact d
theorem Ib.cellAt {D:Nat→Prop}{w:Zr}{l:List Int}{a:Option Zt}{n cap:Nat}(g:Ib D w l (.slice a n cap))(i:Nat)(e:i<l.length):∃b d,a=some ⟨b,d,none⟩∧D b∧b<w.heap.size∧
  w.cell? ⟨b,d+i,none⟩=some (.int .i64 (l.getD i 0))∧I64 (l.getD i 0):=by
 obtain⟨m,o,b,d,k,p,q,c,f,h⟩:=g
 cases k
 rcases c with c|⟨c,j⟩
 ·omega
 ·exact⟨b,d,c,j,World.block_lt_of_cell? _ _ (f i e),f i e,h i e⟩
def Az(w:Zr)(s:Nat)(raw:List Int)(a:Nat):Prop:=
 ∃v,w.heap[s]? =some (.cells #[v,.int .i64 a] 67 (0,0))∧Ib (· <s) w raw v∧a≤raw.length
theorem Az.lt {w:Zr}{s:Nat}{raw:List Int}{a:Nat}(c:Az w s raw a):s<w.heap.size:=by
 obtain⟨v,d,_⟩:=c;rcases Nat.lt_or_ge s w.heap.size with b|b
 ·exact b
 ·simp [Array.getElem?_eq_none b]at d
theorem Az.old {w w':Zr}{s:Nat}{raw:List Int}{a:Nat}(b:Az w s raw a)(c:Zu w.heap.size w w'):Az w' s raw a:=by
 have g:=b.lt;obtain⟨v,d,e,f⟩:=b;exact⟨v,(c.block s g).trans d,e.keep (Be c),f⟩
theorem Az.set {w:Zr}{s:Nat}{raw:List Int}{a:Nat}(c:Az w s raw a)(g:a<raw.length):Az (w.setCell ⟨s,1,none⟩ (.int .i64 ((a:Int)+1))) s raw (a+1)∧SFr s w (w.setCell ⟨s,1,none⟩ (.int .i64 ((a:Int)+1))):=by
 obtain⟨v,e,f,i⟩:=c;have d:SFr s w (w.setCell ⟨s,1,none⟩ (ι ((a:Int)+1))):=⟨rfl,rfl,rfl,by simp [World.setCell],fun k _ h=>Below.heap_setCell _ _ _ _ h⟩;refine⟨⟨v,?_,f.keep (d.keepsD (fun b c=>Nat.ne_of_lt c)),g⟩,d⟩;rw[show((a+1:Nat):Int)=(a:Int)+1 from by omega];simp [World.setCell,Array.getElem?_modify,e]
def Eb(w:Zr)(s:Nat)(raw:List Int)(x:Value)(a:Nat)(b:Ending)(w':Zr):Prop:=b=.returned x∧Az w' s raw a∧SFr s w w'
theorem Az.drewN {s n:Nat}{b:Zr}{raw:List Int}{a:Nat}(c:Az b s raw a):Az (b.drewN n) s raw a:=c
theorem Co(s:Nat)(raw:List Int)(a:Nat)(n:Int)(w:Zr)(y:Az w s raw a)(F:0<n)(Q:n≤1000000):
  Zs Za 21 #[.pointer (some ⟨s,0,none⟩),.int .i64 n] w (Eb w s raw (.int .i64 (Ab raw a n).1) (Ab raw a n).2):=by
 have h:=Zb y;obtain⟨v,d,f,R⟩:=y;obtain⟨N,j,rfl⟩:=f.shape;have Z:=f.fits.out;have B:w.cell? ⟨s,0,none⟩=some (ρ N raw j):=by rw[Lib.cell_of_heap d];rfl
 have C:w.cell? ⟨s,1,none⟩=some (ι a):=by rw[Lib.cell_of_heap d];rfl
 have D:w.frozen? ⟨s,1,none⟩=false:=Lib.frozen_of_heap d 1;unfold Ab
 by_cases hge:raw.length≤a
 ·rw[if_pos hge]
  clear d f;go_enter func21,ntmps21;go_wp2_with fail;go_quiet (fail);go_wp2;go_ret
  exact⟨rfl,h.o,SFr.drewN (SFr.refl _ _)⟩
 ·rw[if_neg hge]
  have x:a<raw.length:=by omega
  obtain⟨b,g,rfl,r,S,p,t⟩:=f.cellAt a x;obtain⟨e,A⟩:=Y2 (h.o.set x) t;have G:b≠s:=Nat.ne_of_lt r;have k:=Zb (e.o.2.cell G p);obtain⟨ab,H,_,_⟩:=e.o.1;have U:=h.o.lt;have q:(w.setCell ⟨s,1,none⟩ (ι ((a:Int)+1))).cell? ⟨s,0,none⟩=some (.slice (some ⟨b,g,none⟩) raw.length j):=by
   have E:=d;simp [World.setCell,World.cell?,Array.getElem?_modify,E]
  clear d f t r hge H;generalize J:raw.getD a 0=c at*;clear J;go_enter func21,ntmps21;go_wp2_with fail;go_quiet (fail);go_wp2_with fail;have i:Az ((w.drewN nq).setCell ⟨s,1,none⟩ (ι ((a:Int)+1))) s raw (a+1):=e.o.1.drewN (n:=nq);have u:SFr s w ((w.drewN nq).setCell ⟨s,1,none⟩ (ι ((a:Int)+1))):=e.o.2.drewN (n:=nq);have X:((w.drewN nq).setCell ⟨s,1,none⟩ (ι ((a:Int)+1))).cell? ⟨s,0,none⟩=some (.slice (some ⟨b,g,none⟩) raw.length j):=q;have Y:((w.drewN nq).setCell ⟨s,1,none⟩ (ι ((a:Int)+1))).cell? ⟨s,1,none⟩=some (ι ((a:Int)+1)):=by
   obtain⟨ac,I,_⟩:=i;rw[Lib.cell_of_heap I];show some (Value.int .i64 ((a+1:Nat):Int))=_;rw[show((a+1:Nat):Int)=(a:Int)+1 from by omega]
  have M:((w.drewN nq).setCell ⟨s,1,none⟩ (ι ((a:Int)+1))).cell? ⟨b,g+a,none⟩=some (ι c):=k.o;obtain⟨l,z⟩:=Y2 i u;clear i u q B C p D e k h;generalize (w.drewN nq).setCell ⟨s,1,none⟩ (ι ((a:Int)+1))=m at*;have O:IntKind.i64.wrap ((a:Int)+1-1)=a:=by rw[Zl _ (by omega)];omega
  have P:IntKind.i64.wrap (a:Int)=a:=Zl _ (by omega);have V:(0:Int)≤(a:Int):=by omega
  have W:(a:Int)<(raw.length:Int):=by omega
  have T:b<m.heap.size:=World.block_lt_of_cell? _ _ M;have i:s<m.heap.size:=l.o.lt
  go_region_held3 (fun w'=>w'.cell? ⟨s,0,none⟩=some (.slice (some ⟨b,g,none⟩) raw.length j)∧w'.cell? ⟨s,1,none⟩=some (ι ((a:Int)+1))∧w'.cell? ⟨b,g+a,none⟩=some (ι c)) (first|(simp [*,World.cell?_alloc_lt];done)|go_keep) (first
   |(go_at_call 47;refine(xO c n A.o F (by omega)).mono ?_;rintro aa w2 ⟨K,L⟩;subst K;subst L))
  go_wp2;go_ret
  exact⟨rfl,l.o,SFr.drewN (n:=1) z.o⟩
theorem oP(c n:Int)(a:I64 c)(b:0<n)(d:n≤9223372036854775807)(w:Zr):
  Zs Za 96 #[.int .i64 c,.int .i64 n] w fun e w'=>e=.returned (.int .i64 (Hp c n))∧w'=w:=by
 obtain⟨l,u⟩:=a;unfold Hp
 by_cases hneg:c<0
 ·rw[if_pos hneg]
  have f:(n==0)=false:=by simp;omega
  go_enter func96,ntmps96;go_wp2;go_ret
  exact⟨Iv (by show -((c+1).tmod n)=_;rw[←Int.neg_tmod,Zn (by omega)]),rfl⟩
 ·rw[if_neg hneg]
  have g:0≤c:=by omega
  go_enter func96,ntmps96;go_wp2;go_ret
  exact⟨rfl,rfl⟩
theorem vM(n:Int)(g:0≤n)(h:n<256)(a:Zr)(b:Nat)(c:a.cell? ⟨b,0,none⟩=some (.int .u8 n)):
  (convert 54 9 (.slice (some ⟨b,0,none⟩) 1 1)).run Za a=.ok (.string (Aa [UInt8.ofNat n.toNat])) a:=by
 refine run_convert_bytes_back (P:=Za) a 54 9 5 ⟨b,0,none⟩ 1 [UInt8.ofNat n.toNat] underlying54 underlying5 underlying9 (fun j d=>?_);have f:j=0:=by simp at d;omega
 subst f;have e:((UInt8.ofNat n.toNat).toNat:Int)=n:=by
  rw[UInt8.toNat_ofNat'];have:n.toNat % 2 ^ 8=n.toNat:=Nat.mod_eq_of_lt (by omega);omega
 show a.cell? _=some (.int .u8 ((UInt8.ofNat n.toNat).toNat:Int))
 rw[e];exact c
theorem suf_at:∀j:Fin 12,([Value.string ⟨#[]⟩,Value.string ⟨#[49]⟩,Value.string ⟨#[95]⟩,Value.string ⟨#[90,57]⟩,Value.string ⟨#[105,102]⟩,Value.string ⟨#[120]⟩,Value.string ⟨#[48]⟩,Value.string ⟨#[97,97]⟩,Value.string ⟨#[105,110,116,105,110,116]⟩,Value.string ⟨#[113,55]⟩,Value.string ⟨#[66]⟩,Value.string ⟨#[48,48]⟩]:List Value)[j.val]'(by simp)=.string (Aa (lX.getD j.val [])):=by
 intro j;obtain⟨j,a⟩:=j;have:j=0∨j=1∨j=2∨j=3∨j=4∨j=5∨j=6∨j=7∨j=8∨j=9∨j=10∨j=11:=by omega
 rcases this with rfl|rfl|rfl|rfl|rfl|rfl|rfl|rfl|rfl|rfl|rfl|rfl<;>rfl
theorem dE{c:Int}(b:I64 c)(w:Zr):
  Zs Za 48 #[.int .i64 c] w fun e w'=>e=.returned (.string (Aa (Kf c)))∧Zu w.heap.size w w':=by
 have n:=Ni c 312 (by decide);have d:Zq (Kf c=UInt8.ofNat (97+(Hp c 312 % 26).toNat)::lX.getD (Hp c 312 / 26).toNat []):=rfl;rw[d.out];have t:=Zb b;have h:Zq (∀w,Zs Za 96 #[ι c,ι 312] w fun e w'=>e=.returned (ι (Hp c 312))∧w'=w):=fun w=>oP c 312 b (by decide) (by decide) w
 clear b d;generalize Hp c 312=k at*;obtain⟨A,B⟩:=n;have C:0≤k % 26:=Int.emod_nonneg _ (by decide);have D:k % 26<26:=Int.emod_lt_of_pos _ (by decide);have y:0≤k / 26:=by omega
 have z:k / 26<12:=by omega
 have f:(k / 26).toNat<12:=by omega
 have u:=vM (97+k % 26) (by omega) (by omega);have i:=suf_at ⟨(k / 26).toNat,f⟩;dsimp only at i;have p:(lX.getD (k / 26).toNat []).length≤6:=by
  have l:∀j:Fin 12,(lX.getD j.val []).length≤6:=by decide
  exact l ⟨_,f⟩
 generalize lX.getD (k / 26).toNat []=a at*;have E:¬((Aa [UInt8.ofNat (97+k % 26).toNat]).size+(Aa a).size>9223372036854775807):=by
  show ¬([UInt8.ofNat (97+k % 26).toNat].toArray.size+a.toArray.size>_)
  simp;omega
 have q:Zq (Aa [UInt8.ofNat (97+k % 26).toNat]++Aa a=Aa (UInt8.ofNat (97+(k % 26).toNat)::a)):=by
  show _=_
  rw[show 97+(k % 26).toNat=(97+k % 26).toNat by omega];rfl
 generalize Aa [UInt8.ofNat (97+k % 26).toNat]=x at*;generalize g:Aa a=G at*;have v:=Zb g;clear g p;go_enter func48,ntmps48;go_wp2_with fail;refine(h.o _).mono ?_;rintro F w2 ⟨m,r⟩;subst m;subst r;go_wp2_with fail
 go_region
 all_goals go_wp2_with fail
 all_goals
  go_ret
  refine⟨?_,by repeat(first|exact Zj _ _|refine Below.drew ?_ |refine Below.alloc ?_ (by simp) _)⟩;exact congrArg (fun s=>Ending.returned (Value.string s)) q.out
abbrev scV(sc:Sc)(vv av fv:Value):Value:=.agg #[vv,av,fv,.bool sc.free,.bool sc.loop]
theorem Pn(raw:List Int)(a:Nat)(n:Int)(b:0<n)(c:n≤1000000):I64 (Ab raw a n).1:=by
 have:=Am raw a n b;exact⟨by omega,by omega⟩
theorem Az.alloc {w:Zr}{s:Nat}{raw:List Int}{a:Nat}(b:Az w s raw a)(c:Obj):Az (w.alloc c) s raw a:=b.old (bA)
theorem SFr.alloc {s:Nat}{w:Zr}(a:Obj):SFr s w (w.alloc a):=Zc (bA)
theorem vN(s:Nat)(raw:List Int)(a:Nat)(sc:Sc)(v r t lv:Value)(l:List Bs)(w:Zr)(A:Az w s raw a)(i:Bb (· ≠s) w l lv)(f:(sc.free||l.isEmpty)=true):
  Zs Za 49 #[scV sc v r t,.pointer (some ⟨s,0,none⟩),lv] w (Eb w s raw (.string (Aa (Gn sc.free l raw a).1)) (Gn sc.free l raw a).2):=by
 obtain⟨F,l2,rfl⟩:=i.shape;have x:Zq (Gn sc.free l raw a=(Kf (Ab raw a 312).1,(Ab raw a 312).2)):=by show _=_;unfold Gn;rw[if_pos f]
 rw[x.out];have k:=Zb (A.alloc (.cells #[v,r,t,.bool sc.free,.bool sc.loop] 69));have c:Zq (SFr s w (w.alloc (.cells #[v,r,t,.bool sc.free,.bool sc.loop] 69))):=SFr.alloc _;clear A i x;have B:∀d,Az d s raw a→SFr s w d→Zs Za 21 #[π s,ι 312] d (Eb d s raw (ι (Ab raw a 312).1) (Ab raw a 312).2):=fun d C E=>Co s raw a 312 d C (by decide) (by decide)
 have y:=Zb B;clear B;have z:Zq (∀w,Zs Za 48 #[ι (Ab raw a 312).1] w fun e w'=>e=.returned (.string (Aa (Kf (Ab raw a 312).1)))∧Zu w.heap.size w w'):=fun w=>dE (Pn raw a 312 (by decide) (by decide)) w
 generalize Ab raw a 312=g at*
 cases hf:sc.free
 ·have i:l.length=0:=by rw[hf]at f;simpa using f
  rw[i];clear i f;rw[hf]at k c;go_enter func49,ntmps49;go_wp2_with fail;refine(y.o _ k.o c.o).mono ?_;rintro u w2 ⟨rfl,j,h⟩;obtain⟨p,m⟩:=Y2 j (c.o.trans h);clear j h;go_wp2_with fail;refine(z.o _).mono ?_;rintro u D ⟨rfl,b⟩;obtain⟨q,n⟩:=Y2 (p.o.old b) (m.o.trans (Zc b));clear b;go_wp2;go_ret
  exact⟨rfl,q.o,n.o⟩
 ·clear f
  rw[hf]at k c;go_enter func49,ntmps49;go_wp2_with fail;refine(y.o _ k.o c.o).mono ?_;rintro u w2 ⟨rfl,j,h⟩;obtain⟨p,m⟩:=Y2 j (c.o.trans h);clear j h;go_wp2_with fail;refine(z.o _).mono ?_;rintro u D ⟨rfl,b⟩;obtain⟨q,n⟩:=Y2 (p.o.old b) (m.o.trans (Zc b));clear b;go_wp2;go_ret
  exact⟨rfl,q.o,n.o⟩
theorem name_of(s:Nat)(raw:List Int)(a:Nat)(sc:Sc)(k f h lv:Value)(l:List Bs)(w:Zr)(y:Az w s raw a)(j:Bb (· ≠s) w l lv)(e:(sc.free||l.isEmpty)=false)(K:l.length≤1000000):
  Zs Za 49 #[scV sc k f h,.pointer (some ⟨s,0,none⟩),lv] w (Eb w s raw (.string (Aa (Gn sc.free l raw a).1)) (Gn sc.free l raw a).2):=by
 obtain⟨N,l2,rfl⟩:=j.shape;have M:0<l.length:=dY (by rw[e];simp);have u:sc.free=false:=by revert e;cases sc.free<;>simp
 have m:Zq (Gn sc.free l raw a=(l.getD (Ab raw a l.length).1.toNat [],(Ab raw a l.length).2)):=by show _=_;unfold Gn;rw[if_neg (by rw[e];simp)]
 rw[m.out];have r:=Zb (y.alloc (.cells #[k,f,h,.bool sc.free,.bool sc.loop] 69));have n:Zq (SFr s w (w.alloc (.cells #[k,f,h,.bool sc.free,.bool sc.loop] 69))):=SFr.alloc _;have q:Zq (∀d,Az d s raw a→Zs Za 21 #[π s,ι l.length] d (Eb d s raw (ι (Ab raw a l.length).1) (Ab raw a l.length).2)):=fun d D=>Co s raw a l.length d D (by omega) (by omega)
 have H:=Am raw a l.length (by omega);have A:=Zb j;have L:((l.length:Int)==0)=false:=beq_eq_false_iff_ne.2 (by omega);clear y j m e;have G:=Pn raw a l.length (by omega) (by omega);clear G;generalize Ab raw a l.length=g at*;obtain⟨g,I⟩:=g;obtain⟨t,C⟩:=H;dsimp only at t C q ⊢;obtain⟨i,rfl⟩:=Zp t;rw[Int.toNat_natCast];have F:i<l.length:=by omega
 unfold scV;rw[u]at r n ⊢;clear u;go_enter func49,ntmps49;go_wp2_with fail;refine(q.o _ r.o).mono ?_;rintro P w2 ⟨rfl,z,v⟩;obtain⟨B,p⟩:=Y2 z (n.o.trans v);clear z v;obtain⟨b,O,rfl,E,J,c⟩:=Te (Bb.keep p.o.keeps A.o) i F;generalize l.getD i []=x at*;clear E;go_wp2;go_ret
 exact⟨rfl,B.o,p.o⟩
theorem aB(s:Nat)(raw:List Int)(a:Nat)(sc:Sc){d b c lv:Value}(l:List Bs)(w:Zr)(f:Az w s raw a)(e:Bb (· ≠s) w l lv)(g:l.length≤1000000):
  Zs Za 49 #[scV sc d b c,.pointer (some ⟨s,0,none⟩),lv] w (Eb w s raw (.string (Aa (Gn sc.free l raw a).1)) (Gn sc.free l raw a).2):=by
 cases h:(sc.free||l.isEmpty)
 ·exact name_of s raw a sc d b c lv l w f e h g
 ·exact vN s raw a sc d b c lv l w f e h
theorem Az.other {w:Zr}{s:Nat}{raw:List Int}{a:Nat}(b:Az w s raw a){k:Nat}(f:s<k)(i:Nat)(v:Value):Az (w.setCell ⟨k,i,none⟩ v) s raw a:=by
 obtain⟨u,c,d,e⟩:=b;exact⟨u,(Below.heap_setCell _ _ _ _ (by show s≠k;omega)).trans c,d.keep (Al w (by omega) i v),e⟩
theorem qE(s:Nat)(raw:List Int)(a:Nat)(sc:Sc)(f z c:Value)(w:Zr)(u:Az w s raw a)(B:Cd (· ≠s) w sc.arrays z)(d:(sc.free||sc.arrays.isEmpty)=true):
  Zs Za 22 #[scV sc f z c,.pointer (some ⟨s,0,none⟩)] w (Eb w s raw (.agg #[.string (Aa (Cq sc.free sc.arrays raw a).1.name),.int .i64 (Cq sc.free sc.arrays raw a).1.size]) (Cq sc.free sc.arrays raw a).2):=by
 obtain⟨k,l2,rfl⟩:=B.shape;have ad:=u.lt;have x:Zq (Cq sc.free sc.arrays raw a=(⟨Kf (Ab raw a 312).1,1+(Ab raw (Ab raw a 312).2 1000).1⟩,(Ab raw (Ab raw a 312).2 1000).2)):=by show _=_;unfold Cq;rw[if_pos d]
 rw[x.out];have L:Zq (∀b,Az b s raw a→Zs Za 21 #[π s,ι 312] b (Eb b s raw (ι (Ab raw a 312).1) (Ab raw a 312).2)):=fun b l=>Co s raw a 312 b l (by decide) (by decide)
 have W:Zq (∀w,Zs Za 48 #[ι (Ab raw a 312).1] w fun e w'=>e=.returned (.string (Aa (Kf (Ab raw a 312).1)))∧Zu w.heap.size w w'):=fun w=>dE (Pn raw a 312 (by decide) (by decide)) w
 have M:Zq (∀b,Az b s raw (Ab raw a 312).2→Zs Za 21 #[π s,ι 1000] b (Eb b s raw (ι (Ab raw (Ab raw a 312).2 1000).1) (Ab raw (Ab raw a 312).2 1000).2)):=fun b l=>Co s raw _ 1000 b l (by decide) (by decide)
 have aa:=Am raw (Ab raw a 312).2 1000 (by decide);have Z:(sc.free=false∧sc.arrays.length=0)∨sc.free=true:=by
  revert d;cases sc.free
  ·intro d;exact .inl ⟨rfl,by simpa using d⟩
  ·intro _;exact .inr rfl
 clear x d B;unfold scV;generalize Ab raw (Ab raw a 312).2 1000=q at*;generalize Ab raw a 312=g at*;obtain⟨ae,af⟩:=aa;generalize sc.free=i at*;generalize sc.arrays.length=n at*;have m:Zu w.heap.size w ((w.alloc (.cells #[f,.slice k n l2,c,.bool i,.bool sc.loop] 69)).alloc (.cells #[ε,ι 0] 60)):=(bA).alloc (by simp) _;have R:=Zb (u.old m);have G:Zq (SFr s w ((w.alloc (.cells #[f,.slice k n l2,c,.bool i,.bool sc.loop] 69)).alloc (.cells #[ε,ι 0] 60))):=Zc m;have t:=Ze (w.alloc (.cells #[f,.slice k n l2,c,.bool i,.bool sc.loop] 69)) [ε,ι 0] 60;rw[show(w.alloc (.cells #[f,.slice k n l2,c,.bool i,.bool sc.loop] 69)).heap.size=w.heap.size+1 by simp]at t;have y:Zq (w.heap.size+1≠s):=by show _≠_;omega
 have N:=Zb t;clear u m t;have E:s<w.heap.size+1:=by omega
 have A:w.heap.size≤w.heap.size+1:=by omega
 rcases Z with⟨rfl,rfl⟩|rfl
 all_goals
  go_enter func22,ntmps22;go_wp2_with fail;refine(L.o _ R.o).mono ?_;rintro F w2 ⟨rfl,C,p⟩;obtain⟨S,H,O⟩:=Y3 C (G.o.trans p) (N.o.sfr p y.o);clear C p;go_wp2_with fail;refine(W.o _).mono ?_;rintro F ag ⟨rfl,j⟩;obtain⟨T,I,P⟩:=Y3 (S.o.old j) (H.o.trans (Zc j)) (O.o.old j);clear j;go_wp2_with fail;refine(M.o _ T.o).mono ?_;rintro F ah ⟨rfl,D,r⟩;obtain⟨U,J,h⟩:=Y3 D (I.o.trans r) (P.o.sfr r y.o);clear D r;obtain ⟨ab, ac⟩ := τ2 h.o;have ai:=h.o.fz 0;have aj:=h.o.fz 1;obtain⟨Q,V,K⟩:=Y3 ((h.o.set 0 (σ (Kf g.1))).set 1 (ι (1+q.1))) ((U.o.other E 0 (σ (Kf g.1))).other E 1 (ι (1+q.1))) ((J.o.setNew A 0 (σ (Kf g.1))).setNew A 1 (ι (1+q.1)));go_wp2_with fail;obtain ⟨X, Y⟩ := τ2 Q.o;exact Zv (v:=.agg #[σ (Kf g.1),ι (1+q.1)]) (by simp [results,results22,go_sem,X,Y]) rfl ⟨rfl,V.o,K.o⟩
theorem yN(s:Nat)(raw:List Int)(a:Nat)(sc:Sc)(e A d:Value)(w:Zr)(u:Az w s raw a)(r:Cd (· ≠s) w sc.arrays A)(p:(sc.free||sc.arrays.isEmpty)=false)(an:sc.arrays.length≤1000000):
  Zs Za 22 #[scV sc e A d,.pointer (some ⟨s,0,none⟩)] w (Eb w s raw (.agg #[.string (Aa (Cq sc.free sc.arrays raw a).1.name),.int .i64 (Cq sc.free sc.arrays raw a).1.size]) (Cq sc.free sc.arrays raw a).2):=by
 obtain⟨au,l2,rfl⟩:=r.shape;have aq:=u.lt;have ap:0<sc.arrays.length:=dY (by rw[p];simp);have I:sc.free=false:=by revert p;cases sc.free<;>simp
 have y:Zq (Cq sc.free sc.arrays raw a=(Em sc.arrays (Ab raw a sc.arrays.length).1.toNat,(Ab raw a sc.arrays.length).2)):=by show _=_;unfold Cq;rw[if_neg (by rw[p];simp)]
 rw[y.out];have z:Zq (∀m,Az m s raw a→Zs Za 21 #[π s,ι sc.arrays.length] m (Eb m s raw (ι (Ab raw a sc.arrays.length).1) (Ab raw a sc.arrays.length).2)):=fun m ae=>Co s raw a sc.arrays.length m ae (by omega) (by omega)
 have ah:=Am raw a sc.arrays.length (by omega);clear y p;generalize Ab raw a sc.arrays.length=g at*;obtain⟨g,ai⟩:=g;obtain⟨D,ad⟩:=ah;dsimp only at D ad z ⊢;obtain⟨i,rfl⟩:=Zp D;rw[Int.toNat_natCast];have ag:i<sc.arrays.length:=by omega
 obtain⟨b,c,rfl,E,am,B,C⟩:=Cd.cellAt r i ag;have H:b≠s:=E;generalize Em sc.arrays i=x at*;have ao:((sc.arrays.length:Int)==0)=false:=beq_eq_false_iff_ne.2 (by omega);clear r E;unfold scV;rw[I];clear I;generalize sc.arrays.length=n at*;have l:Zu w.heap.size w ((w.alloc (.cells #[e,.slice (some ⟨b,c,none⟩) n l2,d,.bool false,.bool sc.loop] 69)).alloc (.cells #[ε,ι 0] 60)):=(bA).alloc (by simp) _;have S:=Zb (u.old l);have N:Zq (SFr s w ((w.alloc (.cells #[e,.slice (some ⟨b,c,none⟩) n l2,d,.bool false,.bool sc.loop] 69)).alloc (.cells #[ε,ι 0] 60))):=Zc l;have t:=Ze (w.alloc (.cells #[e,.slice (some ⟨b,c,none⟩) n l2,d,.bool false,.bool sc.loop] 69)) [ε,ι 0] 60;rw[show(w.alloc (.cells #[e,.slice (some ⟨b,c,none⟩) n l2,d,.bool false,.bool sc.loop] 69)).heap.size=w.heap.size+1 by simp]at t;have F:=(Ze w [e,.slice (some ⟨b,c,none⟩) n l2,d,.bool false,.bool sc.loop] 69).alloc (.cells #[ε,ι 0] 60);have ab:=Ac l B;have ac:=Ac l C;have X:Zq (w.heap.size+1≠s):=by show _≠_;omega
 have W:Zq (w.heap.size≠s):=by show _≠_;omega
 obtain⟨k,M⟩:=Y2 t F;have L:s<w.heap.size+1:=by omega
 have J:w.heap.size≤w.heap.size+1:=by omega
 clear u l t F B C;go_enter func22,ntmps22;go_wp2_with fail;generalize (w.alloc (.cells #[e,.slice (some ⟨b,c,none⟩) n l2,d,.bool false,.bool sc.loop] 69)).alloc (.cells #[ε,ι 0] 60)=f at*;have Y:=M.o.at 1 _ rfl;have G:Zu f.heap.size f f.drew:=(Zj _ _).drew;have V:=Zb (S.o.old G);clear G;have al:b≠w.heap.size+1:=by omega
 have aj:w.heap.size+1<f.heap.size:=k.o.lt;have aC:f.frozen? ⟨w.heap.size+1,0,none⟩=false:=k.o.fz 0;have aD:f.frozen? ⟨w.heap.size+1,1,none⟩=false:=k.o.fz 1;obtain ⟨aA, aB⟩ := τ2 k.o
 go_region_held3 (fun w'=>w'.cell? ⟨w.heap.size,1,none⟩=some (.slice (some ⟨b,c,none⟩) n l2)∧w'.cell? ⟨b,c+i*2,none⟩=some (σ x.name)∧w'.cell? ⟨b,c+i*2+1,none⟩=some (ι x.size)) (first|(simp [*,World.cell?_alloc_lt,Ue];done)|go_keep) (first
  |(go_at_call 21;refine(z.o _ V.o).mono ?_;rintro ax q ⟨af,K,j⟩;subst af;obtain⟨T,O⟩:=Y2 K (N.o.trans ((Zc (Zj _ _).drew).trans j));have h:=(k.o.old (Zj _ _).drew).sfr j X.o;have Q:=Zb h;have ar:q.cell? ⟨w.heap.size,1,none⟩=some (.slice (some ⟨b,c,none⟩) n l2):=j.cell W.o Y;have av:q.cell? ⟨b,c+i*2,none⟩=some (σ x.name):=j.cell H ab;have aw:q.cell? ⟨b,c+i*2+1,none⟩=some (ι x.size):=j.cell H ac;obtain ⟨u0, u1⟩ := τ2 h;have ay:=h.fz 0;have az:=h.fz 1;have ak:w.heap.size+1<q.heap.size:=h.lt;clear h K j))
 go_wp2_with fail;obtain⟨R,U,P⟩:=Y3 ((Q.o.set 0 (σ x.name)).set 1 (ι x.size)) ((T.o.other L 0 (σ x.name)).other L 1 (ι x.size)) ((O.o.setNew J 0 (σ x.name)).setNew J 1 (ι x.size));obtain ⟨Z, aa⟩ := τ2 R.o;exact Zv (v:=.agg #[σ x.name,ι x.size]) (by simp [results,results22,go_sem,Z,aa]) rfl ⟨rfl,U.o,P.o⟩
theorem Qn(s:Nat)(raw:List Int)(a:Nat)(sc:Sc)(d b c:Value)(w:Zr)(f:Az w s raw a)(e:Cd (· ≠s) w sc.arrays b)(g:sc.arrays.length≤1000000):
  Zs Za 22 #[scV sc d b c,.pointer (some ⟨s,0,none⟩)] w (Eb w s raw (.agg #[.string (Aa (Cq sc.free sc.arrays raw a).1.name),.int .i64 (Cq sc.free sc.arrays raw a).1.size]) (Cq sc.free sc.arrays raw a).2):=by
 cases h:(sc.free||sc.arrays.isEmpty)
 ·exact yN s raw a sc d b c w f e h g
 ·exact qE s raw a sc d b c w f e h
structure Fy (s:Nat)(w:Zr)(sc:Sc)(vv av fv:Value):Prop where
 vars:Bb (· ≠s) w sc.vars vv
 arrays:Cd (· ≠s) w sc.arrays av
 funcs:Bw (· ≠s) w sc.funcs fv
 v1:sc.vars.length≤1000000
 a1:sc.arrays.length≤1000000
 f1:sc.funcs.length≤1000000
 p1:∀f,f∈sc.funcs→f.params.length≤1000000
theorem Fy.sfr {s:Nat}{w w':Zr}{sc:Sc}{e c d:Value}(a:Fy s w sc e c d)(b:SFr s w w'):Fy s w' sc e c d:=
 ⟨a.vars.keep b.keeps,a.arrays.keep b.keeps,a.funcs.keep b.keeps,a.v1,a.a1,a.f1,a.p1⟩
def Fg(w:Zr)(s:Nat)(raw:List Int)(x:Ex ×Nat)(a:Ending)(w':Zr):Prop:=
 ∃v,a=.returned (exV x.1 v)∧Az w' s raw x.2∧SFr s w w'∧Ag (w.heap.size≤ ·) w' x.1.args v∧I64 x.1.n
def Kb(d:Nat):Prop:= ∀(s:Nat) (raw:List Int) (a:Nat) (sc:Sc) (e b c:Value) (w:Zr),Az w s raw a→Fy s w sc e b c→
 Zs Za 26 #[scV sc e b c,.pointer (some ⟨s,0,none⟩),.int .i64 d] w (Fg w s raw (Aw sc raw d a))
theorem Wo(sc:Sc):sc.hasVars=(decide (0<sc.vars.length)||sc.free):=by
 unfold Sc.hasVars;cases sc.vars<;>simp
theorem Qu(sc:Sc):sc.hasArrays=(decide (0<sc.arrays.length)||sc.free):=by
 unfold Sc.hasArrays;cases sc.arrays<;>simp
theorem Tv(sc:Sc):sc.hasFuncs=(decide (0<sc.funcs.length)||sc.free):=by
 unfold Sc.hasFuncs;cases sc.funcs<;>simp
def gTop(sc:Sc)(raw:List Int)(d a:Nat):Ex ×Nat:=Dg sc raw (Aw sc raw (d-1)) (gK raw d a) (Ab raw a 12).2
theorem pE{sc:Sc}{raw:List Int}{g b:Nat→Ex ×Nat}{k:Int}{a:Nat}(c:k<4):Dg sc raw g k a=Dg sc raw b k a:=by
 unfold Dg;split
 ·rfl
 split
 ·rfl
 simp only[c,if_true]
theorem pQ(sc:Sc)(raw:List Int)(d a:Nat):Aw sc raw d a=gTop sc raw d a:=by
 cases d with
 |zero=>rw[Aw];unfold Px gTop;exact pE (dT raw 0 a (by omega))
 |succ d=>rw[Aw];unfold Px gTop;rw[Nat.add_sub_cancel]
def iK(n:Nat):Code→Option Code
 |.seq (.region k o d) b=>if k==n then some b else iK n b
 |.seq a b=>iK n b
 |_=>none
noncomputable def geCode:Code:=(Tryz.f26.body.bind (iK 6)).getD .skip
structure GeH (d s:Nat)(raw:List Int)(sc:Sc)(v1:Option Zt)(v2:Nat)(a1:Option Zt)(a2:Nat)(f1:Option Zt)(f2:Nat)(ga:Nat)(k:Int)(w w2:Zr):Prop where
 hd1:d≤1000
 lv:sc.vars.length≤1000000
 la:sc.arrays.length≤1000000
 lf:sc.funcs.length≤1000000
 hsl:s<w.heap.size
 hsc:Fy s w sc (.slice v1 sc.vars.length v2) (.slice a1 sc.arrays.length a2) (.slice f1 sc.funcs.length f2)
 hS2:Az w2 s raw ga
 hF2:SFr s w w2
 hR2:Ad w2 (w.heap.size+1) [.int .i64 0,.int .i64 0,.int .i64 0,.string ⟨#[]⟩,.slice none 0 0] 35
 hC2:Ad w2 w.heap.size [.slice v1 sc.vars.length v2,.slice a1 sc.arrays.length a2,.slice f1 sc.funcs.length f2,.bool sc.free,.bool sc.loop] 69
 g0:0≤k
 g1:k<12
def GeG(d s:Nat)(raw:List Int)(sc:Sc)(f:Option Zt)(g:Nat)(a:Option Zt)(b:Nat)(c:Option Zt)(e:Nat)(k:Int)(w w2:Zr)(x:Ex ×Nat):Prop:=
 ∀q4 q5 q11 q12 q13 q14 q15 q16 q17 q18 q19 q20 q21 q22 q23 q24 q25 q26 q27 q28 q29 q30 q31 q32 q33 q34 q35 q36 q37 q38 q39 q40 q41 q42 q43 q44 q45 q46 q47 q48 q49 q50 q51 q52 q53 q54 q55 q56 q57 q58 q59 q60 q61 q62 q63 q64 q65 q66 q67 q68 q69 q70 q71 q72 q73 q74 q75 q76 q77 q78 q79 q80 q81 q82 q83 q84 q85 q86 q87 q88 q89 q90 q91 q92 q93 q94 q95 q96 q97 q98 q99 q100 q101 q102 q103 q104 q105 q106 q107 q108 q109 q110 q111 q112 q113 q114 q115 q116 q117 q118 q119 q120 q121 q122 q123 q124 q125 q126 q127 q128 q129 q130 q131 q132 q133 q134 q135 q136 q137 q138 q139 q140 q141 q142 q143 q144 q145 q146 q147 q148 q149 q150:Value,Code.wp Za geCode (bodyPost Za Tryz.f26 (Fg w s raw x)) ⟨[scV sc (.slice f sc.vars.length g) (.slice a sc.arrays.length b) (.slice c sc.funcs.length e),.pointer (some ⟨s,0,none⟩),.int .i64 d,.pointer (some ⟨w.heap.size,0,none⟩),q4,q5,.pointer (some ⟨w.heap.size+1,0,none⟩),.int .i64 k,.bool sc.hasVars,.bool sc.hasArrays,.bool sc.hasFuncs,q11,q12,q13,q14,q15,q16,q17,q18,q19,q20,q21,q22,q23,q24,q25,q26,q27,q28,q29,q30,q31,q32,q33,q34,q35,q36,q37,q38,q39,q40,q41,q42,q43,q44,q45,q46,q47,q48,q49,q50,q51,q52,q53,q54,q55,q56,q57,q58,q59,q60,q61,q62,q63,q64,q65,q66,q67,q68,q69,q70,q71,q72,q73,q74,q75,q76,q77,q78,q79,q80,q81,q82,q83,q84,q85,q86,q87,q88,q89,q90,q91,q92,q93,q94,q95,q96,q97,q98,q99,q100,q101,q102,q103,q104,q105,q106,q107,q108,q109,q110,q111,q112,q113,q114,q115,q116,q117,q118,q119,q120,q121,q122,q123,q124,q125,q126,q127,q128,q129,q130,q131,q132,q133,q134,q135,q136,q137,q138,q139,q140,q141,q142,q143,q144,q145,q146,q147,q148,q149,q150].toArray,[]⟩ w2
theorem ge_pre {d s:Nat}(T:d≤1000){raw:List Int}{a:Nat}{sc:Sc}{m:Option Zt}{n:Nat}{f:Option Zt}{h:Nat}{i:Option Zt}{j:Nat}{w:Zr}(L:Az w s raw a)(u:Fy s w sc (.slice m sc.vars.length n) (.slice f sc.arrays.length h) (.slice i sc.funcs.length j)){k:Int}(b:gK raw d a=k){x:Ex ×Nat}(M:∀w2,GeH d s raw sc m n f h i j (Ab raw a 12).2 k w w2→GeG d s raw sc m n f h i j k w w2 x):
  Zs Za 26 #[scV sc (.slice m sc.vars.length n) (.slice f sc.arrays.length h) (.slice i sc.funcs.length j),.pointer (some ⟨s,0,none⟩),.int .i64 d] w (Fg w s raw x):=by
 have lv:=u.v1;have V:=u.a1;have W:=u.f1;have U:=L.lt;have r:Zq (∀v,Az v s raw a→Zs Za 21 #[π s,ι 12] v (Eb v s raw (ι (Ab raw a 12).1) (Ab raw a 12).2)):=fun v ad=>Co s raw a 12 v ad (by decide) (by decide)
 have ag:=Am raw a 12 (by decide);have ah:0≤k∧k<12:=by rw[←b];unfold gK;split<;>omega
 have S:(d<2∧(Ab raw a 12).1 % 4=k)∨(2≤d∧(Ab raw a 12).1=k):=by
  unfold gK at b;split at b
  ·exact .inl ⟨by omega,b⟩
  ·exact .inr ⟨by omega,b⟩
 clear b;have G:=Zb M;clear M;generalize Ab raw a 12=g at*;obtain⟨g,aj⟩:=g;obtain⟨Q,R⟩:=ah;dsimp only at ag S r G;have J:Zu w.heap.size w ((w.alloc (.cells #[ρ m sc.vars n,ρ f sc.arrays h,ρ i sc.funcs j,.bool sc.free,.bool sc.loop] 69)).alloc (ζ)):=(bA).alloc (by simp) _;have K:=Ze (w.alloc (.cells #[ρ m sc.vars n,ρ f sc.arrays h,ρ i sc.funcs j,.bool sc.free,.bool sc.loop] 69)) η 35;rw[show(w.alloc (.cells #[ρ m sc.vars n,ρ f sc.arrays h,ρ i sc.funcs j,.bool sc.free,.bool sc.loop] 69)).heap.size=w.heap.size+1 by simp]at K;obtain⟨y,A,B⟩:=Y3 ((Ze w [ρ m sc.vars n,ρ f sc.arrays h,ρ i sc.funcs j,.bool sc.free,.bool sc.loop] 69).alloc (ζ)) K (L.old J);have z:Zq (SFr s w ((w.alloc (.cells #[ρ m sc.vars n,ρ f sc.arrays h,ρ i sc.funcs j,.bool sc.free,.bool sc.loop] 69)).alloc (ζ))):=Zc J;have N:=Zb u;have P:Zq (w.heap.size+1≠s):=by show _≠_;omega
 have O:Zq (w.heap.size≠s):=by show _≠_;omega
 have an:s<w.heap.size+1:=by omega
 have am:w.heap.size≤w.heap.size+1:=by omega
 have ak:(0:Int)≤(d:Int):=by omega
 have al:(d:Int)≤1000:=by omega
 have E:Zq (sc.hasVars=(decide (0<sc.vars.length)||sc.free)):=Wo sc;have C:Zq (sc.hasArrays=(decide (0<sc.arrays.length)||sc.free)):=Qu sc;have D:Zq (sc.hasFuncs=(decide (0<sc.funcs.length)||sc.free)):=Tv sc;clear J K L u;rcases S with⟨ae,b⟩|⟨ae,b⟩
 ·have af:(d:Int)<2:=by omega
  have X:=Zb b;clear b;go_enter func26,ntmps26;go_wp2_with fail;refine(r.o _ B.o).mono ?_;rintro ai w2 ⟨rfl,t,l⟩;obtain⟨I,F,H,p⟩:=Y4 t (z.o.trans l) (A.o.sfr l P.o) (y.o.sfr l O.o);clear t l B z A y r;obtain ⟨Y, Z, aa, ab, ac⟩ := τ5 p.o;go_upto_region 4 with(fail);go_cut [8] (fun q e=>q=.bool sc.hasVars∧w2=e)
  case first=>
   by_cases hlv:0<sc.vars.length
   ·have c:(0:Int)<(sc.vars.length:Int):=by omega
    go_wp2;go_meet;exact⟨by rw[E.out,decide_eq_true hlv];rfl,rfl⟩
   ·have c:(sc.vars.length:Int)≤0:=by omega
    go_wp2;go_meet;exact⟨by rw[E.out,decide_eq_false hlv];rfl,rfl⟩
  case rest=>
  obtain⟨rfl,rfl⟩:=hcut;go_upto_region 5 with(fail);go_cut [9] (fun q e=>q=.bool sc.hasArrays∧w2=e)
  case first=>
   by_cases hlv:0<sc.arrays.length
   ·have c:(0:Int)<(sc.arrays.length:Int):=by omega
    go_wp2;go_meet;exact⟨by rw[C.out,decide_eq_true hlv];rfl,rfl⟩
   ·have c:(sc.arrays.length:Int)≤0:=by omega
    go_wp2;go_meet;exact⟨by rw[C.out,decide_eq_false hlv];rfl,rfl⟩
  case rest=>
  obtain⟨rfl,rfl⟩:=hcut;go_upto_region 6 with(fail);go_cut [10] (fun q e=>q=.bool sc.hasFuncs∧w2=e)
  case first=>
   by_cases hlv:0<sc.funcs.length
   ·have c:(0:Int)<(sc.funcs.length:Int):=by omega
    go_wp2;go_meet;exact⟨by rw[D.out,decide_eq_true hlv];rfl,rfl⟩
   ·have c:(sc.funcs.length:Int)≤0:=by omega
    go_wp2;go_meet;exact⟨by rw[D.out,decide_eq_false hlv];rfl,rfl⟩
  case rest=>
  obtain⟨rfl,rfl⟩:=hcut;rw[X.o];apply_assumption
  refine G.o w2 ⟨T,lv,V,W,U,N.o,I.o,F.o,H.o,p.o,Q,R⟩ _ _ _ _ _ _ _ _ _ _ _ _ _ _ _ _ _ _ _ _ _ _ _ _ _ _ _ _ _ _ _ _ _ _ _ _ _ _ _ _ _ _ _ _ _ _ _ _ _ _ _ _ _ _ _ _ _ _ _ _ _ _ _ _ _ _ _ _ _ _ _ _ _ _ _ _ _ _ _ _ _ _ _ _ _ _ _ _ _ _ _ _ _ _ _ _ _ _ _ _ _ _ _ _ _ _ _ _ _ _ _ _ _ _ _ _ _ _ _ _ _ _ _ _ _ _ _ _ _ _ _ _ _ _ _ _ _ _ _ _ _ _
 ·have af:(2:Int)≤(d:Int):=by omega
  subst b;go_enter func26,ntmps26;go_wp2_with fail;refine(r.o _ B.o).mono ?_;rintro ai w2 ⟨rfl,t,l⟩;obtain⟨I,F,H,p⟩:=Y4 t (z.o.trans l) (A.o.sfr l P.o) (y.o.sfr l O.o);clear t l B z A y r;obtain ⟨Y, Z, aa, ab, ac⟩ := τ5 p.o;go_upto_region 4 with(fail);go_cut [8] (fun q e=>q=.bool sc.hasVars∧w2=e)
  case first=>
   by_cases hlv:0<sc.vars.length
   ·have c:(0:Int)<(sc.vars.length:Int):=by omega
    go_wp2;go_meet;exact⟨by rw[E.out,decide_eq_true hlv];rfl,rfl⟩
   ·have c:(sc.vars.length:Int)≤0:=by omega
    go_wp2;go_meet;exact⟨by rw[E.out,decide_eq_false hlv];rfl,rfl⟩
  case rest=>
  obtain⟨rfl,rfl⟩:=hcut;go_upto_region 5 with(fail);go_cut [9] (fun q e=>q=.bool sc.hasArrays∧w2=e)
  case first=>
   by_cases hlv:0<sc.arrays.length
   ·have c:(0:Int)<(sc.arrays.length:Int):=by omega
    go_wp2;go_meet;exact⟨by rw[C.out,decide_eq_true hlv];rfl,rfl⟩
   ·have c:(sc.arrays.length:Int)≤0:=by omega
    go_wp2;go_meet;exact⟨by rw[C.out,decide_eq_false hlv];rfl,rfl⟩
  case rest=>
  obtain⟨rfl,rfl⟩:=hcut;go_upto_region 6 with(fail);go_cut [10] (fun q e=>q=.bool sc.hasFuncs∧w2=e)
  case first=>
   by_cases hlv:0<sc.funcs.length
   ·have c:(0:Int)<(sc.funcs.length:Int):=by omega
    go_wp2;go_meet;exact⟨by rw[D.out,decide_eq_true hlv];rfl,rfl⟩
   ·have c:(sc.funcs.length:Int)≤0:=by omega
    go_wp2;go_meet;exact⟨by rw[D.out,decide_eq_false hlv];rfl,rfl⟩
  case rest=>
  obtain⟨rfl,rfl⟩:=hcut;apply_assumption
  refine G.o w2 ⟨T,lv,V,W,U,N.o,I.o,F.o,H.o,p.o,Q,R⟩ _ _ _ _ _ _ _ _ _ _ _ _ _ _ _ _ _ _ _ _ _ _ _ _ _ _ _ _ _ _ _ _ _ _ _ _ _ _ _ _ _ _ _ _ _ _ _ _ _ _ _ _ _ _ _ _ _ _ _ _ _ _ _ _ _ _ _ _ _ _ _ _ _ _ _ _ _ _ _ _ _ _ _ _ _ _ _ _ _ _ _ _ _ _ _ _ _ _ _ _ _ _ _ _ _ _ _ _ _ _ _ _ _ _ _ _ _ _ _ _ _ _ _ _ _ _ _ _ _ _ _ _ _ _ _ _ _ _ _ _ _ _
theorem yP {d s:Nat}{raw:List Int}{sc:Sc}{g:Option Zt}{h:Nat}{j:Option Zt}{l:Nat}{m:Option Zt}{p:Nat}{a:Nat}{k:Int}{w w2:Zr}(T:GeH d s raw sc g h j l m p a k w w2)(A:k=1∨k=2)(W:sc.hasVars=true):GeG d s raw sc g h j l m p k w w2 (Dg sc raw (Aw sc raw (d-1)) k a):=by
 obtain⟨al,lv,ao,ap,an,C,z,x,y,u,ai,aj⟩:=T;obtain⟨K,I,t,G,r⟩:=Y5 C z x y u;have N:Zq (w.heap.size+1≠s):=by show _≠_;omega
 have M:Zq (w.heap.size≠s):=by show _≠_;omega
 have f:s<w.heap.size+1:=by omega
 have e:w.heap.size≤w.heap.size+1:=by omega
 have ak:(0:Int)≤(d:Int):=by omega
 have am:(d:Int)≤1000:=by omega
 clear C z x y u;have q:Dg sc raw (Aw sc raw (d-1)) k a=(.mk 2 0 0 (Gn sc.free sc.vars raw a).1 [],(Gn sc.free sc.vars raw a).2):=by unfold Dg;rw[if_pos ⟨A,W⟩]
 rw[q];clear q;have F:Zq (∀c,Az c s raw a→Bb (· ≠s) c sc.vars (ρ g sc.vars h)→Zs Za 49 #[scV sc (ρ g sc.vars h) (ρ j sc.arrays l) (ρ m sc.funcs p),π s,ρ g sc.vars h] c (Eb c s raw (σ (Gn sc.free sc.vars raw a).1) (Gn sc.free sc.vars raw a).2)):=fun c U V=>aB s raw a sc sc.vars c U V lv
 generalize Gn sc.free sc.vars raw a=n at*;unfold GeG;intros
 conv=>arg 2;whnf
 rcases A with rfl|rfl
 all_goals
  obtain ⟨Y, Z, aa, ab, ac⟩ := τ5 r.o;go_wp2_with fail;refine(F.o _ I.o (K.o.vars.keep t.o.keeps)).mono ?_;rintro aq ar ⟨rfl,B,i⟩;obtain⟨J,D,b,X⟩:=Y4 B (t.o.trans i) (G.o.sfr i N.o) (r.o.sfr i M.o);clear B i;obtain ⟨au, av, aw, ax, ay⟩ := τ5 b.o;have ad:=b.o.fz 0;have ae:=b.o.fz 1;have af:=b.o.fz 2;have ag:=b.o.fz 3;have ah:=b.o.fz 4;obtain⟨H,L,E⟩:=Y3 (((((b.o.set 0 (ι 2)).set 1 (ι 0)).set 2 (ι 0)).set 3 (σ n.1)).set 4 (ν)) (((((J.o.other f 0 (ι 2)).other f 1 (ι 0)).other f 2 (ι 0)).other f 3 (σ n.1)).other f 4 (ν)) (((((D.o.setNew e 0 (ι 2)).setNew e 1 (ι 0)).setNew e 2 (ι 0)).setNew e 3 (σ n.1)).setNew e 4 (ν));go_wp2_with fail;obtain ⟨O, P, Q, R, S⟩ := τ5 H.o;exact Zv (v:=.agg #[ι 2,ι 0,ι 0,σ n.1,ν]) (by simp [results,Zf,go_sem,O,P,Q,R,S]) rfl ⟨ν,rfl,L.o,E.o,Zk,(Jh ⟨by show _≤(0:Int);decide,by show(0:Int)≤_;decide⟩)⟩
theorem ge_read {d s:Nat}{raw:List Int}{sc:Sc}{A:Option Zt}{B:Nat}{i:Option Zt}{j:Nat}{l:Option Zt}{m:Nat}{a:Nat}{k:Int}{w w2:Zr}(T:GeH d s raw sc A B i j l m a k w w2)(u:k=3)(x:(Ab raw a 3).1=2):GeG d s raw sc A B i j l m k w w2 (Dg sc raw (Aw sc raw (d-1)) k a):=by
 obtain⟨af,lv,ai,aj,ah,z,t,p,r,n,ac,ad⟩:=T;obtain⟨W,J,D,H,C⟩:=Y5 z t p r n;have N:Zq (w.heap.size+1≠s):=by show _≠_;omega
 have M:Zq (w.heap.size≠s):=by show _≠_;omega
 have e:s<w.heap.size+1:=by omega
 have c:w.heap.size≤w.heap.size+1:=by omega
 have ae:(0:Int)≤(d:Int):=by omega
 have ag:(d:Int)≤1000:=by omega
 clear z t p r n;have h:Dg sc raw (Aw sc raw (d-1)) k a=(.mk 7 0 0 [] [],(Ab raw a 3).2):=by unfold Dg;rw[if_neg (by omega),if_pos ⟨u,x⟩]
 rw[h];clear h;have G:Zq (∀f,Az f s raw a→Zs Za 21 #[π s,ι 3] f (Eb f s raw (ι (Ab raw a 3).1) (Ab raw a 3).2)):=fun f U=>Co s raw a 3 f U (by decide) (by decide)
 have al:=Am raw a 3 (by decide);generalize Ab raw a 3=q at*;obtain⟨q,ak⟩:=q;dsimp only at*;subst x;unfold GeG;intros
 conv=>arg 2;whnf
 subst u;go_wp2_with fail;refine(G.o _ J.o).mono ?_;rintro am an ⟨rfl,y,g⟩;obtain⟨K,E,b,V⟩:=Y4 y (D.o.trans g) (H.o.sfr g N.o) (C.o.sfr g M.o);clear y g;obtain ⟨ao, ap, aq, ar, au⟩ := τ5 b.o;have X:=b.o.fz 0;have Y:=b.o.fz 1;have Z:=b.o.fz 2;have aa:=b.o.fz 3;have ab:=b.o.fz 4;obtain⟨I,L,F⟩:=Y3 (((((b.o.set 0 (ι 7)).set 1 (ι 0)).set 2 (ι 0)).set 3 (ε)).set 4 (ν)) (((((K.o.other e 0 (ι 7)).other e 1 (ι 0)).other e 2 (ι 0)).other e 3 (ε)).other e 4 (ν)) (((((E.o.setNew c 0 (ι 7)).setNew c 1 (ι 0)).setNew c 2 (ι 0)).setNew c 3 (ε)).setNew c 4 (ν));go_wp2_with fail;obtain ⟨O, P, Q, R, S⟩ := τ5 I.o;exact Zv (v:=.agg #[ι 7,ι 0,ι 0,ε,ν]) (by simp [results,Zf,go_sem,O,P,Q,R,S]) rfl ⟨ν,rfl,L.o,F.o,Zk,(Jh ⟨by show _≤(0:Int);decide,by show(0:Int)≤_;decide⟩)⟩
theorem ge_one {d s:Nat}{raw:List Int}{sc:Sc}{z:Option Zt}{A:Nat}{n:Option Zt}{p:Nat}{r:Option Zt}{t:Nat}{a:Nat}{k:Int}{w w2:Zr}(aR:2≤d)(h:GeH d s raw sc z A n p r t a k w w2)(X:k=4)(aC:Kb (d-1)):GeG d s raw sc z A n p r t k w w2 (Dg sc raw (Aw sc raw (d-1)) k a):=by
 obtain⟨aT,lv,aX,aY,aW,Z,W,U,V,T,aP,aQ⟩:=h;obtain⟨ap,am,ad,ak,L⟩:=Y5 Z W U V T;have S:Zq (w.heap.size+1≠s):=by show _≠_;omega
 have R:Zq (w.heap.size≠s):=by show _≠_;omega
 have m:s<w.heap.size+1:=by omega
 have l:w.heap.size≤w.heap.size+1:=by omega
 have aS:(0:Int)≤(d:Int):=by omega
 have aU:(2:Int)≤(d:Int):=by omega
 have aV:(d:Int)≤1000:=by omega
 clear Z W U V T;have K:Dg sc raw (Aw sc raw (d-1)) k a=(.mk 3 (17+(Ab raw a 3).1) 0 [] [(Aw sc raw (d-1) (Ab raw a 3).2).1],(Aw sc raw (d-1) (Ab raw a 3).2).2):=by unfold Dg;rw[if_neg (by omega),if_neg (by omega),if_neg (by omega),if_pos X]
 rw[K];clear K;have ai:Zq (∀c,Az c s raw a→Zs Za 21 #[π s,ι 3] c (Eb c s raw (ι (Ab raw a 3).1) (Ab raw a 3).2)):=fun c H=>Co s raw a 3 c H (by decide) (by decide)
 have aD:=Am raw a 3 (by decide);generalize Ab raw a 3=q at*;obtain⟨q,aa⟩:=q;dsimp only at*;have ac:Zq (((d-1:Nat):Int)=(d:Int)-1):=by show _=_;omega
 have ah:Zq (∀c b,Az c s raw b→Fy s c sc (ρ z sc.vars A) (ρ n sc.arrays p) (ρ r sc.funcs t)→Zs Za 26 #[scV sc (ρ z sc.vars A) (ρ n sc.arrays p) (ρ r sc.funcs t),π s,ι ((d:Int)-1)] c (Fg c s raw (Aw sc raw (d-1) b))):=fun c b H aA=>by have q:=aC s raw b sc _ _ _ c H aA;rw[ac.o]at q;exact q
 obtain⟨q0,q1⟩:=aD;unfold GeG;intros
 conv=>arg 2;whnf
 subst X;obtain ⟨C, D, E, F, G⟩ := τ5 L.o;go_wp2_with fail;refine(ai.o _ am.o).mono ?_;rintro aE aF ⟨rfl,Y,u⟩;obtain⟨an,N,O,M⟩:=Y4 Y (ad.o.trans u) (ak.o.sfr u S.o) (L.o.sfr u R.o);clear Y u;clear C D E F G;obtain ⟨C, D, E, F, G⟩ := τ5 M.o;go_wp2_with fail;refine(ah.o _ aa an.o (ap.o.sfr N.o)).mono ?_;generalize Aw sc raw (d-1) aa=x at*;obtain⟨x,be⟩:=x;rintro aE e ⟨bf,rfl,J,j,y,I⟩;obtain⟨xs,B,rfl⟩:=y.shape;dsimp only at J y I ⊢;obtain⟨ao,ae,P,ab⟩:=Y4 J (N.o.trans j) (O.o.sfr j S.o) (M.o.sfr j R.o);have aB:w.heap.size+2≤aF.heap.size:=by have:=O.o.lt;omega
 obtain⟨au,aj,aH⟩:=Y3 (y.mono (D':=(w.heap.size+2≤ ·)) (fun b h=>Zd aB h)) I j;clear J j y I;clear C D E F G;have i:w.heap.size+1<w.heap.size+2:=by omega
 have g:Zu e.heap.size e (e.alloc (ξ x (ρ xs x.args B))):=bA;obtain⟨Q,af,f,aG⟩:=Y4 (ao.o.old g) (ae.o.trans (Zc g)) (P.o.old g) (ab.o.old g);have ar:Zq (Ag (w.heap.size+2≤ ·) (e.alloc (ξ x (ρ xs x.args B))) [x] (κ e.heap.size 1 1)):=.one x (ρ xs x.args B) (by show _≤_;have:=P.o.lt;omega) (Dv.new e (Ba x (ρ xs x.args B)) 35) (au.out.old g) aj.o;clear g;have aJ:Zq True:=trivial;have aI:=Q;obtain ⟨aZ, ba, bb, bc, bd⟩ := τ5 f.o;have aK:=f.o.fz 0;have aL:=f.o.fz 1;have aM:=f.o.fz 2;have aN:=f.o.fz 3;have aO:=f.o.fz 4;obtain⟨al,aq,ag⟩:=Y3 (((((f.o.set 0 (ι 3)).set 1 (ι (17+q))).set 2 (ι 0)).set 3 (ε)).set 4 (κ e.heap.size 1 1)) (((((Q.o.other m 0 (ι 3)).other m 1 (ι (17+q))).other m 2 (ι 0)).other m 3 (ε)).other m 4 (κ e.heap.size 1 1)) (((((af.o.setNew l 0 (ι 3)).setNew l 1 (ι (17+q))).setNew l 2 (ι 0)).setNew l 3 (ε)).setNew l 4 (κ e.heap.size 1 1))
 go_wp2_with fail;obtain ⟨av, aw, ax, ay, az⟩ := τ5 al.o;exact Zv (v:=.agg #[ι 3,ι (17+q),ι 0,ε,κ e.heap.size 1 1]) (by simp [results,Zf,go_sem,av,aw,ax,ay,az]) rfl ⟨κ e.heap.size 1 1,rfl,aq.o,ag.o,((((((ar.o.keep (Av _ i 0 _)).keep (Av _ i 1 _)).keep (Av _ i 2 _)).keep (Av _ i 3 _)).keep (Av _ i 4 _)).mono (fun b h=>(Zd (by omega) h:w.heap.size≤b))),(Jh ⟨by show _≤(0:Int);decide,by show(0:Int)≤_;decide⟩)⟩
@[go_sem] theorem field_ar0 (a b:Value) (w:Zr):(Instr.field 60 (.agg #[a,b]) 0).run Za w=.ok a w:=by kernel_rfl
theorem tF {d s:Nat}{raw:List Int}{sc:Sc}{u:Option Zt}{y:Nat}{g:Option Zt}{h:Nat}{j:Option Zt}{l:Nat}{c:Nat}{k:Int}{w w2:Zr}(aR:2≤d)(m:GeH d s raw sc u y g h j l c k w w2)(aa:k=5)(aC:sc.hasArrays=true)(aE:Kb (d-1)):GeG d s raw sc u y g h j l k w w2 (Dg sc raw (Aw sc raw (d-1)) k c):=by
 obtain⟨aT,lv,aF,aX,aW,ac,Z,X,Y,W,aP,aQ⟩:=m;obtain⟨T,ao,P,am,N⟩:=Y5 ac Z X Y W;have V:Zq (w.heap.size+1≠s):=by show _≠_;omega
 have U:Zq (w.heap.size≠s):=by show _≠_;omega
 have t:s<w.heap.size+1:=by omega
 have r:w.heap.size≤w.heap.size+1:=by omega
 have aS:(0:Int)≤(d:Int):=by omega
 have aU:(2:Int)≤(d:Int):=by omega
 have aV:(d:Int)≤1000:=by omega
 clear ac Z X Y W;have M:Dg sc raw (Aw sc raw (d-1)) k c=(.mk 6 0 0 (Cq sc.free sc.arrays raw c).1.name [(Aw sc raw (d-1) (Cq sc.free sc.arrays raw c).2).1],(Aw sc raw (d-1) (Cq sc.free sc.arrays raw c).2).2):=by unfold Dg;rw[if_neg (by omega),if_neg (by omega),if_neg (by omega),if_neg (by omega),if_pos ⟨aa,aC⟩]
 rw[M];clear M;have ak:Zq (∀a,Az a s raw c→Cd (· ≠s) a sc.arrays (ρ g sc.arrays h)→Zs Za 22 #[scV sc (ρ u sc.vars y) (ρ g sc.arrays h) (ρ j sc.funcs l),π s] a (Eb a s raw (.agg #[.string (Aa (Cq sc.free sc.arrays raw c).1.name),ι (Cq sc.free sc.arrays raw c).1.size]) (Cq sc.free sc.arrays raw c).2)):=fun a I J=>Qn s raw c sc _ _ _ a I J aF
 generalize Cq sc.free sc.arrays raw c=q at*;obtain⟨⟨B,aY⟩,ad⟩:=q;dsimp only at*;have af:Zq (((d-1:Nat):Int)=(d:Int)-1):=by show _=_;omega
 have aj:Zq (∀a b,Az a s raw b→Fy s a sc (ρ u sc.vars y) (ρ g sc.arrays h) (ρ j sc.funcs l)→Zs Za 26 #[scV sc (ρ u sc.vars y) (ρ g sc.arrays h) (ρ j sc.funcs l),π s,ι ((d:Int)-1)] a (Fg a s raw (Aw sc raw (d-1) b))):=fun a b I J=>by have q:=aE s raw b sc _ _ _ a I J;rw[af.o]at q;exact q
 unfold GeG;intros
 conv=>arg 2;whnf
 subst aa;obtain ⟨D, E, F, G, H⟩ := τ5 N.o;go_wp2_with fail;refine(ak.o _ ao.o (T.o.arrays.keep P.o.keeps)).mono ?_;rintro aG aH ⟨rfl,ab,z⟩;obtain⟨ap,Q,R,O⟩:=Y4 ab (P.o.trans z) (am.o.sfr z V.o) (N.o.sfr z U.o);clear ab z;clear D E F G H;obtain ⟨D, E, F, G, H⟩ := τ5 O.o;go_wp2_with fail;refine(aj.o _ ad ap.o (T.o.sfr Q.o)).mono ?_;generalize Aw sc raw (d-1) ad=x at*;obtain⟨x,be⟩:=x;rintro aG e ⟨bf,rfl,L,p,A,K⟩;obtain⟨xs,C,rfl⟩:=A.shape;dsimp only at L A K ⊢;obtain⟨aq,ag,S,ae⟩:=Y4 L (Q.o.trans p) (R.o.sfr p V.o) (O.o.sfr p U.o);have aD:w.heap.size+2≤aH.heap.size:=by have:=R.o.lt;omega
 obtain⟨aw,al,aJ⟩:=Y3 (A.mono (D':=(w.heap.size+2≤ ·)) (fun b m=>Zd aD m)) K p;clear L p A K;clear D E F G H;have n:w.heap.size+1<w.heap.size+2:=by omega
 have i:Zu e.heap.size e (e.alloc (ξ x (ρ xs x.args C))):=bA;obtain⟨ar,ah,f,aI⟩:=Y4 (aq.o.old i) (ag.o.trans (Zc i)) (S.o.old i) (ae.o.old i);have av:Zq (Ag (w.heap.size+2≤ ·) (e.alloc (ξ x (ρ xs x.args C))) [x] (κ e.heap.size 1 1)):=.one x (ρ xs x.args C) (by show _≤_;have:=S.o.lt;omega) (Dv.new e (Ba x (ρ xs x.args C)) 35) (aw.out.old i) al.o;clear i;obtain ⟨aZ, ba, bb, bc, bd⟩ := τ5 f.o;have aK:=f.o.fz 0;have aL:=f.o.fz 1;have aM:=f.o.fz 2;have aN:=f.o.fz 3;have aO:=f.o.fz 4;obtain⟨an,au,ai⟩:=Y3 (((((f.o.set 0 (ι 6)).set 1 (ι 0)).set 2 (ι 0)).set 3 (σ B)).set 4 (κ e.heap.size 1 1)) (((((ar.o.other t 0 (ι 6)).other t 1 (ι 0)).other t 2 (ι 0)).other t 3 (σ B)).other t 4 (κ e.heap.size 1 1)) (((((ah.o.setNew r 0 (ι 6)).setNew r 1 (ι 0)).setNew r 2 (ι 0)).setNew r 3 (σ B)).setNew r 4 (κ e.heap.size 1 1))
 go_wp2_with fail;obtain ⟨ax, ay, az, aA, aB⟩ := τ5 an.o;exact Zv (v:=.agg #[ι 6,ι 0,ι 0,σ B,κ e.heap.size 1 1]) (by simp [results,Zf,go_sem,ax,ay,az,aA,aB]) rfl ⟨κ e.heap.size 1 1,rfl,au.o,ai.o,((((((av.o.keep (Av _ n 0 _)).keep (Av _ n 1 _)).keep (Av _ n 2 _)).keep (Av _ n 3 _)).keep (Av _ n 4 _)).mono (fun b m=>(Zd (by omega) m:w.heap.size≤b))),(Jh ⟨by show _≤(0:Int);decide,by show(0:Int)≤_;decide⟩)⟩
theorem jR {d s:Nat}{raw:List Int}{sc:Sc}{bf:Option Zt}{bg:Nat}{bb:Option Zt}{bc:Nat}{bd:Option Zt}{be:Nat}{J:Nat}{k:Int}{w w2:Zr}(bZ:2≤d)(i:GeH d s raw sc bf bg bb bc bd be J k w w2)(bl:7≤k∨(k=5∧sc.hasArrays=false)∨(k=6∧sc.hasFuncs=false))(bU:Kb (d-1)):GeG d s raw sc bf bg bb bc bd be k w w2 (Dg sc raw (Aw sc raw (d-1)) k J):=by
 obtain⟨cb,lv,cf,cg,ce,bB,bz,bw,bx,bv,bW,bX⟩:=i;obtain⟨aj,bk,bh,bj,ah⟩:=Y5 bB bz bw bx bv;have Q:Zq (w.heap.size+1≠s):=by show _≠_;omega
 have P:Zq (w.heap.size≠s):=by show _≠_;omega
 have F:s<w.heap.size+1:=by omega
 have E:w.heap.size≤w.heap.size+1:=by omega
 have ca:(0:Int)≤(d:Int):=by omega
 have cc:(2:Int)≤(d:Int):=by omega
 have cd:(d:Int)≤1000:=by omega
 clear bB bz bw bx bv;have bm:Dg sc raw (Aw sc raw (d-1)) k J=(.mk 4 (1+(Ab raw J 16).1) 0 [] [(Aw sc raw (d-1) (Ab raw J 16).2).1,(Aw sc raw (d-1) (Aw sc raw (d-1) (Ab raw J 16).2).2).1],(Aw sc raw (d-1) (Aw sc raw (d-1) (Ab raw J 16).2).2).2):=by
  unfold Dg;rw[if_neg (by omega),if_neg (by omega),if_neg (by omega),if_neg (by omega),if_neg (by rintro⟨aV,ag⟩;rcases bl with i|⟨i,aU⟩|⟨i,aU⟩<;>first|omega|(rw[aU]at ag;cases ag)),if_neg (by rintro⟨aV,ag⟩;rcases bl with i|⟨i,aU⟩|⟨i,aU⟩<;>first|omega|(rw[aU]at ag;cases ag))]
 rw[bm];clear bm;have bi:Zq (∀K,Az K s raw J→Zs Za 21 #[π s,ι 16] K (Eb K s raw (ι (Ab raw J 16).1) (Ab raw J 16).2)):=fun K aV=>Co s raw J 16 K aV (by decide) (by decide)
 have bV:=Am raw J 16 (by decide);generalize Ab raw J 16=q at*;obtain⟨q,ak⟩:=q;dsimp only at*;have bS:Zq (((d-1:Nat):Int)=(d:Int)-1):=by show _=_;omega
 have ai:Zq (∀K b,Az K s raw b→Fy s K sc (ρ bf sc.vars bg) (ρ bb sc.arrays bc) (ρ bd sc.funcs be)→Zs Za 26 #[scV sc (ρ bf sc.vars bg) (ρ bb sc.arrays bc) (ρ bd sc.funcs be),π s,ι ((d:Int)-1)] K (Fg K s raw (Aw sc raw (d-1) b))):=fun K b aV ag=>by have q:=bU s raw b sc _ _ _ K aV ag;rw[bS.o]at q;exact q
 obtain⟨q0,q1⟩:=bV;unfold GeG;intros
 conv=>arg 2;whnf
 rcases bl with bY|⟨rfl,bT⟩|⟨rfl,bT⟩
 ·have ch:(k==1)=false:=beq_eq_false_iff_ne.2 (by omega)
  have ci:(k==2)=false:=beq_eq_false_iff_ne.2 (by omega);have cj:(k==3)=false:=beq_eq_false_iff_ne.2 (by omega);have ck:(k==4)=false:=beq_eq_false_iff_ne.2 (by omega);have cl:(k==5)=false:=beq_eq_false_iff_ne.2 (by omega);have cm:(k==6)=false:=beq_eq_false_iff_ne.2 (by omega);obtain ⟨p, r, t, u, z⟩ := τ5 ah.o;go_wp2_with fail;refine(bi.o _ bk.o).mono ?_;rintro ad ba ⟨rfl,ab,G⟩;obtain⟨aD,T,W,R⟩:=Y4 ab (bh.o.trans G) (bj.o.sfr G Q.o) (ah.o.sfr G P.o);clear ab G;clear p r t u z;obtain ⟨p, r, t, u, z⟩ := τ5 R.o;go_wp2_with fail;refine(ai.o _ ak aD.o (aj.o.sfr T.o)).mono ?_;generalize Aw sc raw (d-1) ak=x at*;obtain⟨x,af⟩:=x;rintro ad h ⟨bP,rfl,N,B,H,L⟩;obtain⟨xs,g,rfl⟩:=H.shape;dsimp only at N H L ⊢;obtain⟨Z,ao,aA,al⟩:=Y4 N (T.o.trans B) (W.o.sfr B Q.o) (R.o.sfr B P.o);have aW:w.heap.size+2≤ba.heap.size:=by have:=W.o.lt;omega
  obtain⟨aJ,av,bo⟩:=Y3 (H.mono (D':=(w.heap.size+2≤ ·)) (fun b i=>Zd aW i)) L B;clear N B H L;clear p r t u z;have m:Zu h.heap.size h (h.alloc (ξ x (ρ xs x.args g))):=bA;obtain⟨aE,U,X,S,ax,aK⟩:=Y6 (Z.o.old m) (ao.o.trans (Zc m)) (aA.o.old m) (al.o.old m) (Ze h (χ x (ρ xs x.args g)) 35) (aJ.out.old m);have aZ:h.heap.size≠s:=by have:=Z.o.lt;omega
  have bC:h.heap.size<(h.alloc (ξ x (ρ xs x.args g))).heap.size:=by simp
  clear m;obtain ⟨p, r, t, u, z⟩ := τ5 S.o;go_wp2_with fail;generalize h.alloc (ξ x (ρ xs x.args g))=ae at*;refine(ai.o _ af aE.o (aj.o.sfr U.o)).mono ?_;generalize Aw sc raw (d-1) af=y at*;obtain⟨y,bQ⟩:=y;rintro ad a ⟨bR,rfl,O,C,I,M⟩;obtain⟨e,c,rfl⟩:=I.shape;dsimp only at O I M ⊢;obtain⟨aa,ap,Y,am⟩:=Y4 O (U.o.trans C) (X.o.sfr C Q.o) (S.o.sfr C P.o);have aX:w.heap.size+2≤ae.heap.size:=by have:=X.o.lt;omega
  obtain⟨aN,aw,V⟩:=Y3 (I.mono (D':=(w.heap.size+2≤ ·)) (fun b i=>Zd aX i)) M C;clear O C I M;clear p r t u z;have ay:=Zb (ax.o.sfr V.o aZ);have ac:Db (w.heap.size+2≤ ·) ae a:=V.o.fresh (by omega);have aL:=Zb (aK.out.keep ac);clear ac;have f:Zu a.heap.size a (a.alloc (ξ y (ρ e y.args c))):=bA;obtain⟨aF,aq,aB,an,bp,aO⟩:=Y6 (aa.o.old f) (ap.o.trans (Zc f)) (Y.o.old f) (am.o.old f) (Ze a (χ y (ρ e y.args c)) 35) (aN.out.old f);have bE:a.heap.size≠s:=by have:=aa.o.lt;omega
  have bD:a.heap.size<(a.alloc (ξ y (ρ e y.args c))).heap.size:=by simp
  clear f;have f:Zu a.heap.size a (a.alloc (ξ y (ρ e y.args c))):=bA;obtain⟨aM,az⟩:=Y2 (aL.out.old f) (ay.o.old f);clear f;obtain ⟨bF, bG, bH, bI, bJ⟩ := τ5 az.o;have A:w.heap.size+1<w.heap.size+2:=by omega
  have l:Zu (a.alloc (ξ y (ρ e y.args c))).heap.size (a.alloc (ξ y (ρ e y.args c))) ((a.alloc (ξ y (ρ e y.args c))).alloc (.cells #[ι x.kind,ι x.op,ι x.n,σ x.name,ρ xs x.args g,ι y.kind,ι y.op,ι y.n,σ y.name,ρ e y.args c] 35)):=bA;obtain⟨aG,ar,j,bn⟩:=Y4 (aF.o.old l) (aq.o.trans (Zc l)) (aB.o.old l) (an.o.old l);have D:=Dv.new (a.alloc (ξ y (ρ e y.args c))) (Ba x (ρ xs x.args g)++Ba y (ρ e y.args c)) 35;rw[show(a.alloc (ξ y (ρ e y.args c))).heap.size=a.heap.size+1 by simp]at D;have D:Dv ((a.alloc (ξ y (ρ e y.args c))).alloc (.cells #[ι x.kind,ι x.op,ι x.n,σ x.name,ρ xs x.args g,ι y.kind,ι y.op,ι y.n,σ y.name,ρ e y.args c] 35)) (a.heap.size+1) 0 (Ba x (ρ xs x.args g)++Ba y (ρ e y.args c)):=D
  have aY:=Y.o.lt;have aI:Zq (Ag (w.heap.size+2≤ ·) ((a.alloc (ξ y (ρ e y.args c))).alloc (.cells #[ι x.kind,ι x.op,ι x.n,σ x.name,ρ xs x.args g,ι y.kind,ι y.op,ι y.n,σ y.name,ρ e y.args c] 35)) [x,y] (.slice (some ⟨a.heap.size+1,0,none⟩) 2 2)):=.two x y _ _ (by show _≤_;omega) D (aM.out.old l) av.o (aO.out.old l) aw.o;clear l D aY;obtain ⟨bK, bL, bM, bN, bO⟩ := τ5 j.o;have bq:=j.o.fz 0;have br:=j.o.fz 1;have bs:=j.o.fz 2;have bt:=j.o.fz 3;have bu:=j.o.fz 4;obtain⟨aC,aH,au⟩:=Y3 (((((j.o.set 0 (ι 4)).set 1 (ι (1+q))).set 2 (ι 0)).set 3 (ε)).set 4 (.slice (some ⟨a.heap.size+1,0,none⟩) 2 2)) (((((aG.o.other F 0 (ι 4)).other F 1 (ι (1+q))).other F 2 (ι 0)).other F 3 (ε)).other F 4 (.slice (some ⟨a.heap.size+1,0,none⟩) 2 2)) (((((ar.o.setNew E 0 (ι 4)).setNew E 1 (ι (1+q))).setNew E 2 (ι 0)).setNew E 3 (ε)).setNew E 4 (.slice (some ⟨a.heap.size+1,0,none⟩) 2 2));go_wp2_with fail;obtain ⟨aP, aQ, aR, aS, aT⟩ := τ5 aC.o;exact Zv (v:=.agg #[ι 4,ι (1+q),ι 0,ε,.slice (some ⟨a.heap.size+1,0,none⟩) 2 2]) (by simp [results,Zf,go_sem,aP,aQ,aR,aS,aT]) rfl ⟨.slice (some ⟨a.heap.size+1,0,none⟩) 2 2,rfl,aH.o,au.o,((((((aI.o.keep (Av _ A 0 _)).keep (Av _ A 1 _)).keep (Av _ A 2 _)).keep (Av _ A 3 _)).keep (Av _ A 4 _)).mono (fun b i=>(Zd (by omega) i:w.heap.size≤b))),(Jh ⟨by show _≤(0:Int);decide,by show(0:Int)≤_;decide⟩)⟩
 ·skip
  obtain ⟨p, r, t, u, z⟩ := τ5 ah.o;go_wp2_with fail;refine(bi.o _ bk.o).mono ?_;rintro ad ba ⟨rfl,ab,G⟩;obtain⟨aD,T,W,R⟩:=Y4 ab (bh.o.trans G) (bj.o.sfr G Q.o) (ah.o.sfr G P.o);clear ab G;clear p r t u z;obtain ⟨p, r, t, u, z⟩ := τ5 R.o;go_wp2_with fail;refine(ai.o _ ak aD.o (aj.o.sfr T.o)).mono ?_;generalize Aw sc raw (d-1) ak=x at*;obtain⟨x,af⟩:=x;rintro ad h ⟨bP,rfl,N,B,H,L⟩;obtain⟨xs,g,rfl⟩:=H.shape;dsimp only at N H L ⊢;obtain⟨Z,ao,aA,al⟩:=Y4 N (T.o.trans B) (W.o.sfr B Q.o) (R.o.sfr B P.o);have aW:w.heap.size+2≤ba.heap.size:=by have:=W.o.lt;omega
  obtain⟨aJ,av,bo⟩:=Y3 (H.mono (D':=(w.heap.size+2≤ ·)) (fun b i=>Zd aW i)) L B;clear N B H L;clear p r t u z;have m:Zu h.heap.size h (h.alloc (ξ x (ρ xs x.args g))):=bA;obtain⟨aE,U,X,S,ax,aK⟩:=Y6 (Z.o.old m) (ao.o.trans (Zc m)) (aA.o.old m) (al.o.old m) (Ze h (χ x (ρ xs x.args g)) 35) (aJ.out.old m);have aZ:h.heap.size≠s:=by have:=Z.o.lt;omega
  have bC:h.heap.size<(h.alloc (ξ x (ρ xs x.args g))).heap.size:=by simp
  clear m;obtain ⟨p, r, t, u, z⟩ := τ5 S.o;go_wp2_with fail;generalize h.alloc (ξ x (ρ xs x.args g))=ae at*;refine(ai.o _ af aE.o (aj.o.sfr U.o)).mono ?_;generalize Aw sc raw (d-1) af=y at*;obtain⟨y,bQ⟩:=y;rintro ad a ⟨bR,rfl,O,C,I,M⟩;obtain⟨e,c,rfl⟩:=I.shape;dsimp only at O I M ⊢;obtain⟨aa,ap,Y,am⟩:=Y4 O (U.o.trans C) (X.o.sfr C Q.o) (S.o.sfr C P.o);have aX:w.heap.size+2≤ae.heap.size:=by have:=X.o.lt;omega
  obtain⟨aN,aw,V⟩:=Y3 (I.mono (D':=(w.heap.size+2≤ ·)) (fun b i=>Zd aX i)) M C;clear O C I M;clear p r t u z;have ay:=Zb (ax.o.sfr V.o aZ);have ac:Db (w.heap.size+2≤ ·) ae a:=V.o.fresh (by omega);have aL:=Zb (aK.out.keep ac);clear ac;have f:Zu a.heap.size a (a.alloc (ξ y (ρ e y.args c))):=bA;obtain⟨aF,aq,aB,an,bp,aO⟩:=Y6 (aa.o.old f) (ap.o.trans (Zc f)) (Y.o.old f) (am.o.old f) (Ze a (χ y (ρ e y.args c)) 35) (aN.out.old f);have bE:a.heap.size≠s:=by have:=aa.o.lt;omega
  have bD:a.heap.size<(a.alloc (ξ y (ρ e y.args c))).heap.size:=by simp
  clear f;have f:Zu a.heap.size a (a.alloc (ξ y (ρ e y.args c))):=bA;obtain⟨aM,az⟩:=Y2 (aL.out.old f) (ay.o.old f);clear f;obtain ⟨bF, bG, bH, bI, bJ⟩ := τ5 az.o;have A:w.heap.size+1<w.heap.size+2:=by omega
  have l:Zu (a.alloc (ξ y (ρ e y.args c))).heap.size (a.alloc (ξ y (ρ e y.args c))) ((a.alloc (ξ y (ρ e y.args c))).alloc (.cells #[ι x.kind,ι x.op,ι x.n,σ x.name,ρ xs x.args g,ι y.kind,ι y.op,ι y.n,σ y.name,ρ e y.args c] 35)):=bA;obtain⟨aG,ar,j,bn⟩:=Y4 (aF.o.old l) (aq.o.trans (Zc l)) (aB.o.old l) (an.o.old l);have D:=Dv.new (a.alloc (ξ y (ρ e y.args c))) (Ba x (ρ xs x.args g)++Ba y (ρ e y.args c)) 35;rw[show(a.alloc (ξ y (ρ e y.args c))).heap.size=a.heap.size+1 by simp]at D;have D:Dv ((a.alloc (ξ y (ρ e y.args c))).alloc (.cells #[ι x.kind,ι x.op,ι x.n,σ x.name,ρ xs x.args g,ι y.kind,ι y.op,ι y.n,σ y.name,ρ e y.args c] 35)) (a.heap.size+1) 0 (Ba x (ρ xs x.args g)++Ba y (ρ e y.args c)):=D
  have aY:=Y.o.lt;have aI:Zq (Ag (w.heap.size+2≤ ·) ((a.alloc (ξ y (ρ e y.args c))).alloc (.cells #[ι x.kind,ι x.op,ι x.n,σ x.name,ρ xs x.args g,ι y.kind,ι y.op,ι y.n,σ y.name,ρ e y.args c] 35)) [x,y] (.slice (some ⟨a.heap.size+1,0,none⟩) 2 2)):=.two x y _ _ (by show _≤_;omega) D (aM.out.old l) av.o (aO.out.old l) aw.o;clear l D aY;obtain ⟨bK, bL, bM, bN, bO⟩ := τ5 j.o;have bq:=j.o.fz 0;have br:=j.o.fz 1;have bs:=j.o.fz 2;have bt:=j.o.fz 3;have bu:=j.o.fz 4;obtain⟨aC,aH,au⟩:=Y3 (((((j.o.set 0 (ι 4)).set 1 (ι (1+q))).set 2 (ι 0)).set 3 (ε)).set 4 (.slice (some ⟨a.heap.size+1,0,none⟩) 2 2)) (((((aG.o.other F 0 (ι 4)).other F 1 (ι (1+q))).other F 2 (ι 0)).other F 3 (ε)).other F 4 (.slice (some ⟨a.heap.size+1,0,none⟩) 2 2)) (((((ar.o.setNew E 0 (ι 4)).setNew E 1 (ι (1+q))).setNew E 2 (ι 0)).setNew E 3 (ε)).setNew E 4 (.slice (some ⟨a.heap.size+1,0,none⟩) 2 2));go_wp2_with fail;obtain ⟨aP, aQ, aR, aS, aT⟩ := τ5 aC.o;exact Zv (v:=.agg #[ι 4,ι (1+q),ι 0,ε,.slice (some ⟨a.heap.size+1,0,none⟩) 2 2]) (by simp [results,Zf,go_sem,aP,aQ,aR,aS,aT]) rfl ⟨.slice (some ⟨a.heap.size+1,0,none⟩) 2 2,rfl,aH.o,au.o,((((((aI.o.keep (Av _ A 0 _)).keep (Av _ A 1 _)).keep (Av _ A 2 _)).keep (Av _ A 3 _)).keep (Av _ A 4 _)).mono (fun b i=>(Zd (by omega) i:w.heap.size≤b))),(Jh ⟨by show _≤(0:Int);decide,by show(0:Int)≤_;decide⟩)⟩
 ·skip
  obtain ⟨p, r, t, u, z⟩ := τ5 ah.o;go_wp2_with fail;refine(bi.o _ bk.o).mono ?_;rintro ad ba ⟨rfl,ab,G⟩;obtain⟨aD,T,W,R⟩:=Y4 ab (bh.o.trans G) (bj.o.sfr G Q.o) (ah.o.sfr G P.o);clear ab G;clear p r t u z;obtain ⟨p, r, t, u, z⟩ := τ5 R.o;go_wp2_with fail;refine(ai.o _ ak aD.o (aj.o.sfr T.o)).mono ?_;generalize Aw sc raw (d-1) ak=x at*;obtain⟨x,af⟩:=x;rintro ad h ⟨bP,rfl,N,B,H,L⟩;obtain⟨xs,g,rfl⟩:=H.shape;dsimp only at N H L ⊢;obtain⟨Z,ao,aA,al⟩:=Y4 N (T.o.trans B) (W.o.sfr B Q.o) (R.o.sfr B P.o);have aW:w.heap.size+2≤ba.heap.size:=by have:=W.o.lt;omega
  obtain⟨aJ,av,bo⟩:=Y3 (H.mono (D':=(w.heap.size+2≤ ·)) (fun b i=>Zd aW i)) L B;clear N B H L;clear p r t u z;have m:Zu h.heap.size h (h.alloc (ξ x (ρ xs x.args g))):=bA;obtain⟨aE,U,X,S,ax,aK⟩:=Y6 (Z.o.old m) (ao.o.trans (Zc m)) (aA.o.old m) (al.o.old m) (Ze h (χ x (ρ xs x.args g)) 35) (aJ.out.old m);have aZ:h.heap.size≠s:=by have:=Z.o.lt;omega
  have bC:h.heap.size<(h.alloc (ξ x (ρ xs x.args g))).heap.size:=by simp
  clear m;obtain ⟨p, r, t, u, z⟩ := τ5 S.o;go_wp2_with fail;generalize h.alloc (ξ x (ρ xs x.args g))=ae at*;refine(ai.o _ af aE.o (aj.o.sfr U.o)).mono ?_;generalize Aw sc raw (d-1) af=y at*;obtain⟨y,bQ⟩:=y;rintro ad a ⟨bR,rfl,O,C,I,M⟩;obtain⟨e,c,rfl⟩:=I.shape;dsimp only at O I M ⊢;obtain⟨aa,ap,Y,am⟩:=Y4 O (U.o.trans C) (X.o.sfr C Q.o) (S.o.sfr C P.o);have aX:w.heap.size+2≤ae.heap.size:=by have:=X.o.lt;omega
  obtain⟨aN,aw,V⟩:=Y3 (I.mono (D':=(w.heap.size+2≤ ·)) (fun b i=>Zd aX i)) M C;clear O C I M;clear p r t u z;have ay:=Zb (ax.o.sfr V.o aZ);have ac:Db (w.heap.size+2≤ ·) ae a:=V.o.fresh (by omega);have aL:=Zb (aK.out.keep ac);clear ac;have f:Zu a.heap.size a (a.alloc (ξ y (ρ e y.args c))):=bA;obtain⟨aF,aq,aB,an,bp,aO⟩:=Y6 (aa.o.old f) (ap.o.trans (Zc f)) (Y.o.old f) (am.o.old f) (Ze a (χ y (ρ e y.args c)) 35) (aN.out.old f);have bE:a.heap.size≠s:=by have:=aa.o.lt;omega
  have bD:a.heap.size<(a.alloc (ξ y (ρ e y.args c))).heap.size:=by simp
  clear f;have f:Zu a.heap.size a (a.alloc (ξ y (ρ e y.args c))):=bA;obtain⟨aM,az⟩:=Y2 (aL.out.old f) (ay.o.old f);clear f;obtain ⟨bF, bG, bH, bI, bJ⟩ := τ5 az.o;have A:w.heap.size+1<w.heap.size+2:=by omega
  have l:Zu (a.alloc (ξ y (ρ e y.args c))).heap.size (a.alloc (ξ y (ρ e y.args c))) ((a.alloc (ξ y (ρ e y.args c))).alloc (.cells #[ι x.kind,ι x.op,ι x.n,σ x.name,ρ xs x.args g,ι y.kind,ι y.op,ι y.n,σ y.name,ρ e y.args c] 35)):=bA;obtain⟨aG,ar,j,bn⟩:=Y4 (aF.o.old l) (aq.o.trans (Zc l)) (aB.o.old l) (an.o.old l);have D:=Dv.new (a.alloc (ξ y (ρ e y.args c))) (Ba x (ρ xs x.args g)++Ba y (ρ e y.args c)) 35;rw[show(a.alloc (ξ y (ρ e y.args c))).heap.size=a.heap.size+1 by simp]at D;have D:Dv ((a.alloc (ξ y (ρ e y.args c))).alloc (.cells #[ι x.kind,ι x.op,ι x.n,σ x.name,ρ xs x.args g,ι y.kind,ι y.op,ι y.n,σ y.name,ρ e y.args c] 35)) (a.heap.size+1) 0 (Ba x (ρ xs x.args g)++Ba y (ρ e y.args c)):=D
  have aY:=Y.o.lt;have aI:Zq (Ag (w.heap.size+2≤ ·) ((a.alloc (ξ y (ρ e y.args c))).alloc (.cells #[ι x.kind,ι x.op,ι x.n,σ x.name,ρ xs x.args g,ι y.kind,ι y.op,ι y.n,σ y.name,ρ e y.args c] 35)) [x,y] (.slice (some ⟨a.heap.size+1,0,none⟩) 2 2)):=.two x y _ _ (by show _≤_;omega) D (aM.out.old l) av.o (aO.out.old l) aw.o;clear l D aY;obtain ⟨bK, bL, bM, bN, bO⟩ := τ5 j.o;have bq:=j.o.fz 0;have br:=j.o.fz 1;have bs:=j.o.fz 2;have bt:=j.o.fz 3;have bu:=j.o.fz 4;obtain⟨aC,aH,au⟩:=Y3 (((((j.o.set 0 (ι 4)).set 1 (ι (1+q))).set 2 (ι 0)).set 3 (ε)).set 4 (.slice (some ⟨a.heap.size+1,0,none⟩) 2 2)) (((((aG.o.other F 0 (ι 4)).other F 1 (ι (1+q))).other F 2 (ι 0)).other F 3 (ε)).other F 4 (.slice (some ⟨a.heap.size+1,0,none⟩) 2 2)) (((((ar.o.setNew E 0 (ι 4)).setNew E 1 (ι (1+q))).setNew E 2 (ι 0)).setNew E 3 (ε)).setNew E 4 (.slice (some ⟨a.heap.size+1,0,none⟩) 2 2));go_wp2_with fail;obtain ⟨aP, aQ, aR, aS, aT⟩ := τ5 aC.o;exact Zv (v:=.agg #[ι 4,ι (1+q),ι 0,ε,.slice (some ⟨a.heap.size+1,0,none⟩) 2 2]) (by simp [results,Zf,go_sem,aP,aQ,aR,aS,aT]) rfl ⟨.slice (some ⟨a.heap.size+1,0,none⟩) 2 2,rfl,aH.o,au.o,((((((aI.o.keep (Av _ A 0 _)).keep (Av _ A 1 _)).keep (Av _ A 2 _)).keep (Av _ A 3 _)).keep (Av _ A 4 _)).mono (fun b i=>(Zd (by omega) i:w.heap.size≤b))),(Jh ⟨by show _≤(0:Int);decide,by show(0:Int)≤_;decide⟩)⟩
def Rw(d:Nat):Prop:= ∀(s:Nat) (raw:List Int) (a:Nat) (sc:Sc) (e b c:Value) (w:Zr),Az w s raw a→Fy s w sc e b c→
 Zs Za 50 #[scV sc e b c,.pointer (some ⟨s,0,none⟩),.int .i64 d] w (Fg w s raw (Hu sc raw (Aw sc raw (d-1)) a))
theorem ge_call {d s:Nat}{raw:List Int}{sc:Sc}{t:Option Zt}{u:Nat}{l:Option Zt}{m:Nat}{p:Option Zt}{q:Nat}{a:Nat}{k:Int}{w w2:Zr}(av:2≤d)(f:GeH d s raw sc t u l m p q a k w w2)(I:k=6)(ai:sc.hasFuncs=true)(ak:Rw d):GeG d s raw sc t u l m p q k w w2 (Dg sc raw (Aw sc raw (d-1)) k a):=by
 obtain⟨ax,lv,aB,aC,aA,J,H,F,G,E,ar,au⟩:=f;obtain⟨S,Q,C,D,K⟩:=Y5 J H F G E;have U:Zq (w.heap.size+1≠s):=by show _≠_;omega
 have al:Zq (w.heap.size≠s):=by show _≠_;omega
 have i:s<w.heap.size+1:=by omega
 have h:w.heap.size≤w.heap.size+1:=by omega
 have aw:(0:Int)≤(d:Int):=by omega
 have ay:(2:Int)≤(d:Int):=by omega
 have az:(d:Int)≤1000:=by omega
 clear J H F G E;have B:Dg sc raw (Aw sc raw (d-1)) k a=Hu sc raw (Aw sc raw (d-1)) a:=by unfold Dg;rw[if_neg (by omega),if_neg (by omega),if_neg (by omega),if_neg (by omega),if_neg (by omega),if_pos ⟨I,ai⟩]
 rw[B];clear B;have N:Zq (∀e,Az e s raw a→Fy s e sc (ρ t sc.vars u) (ρ l sc.arrays m) (ρ p sc.funcs q)→Zs Za 50 #[scV sc (ρ t sc.vars u) (ρ l sc.arrays m) (ρ p sc.funcs q),π s,ι (d:Int)] e (Fg e s raw (Hu sc raw (Aw sc raw (d-1)) a))):=fun e ag ah=>ak s raw a sc _ _ _ e ag ah
 generalize Hu sc raw (Aw sc raw (d-1)) a=x at*;obtain⟨x,aK⟩:=x;unfold GeG;intros
 conv=>arg 2;whnf
 subst I;obtain ⟨W, X, Y, Z, aa⟩ := τ5 K.o;go_wp2_with fail;refine(N.o _ Q.o (S.o.sfr C.o)).mono ?_;rintro aD aE ⟨aL,rfl,A,y,r,z⟩;obtain⟨xs,j,rfl⟩:=r.shape;dsimp only at A r z ⊢;obtain⟨R,L,c⟩:=Y3 A (C.o.trans y) (D.o.sfr y U.o);have aj:w.heap.size+2≤w2.heap.size:=by have:=D.o.lt;omega
 obtain⟨V,O⟩:=Y2 (r.mono (D':=(w.heap.size+2≤ ·)) (fun b f=>Zd aj f)) z;have g:w.heap.size+1<w.heap.size+2:=by omega
 clear A y r z W X Y Z aa;obtain ⟨aF, aG, aH, aI, aJ⟩ := τ5 c.o;have am:=c.o.fz 0;have an:=c.o.fz 1;have ao:=c.o.fz 2;have ap:=c.o.fz 3;have aq:=c.o.fz 4;obtain⟨P,T,M⟩:=Y3 (((((c.o.set 0 (ι x.kind)).set 1 (ι x.op)).set 2 (ι x.n)).set 3 (σ x.name)).set 4 (ρ xs x.args j)) (((((R.o.other i 0 (ι x.kind)).other i 1 (ι x.op)).other i 2 (ι x.n)).other i 3 (σ x.name)).other i 4 (ρ xs x.args j)) (((((L.o.setNew h 0 (ι x.kind)).setNew h 1 (ι x.op)).setNew h 2 (ι x.n)).setNew h 3 (σ x.name)).setNew h 4 (ρ xs x.args j));go_wp2_with fail;obtain ⟨ab, ac, ad, ae, af⟩ := τ5 P.o;exact Zv (v:=.agg #[ι x.kind,ι x.op,ι x.n,σ x.name,ρ xs x.args j]) (by simp [results,Zf,go_sem,ab,ac,ad,ae,af]) rfl ⟨ρ xs x.args j,rfl,T.o,M.o,((((((V.out.keep (Av _ g 0 _)).keep (Av _ g 1 _)).keep (Av _ g 2 _)).keep (Av _ g 3 _)).keep (Av _ g 4 _)).mono (fun b f=>(Zd (by omega) f:w.heap.size≤b))),O.o⟩
theorem iC(a:Int)(b:0≤a):0≤a.tmod 63∧a.tmod 63≤64:=by
 rw[Zn b];omega
theorem bJ(a:Int)(b:0≤a):IntKind.i64.wrap (2 ^ (a.tmod 63).toNat)=Eu a 6:=by
 rw[Zn b];have c:(a % 63).toNat≤62:=by omega
 have d:Eu a 6=2 ^ (a % 63).toNat:=rfl;rw[d];generalize (a % 63).toNat=e at*;have g:(2:Nat) ^ e≤2 ^ 62:=Nat.pow_le_pow_right (by decide) c;have f:((2:Int) ^ e)=((2 ^ e:Nat):Int):=by simp
 have h:(2:Nat) ^ 62=4611686018427387904:=by decide
 rw[f];generalize 2 ^ e=i at*;exact Zl _ (by omega)
theorem Pe(a j:Int)(b:0≤a∧a<1000):I64 (Eu a j):=by
 have:=Mb a j b;exact⟨by omega,by omega⟩
theorem nK(c:Int)(d:0≤c)(e:c<1000):IntKind.i64.wrap (c*c)=c*c:=by
 have a:0≤c*c:=Int.mul_nonneg d d;have b:c*c≤999*999:=Int.mul_le_mul (by omega) (by omega) (by omega) (by omega);exact Zl _ (by omega)
theorem sU(a j:Int)(b:0≤j)(c:j<8):([Value.int .i64 0,Value.int .i64 1,Value.int .i64 2,Value.int .i64 3,Value.int .i64 a,Value.int .i64 (a*a),Value.int .i64 (Eu a 6),Value.int .i64 9223372036854775807]:List Value)[j.toNat]'(by simp;omega)=.int .i64 (Eu a j):=by
 have:j=0∨j=1∨j=2∨j=3∨j=4∨j=5∨j=6∨j=7:=by omega
 rcases this with rfl|rfl|rfl|rfl|rfl|rfl|rfl|rfl<;>rfl
theorem ge_num3 {d s:Nat}{raw:List Int}{sc:Sc}{ao:Option Zt}{ap:Nat}{V:Option Zt}{W:Nat}{X:Option Zt}{Y:Nat}{f:Nat}{k:Int}{w w2:Zr}(r:GeH d s raw sc ao ap V W X Y f k w w2)(ai:k=3)(J:¬(Ab raw f 3).1=2):GeG d s raw sc ao ap V W X Y k w w2 (Dg sc raw (Aw sc raw (d-1)) k f):=by
 obtain⟨bb,lv,bk,bl,bh,am,ah,af,ag,ae,aU,aV⟩:=r;obtain⟨aS,aG,ay,aE,ax⟩:=Y5 am ah af ag ae;have u:Zq (w.heap.size+1≠s):=by show _≠_;omega
 have aI:Zq (w.heap.size≠s):=by show _≠_;omega
 have h:s<w.heap.size+1:=by omega
 have g:w.heap.size≤w.heap.size+1:=by omega
 have ba:(0:Int)≤(d:Int):=by omega
 have bc:(d:Int)≤1000:=by omega
 clear am ah af ag ae;have N:Dg sc raw (Aw sc raw (d-1)) k f=(.mk 1 0 (Eu (Ab raw (Ab raw f 3).2 1000).1 (Ab raw (Ab raw (Ab raw f 3).2 1000).2 8).1) [] [],(Ab raw (Ab raw (Ab raw f 3).2 1000).2 8).2):=by
  unfold Dg;rw[if_neg (by rintro⟨n,aW⟩;omega),if_neg (fun r=>J r.2),if_pos (by omega)];rw[if_pos ai]
 rw[N];clear N;have aD:Zq (∀e,Az e s raw f→Zs Za 21 #[π s,ι 3] e (Eb e s raw (ι (Ab raw f 3).1) (Ab raw f 3).2)):=fun e n=>Co s raw f 3 e n (by decide) (by decide)
 have bo:=Am raw f 3 (by decide);generalize Ab raw f 3=q at*;obtain⟨q,p⟩:=q;dsimp only at*;have be:(q==2)=false:=beq_eq_false_iff_ne.2 J;clear J;have aC:Zq (∀e,Az e s raw p→Zs Za 21 #[π s,ι 1000] e (Eb e s raw (ι (Ab raw p 1000).1) (Ab raw p 1000).2)):=fun e n=>Co s raw p 1000 e n (by decide) (by decide)
 have aO:=Am raw p 1000 (by decide);generalize Ab raw p 1000=c at*;obtain⟨c,o⟩:=c;dsimp only at*;have aB:Zq (∀e,Az e s raw o→Zs Za 21 #[π s,ι 8] e (Eb e s raw (ι (Ab raw o 8).1) (Ab raw o 8).2)):=fun e n=>Co s raw o 8 e n (by decide) (by decide)
 have aN:=Am raw o 8 (by decide);generalize Ab raw o 8=j at*;obtain⟨j,bj⟩:=j;dsimp only at*;obtain⟨t,K⟩:=aO;obtain⟨aL,aM⟩:=aN;have aT:=bJ c t;obtain⟨bm,bn⟩:=iC c t;have aR:=nK c t K;have aQ:=sU c j aL aM;unfold GeG;intros
 conv=>arg 2;whnf
 subst ai;go_wp2_with fail;refine(aD.o _ aG.o).mono ?_;rintro an bp ⟨rfl,aj,y⟩;obtain⟨aH,az,aF,aP⟩:=Y4 aj (ay.o.trans y) (aE.o.sfr y u.o) (ax.o.sfr y aI.o);clear aj y;go_wp2_with fail;refine(aC.o _ aH.o).mono ?_;rintro an z ⟨rfl,ak,I⟩;obtain⟨S,aA,l⟩:=Y3 ak (az.o.trans I) (aF.o.sfr I u.o);clear ak I;obtain ⟨aq, ar, au, av, aw⟩ := τ5 l.o;have Z:=l.o.fz 0;have aa:=l.o.fz 1;have ab:=l.o.fz 2;have ac:=l.o.fz 3;have ad:=l.o.fz 4;have aX:=l.o.lt;go_wp2_with fail;have x:Zu z.heap.size z z.drew:=(Zj _ _).drew;obtain⟨U,P,R⟩:=Y3 (S.o.old x) (aA.o.trans (Zc x)) (l.o.old x);have bf:=S.o.lt;have bg:z.heap.size≠s:=by omega
 have bd:j.toNat<8:=by omega
 clear x aq ar au av aw Z aa ab ac ad
 go_region_with (first
  |(go_at_call 21;refine(aB.o _ (by first|exact U.o|exact U.o.alloc _)).mono ?_;rintro an M ⟨aJ,al,m⟩;subst aJ;have aZ:∀b L,b<_→b≠s→M.cell? ⟨b,L,none⟩=_:=fun b L r aK=>Zo (a:=⟨b,L,none⟩) (m.block b r aK);have T:=Zb al;have O:Zq (SFr s w M):=(by first|exact P.o.trans m|exact(P.o.trans (SFr.alloc _)).trans m);have i:Ad M (w.heap.size+1) _ _:=(by first|exact R.o.sfr m u.o|exact(R.o.alloc _).sfr m u.o);have Q:=Zb i;obtain ⟨aq, ar, au, av, aw⟩ := τ5 i;have Z:=i.fz 0;have aa:=i.fz 1;have ab:=i.fz 2;have ac:=i.fz 3;have ad:=i.fz 4;have aY:=i.lt;have bi:=m.size;clear al m i))
 ·obtain⟨B,C,A⟩:=Y3 (((((Q.o.set 0 (ι 1)).set 1 (ι 0)).set 2 (ι (Eu c j))).set 3 (ε)).set 4 (ν)) (((((T.o.other h 0 (ι 1)).other h 1 (ι 0)).other h 2 (ι (Eu c j))).other h 3 (ε)).other h 4 (ν)) (((((O.o.setNew g 0 (ι 1)).setNew g 1 (ι 0)).setNew g 2 (ι (Eu c j))).setNew g 3 (ε)).setNew g 4 (ν));go_wp2_with fail;obtain ⟨D, E, F, G, H⟩ := τ5 B.o;exact Zv (v:=.agg #[ι 1,ι 0,ι (Eu c j),ε,ν]) (by simp [results,Zf,go_sem,D,E,F,G,H]) rfl ⟨ν,rfl,C.o,A.o,Zk,Pe c j ⟨t,K⟩⟩
 ·obtain⟨B,C,A⟩:=Y3 ((((((Q.o.set 0 (ι 1)).set 1 (ι 0)).set 2 (ι (Eu c j))).set 3 (ε)).set 4 (ν)).alloc (.cells #[ι 0,ι 1,ι 2,ι 3,ι c,ι (c*c),ι (Eu c 6),ι 9223372036854775807] 3)) ((((((T.o.other h 0 (ι 1)).other h 1 (ι 0)).other h 2 (ι (Eu c j))).other h 3 (ε)).other h 4 (ν)).alloc (.cells #[ι 0,ι 1,ι 2,ι 3,ι c,ι (c*c),ι (Eu c 6),ι 9223372036854775807] 3)) ((((((O.o.setNew g 0 (ι 1)).setNew g 1 (ι 0)).setNew g 2 (ι (Eu c j))).setNew g 3 (ε)).setNew g 4 (ν)).trans (SFr.alloc (.cells #[ι 0,ι 1,ι 2,ι 3,ι c,ι (c*c),ι (Eu c 6),ι 9223372036854775807] 3)));go_wp2_with fail;obtain ⟨D, E, F, G, H⟩ := τ5 B.o;exact Zv (v:=.agg #[ι 1,ι 0,ι (Eu c j),ε,ν]) (by simp [results,Zf,go_sem,D,E,F,G,H]) rfl ⟨ν,rfl,C.o,A.o,Zk,Pe c j ⟨t,K⟩⟩
theorem iO {d s:Nat}{raw:List Int}{sc:Sc}{aj:Option Zt}{ak:Nat}{R:Option Zt}{S:Nat}{T:Option Zt}{U:Nat}{e:Nat}{k:Int}{w w2:Zr}(o:GeH d s raw sc aj ak R S T U e k w w2)(ad:k=0∨((k=1∨k=2)∧sc.hasVars=false)):GeG d s raw sc aj ak R S T U k w w2 (Dg sc raw (Aw sc raw (d-1)) k e):=by
 obtain⟨aT,lv,bb,bc,aY,ai,af,ac,ae,ab,aM,aN⟩:=o;obtain⟨aJ,ax,aq,aw,aG⟩:=Y5 ai af ac ae ab;have z:Zq (w.heap.size+1≠s):=by show _≠_;omega
 have aL:Zq (w.heap.size≠s):=by show _≠_;omega
 have h:s<w.heap.size+1:=by omega
 have g:w.heap.size≤w.heap.size+1:=by omega
 have aS:(0:Int)≤(d:Int):=by omega
 have aU:(d:Int)≤1000:=by omega
 clear ai af ac ae ab;have J:Dg sc raw (Aw sc raw (d-1)) k e=(.mk 1 0 (Eu (Ab raw e 1000).1 (Ab raw (Ab raw e 1000).2 8).1) [] [],(Ab raw (Ab raw e 1000).2 8).2):=by
  unfold Dg;rw[if_neg (by rintro⟨q,aa⟩;rcases ad with o|⟨o,ay⟩<;>first|omega|(rw[ay]at aa;cases aa)),if_neg (by omega),if_pos (by omega)];rw[if_neg (show ¬k=3 by omega)]
 rw[J];clear J;have av:Zq (∀f,Az f s raw e→Zs Za 21 #[π s,ι 1000] f (Eb f s raw (ι (Ab raw e 1000).1) (Ab raw e 1000).2)):=fun f q=>Co s raw e 1000 f q (by decide) (by decide)
 have aE:=Am raw e 1000 (by decide);generalize Ab raw e 1000=c at*;obtain⟨c,n⟩:=c;dsimp only at*;have au:Zq (∀f,Az f s raw n→Zs Za 21 #[π s,ι 8] f (Eb f s raw (ι (Ab raw n 8).1) (Ab raw n 8).2)):=fun f q=>Co s raw n 8 f q (by decide) (by decide)
 have aD:=Am raw n 8 (by decide);generalize Ab raw n 8=j at*;obtain⟨j,ba⟩:=j;dsimp only at*;obtain⟨p,G⟩:=aE;obtain⟨aB,aC⟩:=aD;have aK:=bJ c p;obtain⟨bd,be⟩:=iC c p;have aI:=nK c p G;have aH:=sU c j aB aC;unfold GeG;intros
 conv=>arg 2;whnf
 rcases ad with rfl|⟨rfl|rfl,aO⟩
 all_goals
  go_wp2_with fail;refine(av.o _ ax.o).mono ?_;rintro aF t ⟨rfl,ag,F⟩;obtain⟨O,ar,l⟩:=Y3 ag (aq.o.trans F) (aw.o.sfr F z.o);clear ag F;obtain ⟨al, am, an, ao, ap⟩ := τ5 l.o;have V:=l.o.fz 0;have W:=l.o.fz 1;have X:=l.o.fz 2;have Y:=l.o.fz 3;have Z:=l.o.fz 4;have aP:=l.o.lt;go_wp2_with fail;have r:Zu t.heap.size t t.drew:=(Zj _ _).drew;obtain⟨Q,L,N⟩:=Y3 (O.o.old r) (ar.o.trans (Zc r)) (l.o.old r);have aW:=O.o.lt;have aX:t.heap.size≠s:=by omega
  have aV:j.toNat<8:=by omega
  clear r al am an ao ap V W X Y Z
  go_region_with (first
   |(go_at_call 21;refine(au.o _ (by first|exact Q.o|exact Q.o.alloc _)).mono ?_;rintro aF I ⟨az,ah,m⟩;subst az;have aR:∀b H,b<_→b≠s→I.cell? ⟨b,H,none⟩=_:=fun b H o aA=>Zo (a:=⟨b,H,none⟩) (m.block b o aA);have P:=Zb ah;have K:Zq (SFr s w I):=(by first|exact L.o.trans m|exact(L.o.trans (SFr.alloc _)).trans m);have i:Ad I (w.heap.size+1) _ _:=(by first|exact N.o.sfr m z.o|exact(N.o.alloc _).sfr m z.o);have M:=Zb i;obtain ⟨al, am, an, ao, ap⟩ := τ5 i;have V:=i.fz 0;have W:=i.fz 1;have X:=i.fz 2;have Y:=i.fz 3;have Z:=i.fz 4;have aQ:=i.lt;have aZ:=m.size;clear ah m i))
  ·obtain⟨x,y,u⟩:=Y3 (((((M.o.set 0 (ι 1)).set 1 (ι 0)).set 2 (ι (Eu c j))).set 3 (ε)).set 4 (ν)) (((((P.o.other h 0 (ι 1)).other h 1 (ι 0)).other h 2 (ι (Eu c j))).other h 3 (ε)).other h 4 (ν)) (((((K.o.setNew g 0 (ι 1)).setNew g 1 (ι 0)).setNew g 2 (ι (Eu c j))).setNew g 3 (ε)).setNew g 4 (ν));go_wp2_with fail;obtain ⟨A, B, C, D, E⟩ := τ5 x.o;exact Zv (v:=.agg #[ι 1,ι 0,ι (Eu c j),ε,ν]) (by simp [results,Zf,go_sem,A,B,C,D,E]) rfl ⟨ν,rfl,y.o,u.o,Zk,Pe c j ⟨p,G⟩⟩
  ·obtain⟨x,y,u⟩:=Y3 ((((((M.o.set 0 (ι 1)).set 1 (ι 0)).set 2 (ι (Eu c j))).set 3 (ε)).set 4 (ν)).alloc (.cells #[ι 0,ι 1,ι 2,ι 3,ι c,ι (c*c),ι (Eu c 6),ι 9223372036854775807] 3)) ((((((P.o.other h 0 (ι 1)).other h 1 (ι 0)).other h 2 (ι (Eu c j))).other h 3 (ε)).other h 4 (ν)).alloc (.cells #[ι 0,ι 1,ι 2,ι 3,ι c,ι (c*c),ι (Eu c 6),ι 9223372036854775807] 3)) ((((((K.o.setNew g 0 (ι 1)).setNew g 1 (ι 0)).setNew g 2 (ι (Eu c j))).setNew g 3 (ε)).setNew g 4 (ν)).trans (SFr.alloc (.cells #[ι 0,ι 1,ι 2,ι 3,ι c,ι (c*c),ι (Eu c 6),ι 9223372036854775807] 3)));go_wp2_with fail;obtain ⟨A, B, C, D, E⟩ := τ5 x.o;exact Zv (v:=.agg #[ι 1,ι 0,ι (Eu c j),ε,ν]) (by simp [results,Zf,go_sem,A,B,C,D,E]) rfl ⟨ν,rfl,y.o,u.o,Zk,Pe c j ⟨p,G⟩⟩
theorem bM(d:Nat)(l:d≤1000)(f:2≤d→Kb (d-1))(o:2≤d→Rw d):Kb d:=by
 intro s raw a sc A r v w n h;rw[pQ];unfold gTop;generalize i:gK raw d a=k;obtain⟨y,z,rfl⟩:=h.vars.shape;obtain⟨p,q,rfl⟩:=h.arrays.shape;obtain⟨t,u,rfl⟩:=h.funcs.shape;refine ge_pre l n h i fun w2 e=>?_
 have m:d<2→k<4:=fun c=>by rw[←i];exact dT raw d a c
 have x:=e.g0;have j:k=0∨k=1∨k=2∨k=3∨k=4∨k=5∨k=6∨7≤k:=by omega
 have g:4≤k→2≤d:=fun b=>by
  rcases Nat.lt_or_ge d 2 with c|c
  ·have:=m c;omega
  ·exact c
 rcases j with b|b|b|b|b|b|b|b
 ·exact iO e (.inl b)
 ·cases hv:sc.hasVars
  ·exact iO e (.inr ⟨.inl b,hv⟩)
  ·exact yP e (.inl b) hv
 ·cases hv:sc.hasVars
  ·exact iO e (.inr ⟨.inr b,hv⟩)
  ·exact yP e (.inr b) hv
 ·by_cases hq:(Ab raw (Ab raw a 12).2 3).1=2
  ·exact ge_read e b hq
  ·exact ge_num3 e b hq
 ·have c:=g (by omega)
  exact ge_one c e b (f c)
 ·have c:=g (by omega)
  cases hA:sc.hasArrays
  ·exact jR c e (.inr (.inl ⟨b,hA⟩)) (f c)
  ·exact tF c e b hA (f c)
 ·have c:=g (by omega)
  cases hA:sc.hasFuncs
  ·exact jR c e (.inr (.inr ⟨b,hA⟩)) (f c)
  ·exact ge_call c e b hA (o c)
 ·have c:=g (by omega)
  exact jR c e (.inl b) (f c)
theorem Az.low {w w':Zr}{s:Nat}{raw:List Int}{a:Nat}(d:Az w s raw a)(c:∀k,k≤s→w'.heap[k]? =w.heap[k]?):Az w' s raw a:=by
 obtain⟨u,e,f,g⟩:=d;refine⟨u,(c s (Nat.le_refl _)).trans e,f.keep (fun b i x h hx=>?_),g⟩;rw[Zo (w:=w) (c b (Nat.le_of_lt h))];exact hx
theorem Ad.low {w w':Zr}{b:Nat}{c:List Value}{a:TypeId}(d:Ad w b c a)(e:w'.heap[b]? =w.heap[b]?):Ad w' b c a:=e.trans d
theorem SFr.grow {s:Nat}{w d w':Zr}{row:Option Nat}(a:SFr s w d)(b:d.grownBy w' row)(f:∀k,row=some k→w.heap.size≤k):SFr s w w':=
 ⟨b.os.trans a.os,b.tape.trans a.tape,b.output.trans a.output,Zd a.size b.size,fun k c g=>(b.block k (Nat.lt_of_lt_of_le c a.size) (fun e=>by have:=f k e.symm;omega)).trans (a.block k c g)⟩
theorem Br.shape {w:Zr}{c:Nat}{b:List (Ex ×Value)}{v:Value}(d:Br w c b v):∃a cap,v=.slice a b.length cap:=by
 rcases d.1.2 with⟨rfl,e⟩|⟨g,cap,f,rfl,_⟩
 ·exact⟨none,0,by rw[e]⟩
 ·exact⟨_,_,rfl⟩
theorem Br.ge {w:Zr}{a:Nat}{d:List (Ex ×Value)}{v:Value}(b:Br w a d v){k:Nat}(c:v.ownBlock=some k):a≤k∧k<w.heap.size:=b.1.lt k c
def CallInv(w:Zr)(s:Nat)(raw:List Int)(g:Nat→Ex ×Nat)(a:Nat)(c:List Value)(nm:Value)(k:Nat)(wr:Zr):Prop:=
 ∃b v,b.map (·.1)=(Ej g k a).1∧Az wr s raw (Ej g k a).2∧SFr s w wr∧Ad wr w.heap.size c 69∧Ad wr (w.heap.size+1) [.int .i64 0,.int .i64 0,.int .i64 0,.string ⟨#[]⟩,.slice none 0 0] 35∧
  Ad wr (w.heap.size+2) [.int .i64 5,.int .i64 0,.int .i64 0,nm,v] 35∧Br wr (w.heap.size+3) b v
theorem Fr {w:Zr}{b:Nat}{a:List Value}(c:Dv w b 0 a):∀j u,a[j]? =some u→w.cell? ((⟨b,0,none⟩:Zt).add j)=some u:=by
 intro j u e;have d:(⟨b,0,none⟩:Zt).add j=⟨b,j,none⟩:=by unfold Addr.add;split<;>simp_all
 rw[d];exact c.at j u e
theorem Lw(x:Ex){a:Option Zt}{n c:Nat}:∀u,u∈Ba x (.slice a n c)→u.oneCell'=true:=by
 intro u b;simp only[Ba,Zi,Zm,or_false]at b;rcases b with rfl|rfl|rfl|rfl|rfl<;>rfl
theorem tG(w:Zr)(a B C:List Value)(b c d:TypeId):Zu w.heap.size w (((w.alloc (.cells a.toArray b)).alloc (.cells B.toArray c)).alloc (.cells C.toArray d))∧Ad (((w.alloc (.cells a.toArray b)).alloc (.cells B.toArray c)).alloc (.cells C.toArray d)) w.heap.size a b∧
  Ad (((w.alloc (.cells a.toArray b)).alloc (.cells B.toArray c)).alloc (.cells C.toArray d)) (w.heap.size+1) B c∧Ad (((w.alloc (.cells a.toArray b)).alloc (.cells B.toArray c)).alloc (.cells C.toArray d)) (w.heap.size+2) C d:=by
 have g:=Ze w a b;have e:=Ze (w.alloc (.cells a.toArray b)) B c;have f:=Ze ((w.alloc (.cells a.toArray b)).alloc (.cells B.toArray c)) C d;rw[show(w.alloc (.cells a.toArray b)).heap.size=w.heap.size+1 by simp]at e;rw[show((w.alloc (.cells a.toArray b)).alloc (.cells B.toArray c)).heap.size=w.heap.size+2 by simp]at f;exact⟨((bA).alloc (by simp) _).alloc (by simp;omega) _,(g.alloc _).alloc _,e.alloc _,f⟩
def nM:Code→Option Code
 |.seq (.seq a (.cond o c d)) b=>some b
 |.seq a b=>nM b
 |_=>none
noncomputable def xK:Code:=(Tryz.f50.body.bind nM).getD .skip
theorem aS {d s:Nat}(cn:2≤d)(cp:d≤1000){raw:List Int}{sc:Sc}{F z B:Option Zt}{G A C D:Nat}{T:Bool}{w I:Zr}{c h:Nat}{nm:Bs}(cs:s<w.heap.size)(aF:Fy s w sc (.slice F sc.vars.length G) (.slice z sc.arrays.length A) (.slice B D C))
  (ax:∀H b,Az H s raw b→Fy s H sc (.slice F sc.vars.length G) (.slice z sc.arrays.length A) (.slice B D C)→Zs Za 26 #[.agg #[.slice F sc.vars.length G,.slice z sc.arrays.length A,.slice B D C,.bool T,.bool sc.loop],.pointer (some ⟨s,0,none⟩),.int .i64 ((d:Int)-1)] H (Fg H s raw (Aw sc raw (d-1) b)))
  (cm:c≤1000000) (aD:Az I s raw h) (av:SFr s w I) (am:Ad I w.heap.size [.slice F sc.vars.length G,.slice z sc.arrays.length A,.slice B D C,.bool T,.bool sc.loop] 69) (aq:Ad I (w.heap.size+1) [.int .i64 0,.int .i64 0,.int .i64 0,.string ⟨#[]⟩,.slice none 0 0] 35) (ao:Ad I (w.heap.size+2) [.int .i64 5,.int .i64 0,.int .i64 0,.string (Aa nm),.slice none 0 0] 35):
  ∀q4 q5 q9 q10 q11 q12 q13 q14 q15 q16 q17 q18 q19 q20 q21 q22 q23 q24 q25 q26 q27 q28 q29 q30 q31 q32 q33 q34 q35 q36 q37 q38 q39 q40 q41 q42 q43 q44 q45 q46 q47 q48 q49 q50 q51 q52 q53 q54 q55 q56:Value,Code.wp Za xK (bodyPost Za Tryz.f50 (Fg w s raw (.mk 5 0 0 nm (Ej (Aw sc raw (d-1)) c h).1,(Ej (Aw sc raw (d-1)) c h).2))) ⟨[.agg #[.slice F sc.vars.length G,.slice z sc.arrays.length A,.slice B D C,.bool T,.bool sc.loop],.pointer (some ⟨s,0,none⟩),.int .i64 d,.pointer (some ⟨w.heap.size,0,none⟩),q4,q5,.pointer (some ⟨w.heap.size+1,0,none⟩),.pointer (some ⟨w.heap.size+1+1,0,none⟩),.int .i64 c,q9,q10,q11,q12,q13,q14,q15,q16,q17,q18,q19,q20,q21,q22,q23,q24,q25,q26,q27,q28,q29,q30,q31,q32,q33,q34,q35,q36,q37,q38,q39,q40,q41,q42,q43,q44,q45,q46,q47,q48,q49,q50,q51,q52,q53,q54,q55,q56].toArray,[]⟩ I:=by
 intros;obtain⟨bo,aY,bk,aR,aI,be,aN⟩:=Y7 aF ax aD av am aq ao;have bt:Zq (w.heap.size+1≠s):=by show _≠_;omega
 have bs:Zq (w.heap.size≠s):=by show _≠_;omega
 have br:Zq (w.heap.size+2≠s):=by show _≠_;omega
 have co:(2:Int)≤(d:Int):=by omega
 have cq:(d:Int)≤1000:=by omega
 have bK:s<w.heap.size+2:=by omega
 have bG:w.heap.size≤w.heap.size+2:=by omega
 clear aF ax aD av am aq ao
 conv=>arg 2;whnf
 go_wp2
 go_loopw [10] (fun q wr=> ∃k:Nat,k≤c∧q=.int .i64 k∧CallInv w s raw (Aw sc raw (d-1)) h [.slice F sc.vars.length G,.slice z sc.arrays.length A,.slice B D C,.bool T,.bool sc.loop] (.string (Aa nm)) k wr) (fun q _=>c-(intOf q).toNat)
 case atStart=>exact⟨0,Nat.zero_le _,rfl,[],_,rfl,bk.o,aR.o,aI.o,be.o,aN.o,Br.zero _ _⟩
 case round=>
  obtain⟨k,ay,rfl,bI⟩:=hrel;obtain⟨f,v,aC,aG,aw,al,ap,an,ab⟩:=bI;obtain⟨p,r,rfl⟩:=ab.shape;obtain⟨y,S,ag,af,l,Q,Z⟩:=Y7 aC aG aw al ap an ab;clear aC aG aw al ap an ab;obtain ⟨bQ, bR, bS, bT, bU⟩ := τ5 af.o;obtain ⟨bW, bX, bY, bZ, ca⟩ := τ5 Q.o;have cb:=Q.o.fz 4;have ci:=Q.o.lt
  by_cases hlt:k<c
  ·have U:Zq (f.length≤1000000):=by show _≤_;have i:=congrArg List.length y.o;rw[List.length_map,Im]at i;omega
   have aA:Ej (Aw sc raw (d-1)) (k+1) h=((Ej (Aw sc raw (d-1)) k h).1++[(Aw sc raw (d-1) (Ej (Aw sc raw (d-1)) k h).2).1],(Aw sc raw (d-1) (Ej (Aw sc raw (d-1)) k h).2).2):=rfl;have R:=Zb aA;clear aA;have V:=Zb (fun H i J=>aY.o H (Ej (Aw sc raw (d-1)) k h).2 i J);generalize Aw sc raw (d-1) (Ej (Aw sc raw (d-1)) k h).2=x at*;obtain⟨x,cC⟩:=x;generalize Ej (Aw sc raw (d-1)) k h=mk at y S R V;obtain⟨cv,bV⟩:=mk;dsimp only at y S R V;have E:Zu wr.heap.size wr wr.drew:=(Zj _ _).drew;obtain⟨bq,ah,aM,bj,aQ,bd⟩:=Y6 (S.o.old E) (ag.o.trans (Zc E)) (af.o.old E) (l.o.old E) (Q.o.old E) (Z.o.keep (w':=wr.drew) (fun _ _ _=>rfl));clear E;obtain⟨bP,bH,bM,bN,bO⟩:=info_parts Mo;have bE:w.heap.size+3≤wr.heap.size:=by omega
   have ct:IntKind.i64.wrap ((d:Int)-1)=(d:Int)-1:=Zl _ (by omega);go_wp2_with fail
   go_region_law (first
    |((try go_simp);go_at_call 26;refine(V.o _ bq.o (bo.o.sfr ah.o)).mono ?_;rintro cw j ⟨cD,bF,aE,m,ac,az⟩;obtain⟨xs,u,bL⟩:=ac.shape;subst bL;subst bF;have cl:∀b ad,b<_→b≠s→j.cell? ⟨b,ad,none⟩=_:=fun b ad aa bJ=>Zo (a:=⟨b,ad,none⟩) (m.block b aa bJ);obtain⟨bl,aT,aJ,bf,W,ba,bv,bu⟩:=Y8 aE (ah.o.trans m) (aM.o.sfr m bs.o) (bj.o.sfr m bt.o) (aQ.o.sfr m br.o) (bd.o.keep (w':=j) (fun k i J=>m.block k i (by omega))) ac az;have cu:=m.size;have u4:=W.o.at 4 _ rfl;have cj:=W.o.lt;clear aE m ac az;have o:Zu j.heap.size j (j.alloc (.cells #[.int .i64 x.kind,.int .i64 x.op,.int .i64 x.n,.string (Aa x.name),.slice xs x.args.length u] 35)):=bA;obtain⟨aj,aU,ae,ai,X,Y,aZ⟩:=Y7 (bl.o.old o) (aT.o.trans (Zc o)) (aJ.o.old o) (bf.o.old o) (W.o.old o) (ba.o.keep (w':=(j.alloc (.cells #[.int .i64 x.kind,.int .i64 x.op,.int .i64 x.n,.string (Aa x.name),.slice xs x.args.length u] 35))) (fun k i J=>o.block k i)) (Dv.new j (Ba x (.slice xs x.args.length u)) 35);have bw:Zq (Ag (fun b=>w.heap.size+3≤b∧(Value.slice p f.length r).ownBlock≠some b) (j.alloc (.cells #[.int .i64 x.kind,.int .i64 x.op,.int .i64 x.n,.string (Aa x.name),.slice xs x.args.length u] 35)) x.args (.slice xs x.args.length u)):=((bv.out.old o).mono (fun b au=>⟨Zd bE au,fun e=>by have i:=(Z.o.ge e).2;have J:wr.heap.size≤b:=au;omega⟩));clear o)
    |(refine step_append_lies (P:=Za) _ rfl _ _ 33 rfl (w.heap.size+3) 35 bP _ 5 64 underlying33 bH bM bN bO rfl (by decide) (.slice p f.length r) f.length (Dl f) rfl Y.o.1 ⟨j.heap.size,0,none⟩ 1 1 (Ba x (.slice xs x.args.length u)) rfl rfl (Fr aZ.o) (Lw x) (by decide) (by have:=U.out;unfold maxLen;omega) (by have:=U.out;omega) (by have:=X.o.lt;omega) _ rfl ?_;intro g cap aH aB t ar cr;have N:∀k,(Value.slice p f.length r).ownBlock=some k→w.heap.size+3≤k:=fun k e=>(Y.o.ge e).1;obtain⟨bm,aV,aK,bg⟩:=Y4 (aj.o.low (w':=aH) (fun k ay=>t.block k (Nat.lt_of_le_of_lt ay aj.o.lt) (fun e=>by have:=N k e.symm;omega))) (aU.o.grow t (fun k e=>by have:=N k e;omega)) (ae.o.low (t.block _ ae.o.lt (fun e=>by have:=N _ e.symm;omega))) (ai.o.low (t.block _ ai.o.lt (fun e=>by have:=N _ e.symm;omega)));have L:=X.o.low (t.block _ X.o.lt (fun e=>by have:=N _ e.symm;omega));obtain⟨aO,bb⟩:=Y2 L (Y.o.snoc x _ bw.out bu.out aB t ar);have cE:=L.at 4 _ rfl;have ch:=L.fz 4;have ck:=L.lt;clear aB t ar L))
   all_goals
    obtain⟨aP,bn,aW,bh,aL,bc⟩:=Y6 (aO.o.set 4 (.slice (some ⟨g,0,none⟩) (f.length+1) cap)) (bm.o.other bK 4 (.slice (some ⟨g,0,none⟩) (f.length+1) cap)) (aV.o.setNew bG 4 (.slice (some ⟨g,0,none⟩) (f.length+1) cap)) (bg.o.other (show w.heap.size+1≠w.heap.size+2 by omega) 4 (.slice (some ⟨g,0,none⟩) (f.length+1) cap)) (aK.o.other (show w.heap.size≠w.heap.size+2 by omega) 4 (.slice (some ⟨g,0,none⟩) (f.length+1) cap)) (bb.o.keep (w':=aH.setCell ⟨w.heap.size+2,4,none⟩ (.slice (some ⟨g,0,none⟩) (f.length+1) cap)) (fun k i J=>Below.heap_setCell _ _ _ _ (by show k≠w.heap.size+2;omega)));go_wp2;go_roundw
    case rel=>exact⟨k+1,by omega,by go_num,⟨f++[(x,.slice xs x.args.length u)],_,by rw[R.o,List.map_append,y.o];rfl,by rw[R.o];exact bn.o,aW.o,aL.o,bh.o,aP.o,bc.o⟩⟩
    case measure=>simp [intOf];omega
  ·obtain rfl:k=c:=by omega
   obtain ⟨cx, cy, cz, cA, cB⟩ := τ5 l.o;have cc:=l.o.fz 0;have cd:=l.o.fz 1;have ce:=l.o.fz 2;have cf:=l.o.fz 3;have cg:=l.o.fz 4;have O:s<w.heap.size+1:=by omega
   have M:w.heap.size≤w.heap.size+1:=by omega
   have U:Zq (Cv f.length):=by show _≤_;have i:=congrArg List.length y.o;rw[List.length_map,Im]at i;omega
   have ak:=Zb (Z.o.exs U.out);rw[y.o]at ak;have K:w.heap.size+1<w.heap.size+3:=by omega
   obtain⟨bi,bp,aX⟩:=Y3 (((((l.o.set 0 (.int .i64 5)).set 1 (.int .i64 0)).set 2 (.int .i64 0)).set 3 (.string (Aa nm))).set 4 (.slice p f.length r)) (((((S.o.other O 0 (.int .i64 5)).other O 1 (.int .i64 0)).other O 2 (.int .i64 0)).other O 3 (.string (Aa nm))).other O 4 (.slice p f.length r)) (((((ag.o.setNew M 0 (.int .i64 5)).setNew M 1 (.int .i64 0)).setNew M 2 (.int .i64 0)).setNew M 3 (.string (Aa nm))).setNew M 4 (.slice p f.length r));go_wp2_with fail;obtain ⟨bx, bz, bB, bC, bD⟩ := τ5 bi.o;exact Zv (v:=.agg #[.int .i64 5,.int .i64 0,.int .i64 0,(.string (Aa nm)),.slice p f.length r]) (by simp [results,results50,go_sem,bx,bz,bB,bC,bD]) rfl ⟨.slice p f.length r,rfl,bp.o,aX.o,((((((ak.o.keep (Av _ K 0 _)).keep (Av _ K 1 _)).keep (Av _ K 2 _)).keep (Av _ K 3 _)).keep (Av _ K 4 _)).mono (fun b aa=>(Zd (by omega) aa:w.heap.size≤b))),(Jh ⟨by show _≤(0:Int);decide,by show(0:Int)≤_;decide⟩)⟩
theorem sH(d:Nat)(aU:2≤d)(aV:d≤1000)(S:Kb (d-1))(s:Nat)(raw:List Int)(a:Nat)(sc:Sc)(U K L:Value)(w:Zr)(B:Az w s raw a)(m:Fy s w sc U K L)(j:(sc.free||sc.funcs.isEmpty)=true):
  Zs Za 50 #[scV sc U K L,.pointer (some ⟨s,0,none⟩),.int .i64 d] w (Fg w s raw (Hu sc raw (Aw sc raw (d-1)) a)):=by
 obtain⟨x,y,rfl⟩:=m.vars.shape;obtain⟨p,r,rfl⟩:=m.arrays.shape;obtain⟨t,u,rfl⟩:=m.funcs.shape;have be:=m.f1;have aY:=B.lt;obtain⟨A,N,P,O⟩:=tG w [.slice x sc.vars.length y,.slice p sc.arrays.length r,.slice t sc.funcs.length u,.bool sc.free,.bool sc.loop] [.int .i64 0,.int .i64 0,.int .i64 0,ε,ν] [.int .i64 5,.int .i64 0,.int .i64 0,ε,ν] 69 35 35;obtain⟨E,al,aa,aq,ae,ax⟩:=Y6 N P O (B.old A) (Zc (s:=s) A) m;have Z:Zq (((d-1:Nat):Int)=(d:Int)-1):=by show _=_;omega
 have F:Zq (∀f b,Az f s raw b→Fy s f sc (.slice x sc.vars.length y) (.slice p sc.arrays.length r) (.slice t sc.funcs.length u)→Zs Za 26 #[scV sc (.slice x sc.vars.length y) (.slice p sc.arrays.length r) (.slice t sc.funcs.length u),π s,.int .i64 ((d:Int)-1)] f (Fg f s raw (Aw sc raw (d-1) b))):=fun f b k aO=>by have q:=S s raw b sc _ _ _ f k aO;rw[Z.o]at q;exact q
 have J:Zq (w.heap.size+1≠s):=by show _≠_;omega
 have I:Zq (w.heap.size≠s):=by show _≠_;omega
 have H:Zq (w.heap.size+2≠s):=by show _≠_;omega
 have bc:(2:Int)≤(d:Int):=by omega
 have bd:(d:Int)≤1000:=by omega
 clear A N P O B S;have D:Hu sc raw (Aw sc raw (d-1)) a=(.mk 5 0 0 (Kf (Ab raw a 312).1) (Ej (Aw sc raw (d-1)) (Ab raw (Ab raw a 312).2 7).1.toNat (Ab raw (Ab raw a 312).2 7).2).1,(Ej (Aw sc raw (d-1)) (Ab raw (Ab raw a 312).2 7).1.toNat (Ab raw (Ab raw a 312).2 7).2).2):=by unfold Hu;rw[if_pos j]
 rw[D];clear D;have ak:Zq (∀f,Az f s raw a→Zs Za 21 #[π s,.int .i64 312] f (Eb f s raw (.int .i64 (Ab raw a 312).1) (Ab raw a 312).2)):=fun f k=>Co s raw a 312 f k (by decide) (by decide)
 have ay:Zq (∀w,Zs Za 48 #[.int .i64 (Ab raw a 312).1] w fun e w'=>e=.returned (.string (Aa (Kf (Ab raw a 312).1)))∧Zu w.heap.size w w'):=fun w=>dE (Pn raw a 312 (by decide) (by decide)) w
 have aj:Zq (∀f,Az f s raw (Ab raw a 312).2→Zs Za 21 #[π s,.int .i64 7] f (Eb f s raw (.int .i64 (Ab raw (Ab raw a 312).2 7).1) (Ab raw (Ab raw a 312).2 7).2)):=fun f k=>Co s raw _ 7 f k (by decide) (by decide)
 have aX:=Am raw (Ab raw a 312).2 7 (by decide);have aT:(sc.free=false∧sc.funcs.length=0)∨sc.free=true:=by
  revert j;cases sc.free
  ·intro j;exact .inl ⟨rfl,by simpa using j⟩
  ·intro _;exact .inr rfl
 clear j;unfold scV at F ⊢;generalize sc.free=aL at*;generalize sc.funcs.length=aN at*;generalize Ab raw (Ab raw a 312).2 7=q at*;generalize Ab raw a 312=g at*;obtain⟨c,az⟩:=q;obtain⟨aF,bb⟩:=aX;dsimp only at*;obtain⟨c,rfl⟩:=Zp aF;rw[Int.toNat_natCast];have aR:c≤1000000:=by omega
 generalize Kf g.1=nm at*;obtain ⟨aA, aB, aC, aD, aE⟩ := τ5 E.o;obtain⟨C,R⟩:∃C:List Value,C=[.slice x sc.vars.length y,.slice p sc.arrays.length r,.slice t aN u,.bool aL,.bool sc.loop]:=⟨_,rfl⟩;have G:=Zb R;clear R;rcases aT with⟨rfl,rfl⟩|rfl
 all_goals
  go_enter func50,ntmps50
  go_upto_if 19 with(fail)
  go_cut [8] (fun q n=>q=.int .i64 c∧Az n s raw az∧SFr s w n∧Ad n w.heap.size C 69∧Ad n (w.heap.size+1) [.int .i64 0,.int .i64 0,.int .i64 0,ε,ν] 35∧Ad n (w.heap.size+2) [.int .i64 5,.int .i64 0,.int .i64 0,.string (Aa nm),ν] 35)
  case first=>
   go_wp2_with fail;refine(ak.o _ aq.o).mono ?_;rintro T w2 ⟨rfl,Q,l⟩;obtain⟨ar,af,am,V,ab⟩:=Y5 Q (ae.o.trans l) (al.o.sfr l J.o) (E.o.sfr l I.o) (aa.o.sfr l H.o);clear Q l;go_wp2_with fail;refine(ay.o _).mono ?_;rintro T ba ⟨rfl,i⟩;obtain⟨au,ag,an,W,z⟩:=Y5 (ar.o.old i) (af.o.trans (Zc i)) (am.o.old i) (V.o.old i) (ab.o.old i);clear i;obtain ⟨aG, aH, aI, aJ, aK⟩ := τ5 z.o;have aM:=z.o.fz 3;have aZ:s<w.heap.size+2:=by omega
   have aW:w.heap.size≤w.heap.size+2:=by omega
   obtain⟨av,ah,ac,ao,X⟩:=Y5 (au.o.other aZ 3 (.string (Aa nm))) (ag.o.setNew aW 3 (.string (Aa nm))) (z.o.set 3 (.string (Aa nm))) (an.o.other (show w.heap.size+1≠w.heap.size+2 by omega) 3 (.string (Aa nm))) (W.o.other (show w.heap.size≠w.heap.size+2 by omega) 3 (.string (Aa nm)));go_wp2_with fail;generalize ba.setCell ⟨w.heap.size+2,3,none⟩ (.string (Aa nm))=bf at*;clear aG aH aI aJ aK aM aA aB aC aD aE;refine(aj.o _ av.o).mono ?_;rintro T bg ⟨rfl,v,h⟩;obtain⟨aw,ai,ap,Y,ad⟩:=Y5 v (ah.o.trans h) (ao.o.sfr h J.o) (X.o.sfr h I.o) (ac.o.sfr h H.o);clear v h;go_wp2;go_meet;exact⟨rfl,aw.o,ai.o,(by rw[G.o];exact Y.o),ap.o,ad.o⟩
  case rest=>
  obtain⟨rfl,v,h,M,aQ,aP⟩:=hcut;rw[G.o]at M;apply_assumption
  exact aS aU aV aY ax.o F.o aR v h M aQ aP _ _ _ _ _ _ _ _ _ _ _ _ _ _ _ _ _ _ _ _ _ _ _ _ _ _ _ _ _ _ _ _ _ _ _ _ _ _ _ _ _ _ _ _ _ _ _ _ _ _
end Go.Proofs.YthcpopmmlneneaaGreatDoor

/-
  ParseTells: for every input the law returns true, and its arguments read afterwards as before: the row, the card. Condition: the tables that the row lists are laid as the program's text lays them.
-/
import Derived.Test.YthcpopmmlneneaaGreatDoorPt18
import Derived.Test.YthcpopmmlneneaaGreatDoorPt10
import Derived.Test.YthcpopmmlneneaaGreatDoorCards
import Derived.Test.YthcpopmmlneneaaGreatDoorTie
set_option linter.unusedVariables false
set_option linter.unusedSimpArgs false
namespace Go.Proofs.YthcpopmmlneneaaGreatDoor
open Go.RowKit Go.Proofs.Tryz
set_option maxHeartbeats 20000000
set_option maxRecDepth 100000
open Go.RowKit renaming Hid→Zt,Below→Zu,intOf→Zw
open Go renaming World→Zv
open List renaming length_append→Za,length_cons→Zc,length_nil→Ze,mem_cons_self→Zi,mem_cons_of_mem→Zj,flatten_cons→Zq,flatten_nil→Zr
open Go.Lib renaming hid→Zb
open Nat renaming zero_le→Zd,le_refl→Zf,mul_le_mul_right→Zk,le_trans→Zl,add_mul→Zn,lt_succ_iff_lt_or_eq→Zs
open Ad renaming new→Zg
open Bw renaming old→Zh
open Go.Proofs.Tryz renaming prog→Zm
open Bool renaming and_eq_true→Zo
open World renaming drewN_drewN→Zp
theorem Dt {l:Bs}(a:Ak l=true):l.length≤20:=by
 unfold Ak at a;simp only[Zo,decide_eq_true_eq]at a;exact a.1.1.2
theorem mH(L:Nat):∀l:List Bs,(∀x,x∈l→x.length≤L)→(Bm l).length≤l.length*(L+2)
 |[],_=>by simp [Bm]
 |x::l,h=>by
  have g:∀a:List Bs,(∀x,x∈a→x.length≤L)→(a.flatMap (fun y=>[44,32]++y)).length≤a.length*(L+2):=by
   intro a
   induction a with
   |nil=>intro _;simp
   |cons y a ih=>
    intro e;have f:=e y Zi;have d:=ih (fun c b=>e c (Zj _ b));simp only[List.flatMap_cons,Za,Zc,Ze]at d ⊢;rw[Zn];omega
  have f:=h x Zi;have d:=g l (fun c b=>h c (Zj _ b));rw[Bm,Za,Zc,Zn];omega
theorem Mr(e:Ex)(a:Int)(t:Bs):(Fm e a t).length≤t.length+2:=by
 unfold Fm;split
 ·simp
 ·omega
theorem cZ:∀i:Fin 20,(As i.val).length≤2:=by decide+kernel
theorem Rc(a:Int):(As a).length≤2:=by
 by_cases h:0≤a∧a≤19
 ·have b:((a.toNat:Nat):Int)=a:=Int.toNat_of_nonneg (by omega)
  have:=cZ ⟨a.toNat,by omega⟩;simp only[b]at this;exact this
 ·unfold As
  rw[if_neg (by omega),if_neg (by omega),if_neg (by omega),if_neg (by omega),if_neg (by omega),if_neg (by omega),if_neg (by omega),if_neg (by omega),if_neg (by omega),if_neg (by omega),if_neg (by omega),if_neg (by omega),if_neg (by omega),if_neg (by omega),if_neg (by omega),if_neg (by omega),if_neg (by omega),if_neg (by omega),if_neg (by omega)];exact Zd _
theorem mO{n:Int}(a:0≤n∧n≤9223372036854775807)(b:Int)(nm:Bs)(l:List Ex):(Aj (.mk 1 b n nm l)).length≤21:=by
 rw[Qv];exact Lib.itoa_length_le n (by omega) a.2
theorem iB {L:Nat}{nm:Bs}{l:List Ex}(d:nm.length≤20)(a:l.length≤6)(b:∀x,x∈l→(Aj x).length≤L):(Aj (.mk 5 0 0 nm l)).length≤6*L+64:=by
 rw[Ra];have:=mH L (l.map Aj) (fun x hx=>by
  obtain⟨y,c,rfl⟩:=List.mem_map.1 hx;exact b y c)
 simp only[List.length_map,Za,Zc,Ze]at this ⊢;have:l.length*(L+2)≤6*(L+2):=Zk _ a;omega
theorem aE {sc:Sc}(h:sc.Ok)(raw:List Int)(g:Nat→Ex ×Nat)(L:Nat)(c:∀a,(Aj (g a).1).length≤L)(a:Nat):(Aj (Hu sc raw g a).1).length≤6*L+64:=by
 unfold Hu;split
 ·have j:=Am raw (Ab raw a 312).2 7 (by decide)
  exact iB (Dt (Ja _)) (by rw[Im];omega) (Kj g (fun x=>(Aj x).length≤L) c _ _)
 ·rename_i e
  have k:=dY e;have l:=Am raw a sc.funcs.length (by omega);have b:Ak (Bc sc.funcs (Ab raw a sc.funcs.length).1.toNat).name=true∧(Bc sc.funcs (Ab raw a sc.funcs.length).1.toNat).params.length≤6:=h.funcs _ (pB (d:=Fu.nil) (i:=(Ab raw a sc.funcs.length).1.toNat) (by omega));dsimp only;generalize Bc sc.funcs (Ab raw a sc.funcs.length).1.toNat=f at b ⊢;exact iB (Dt b.1) (by rw[Im];exact b.2) (Kj g (fun x=>(Aj x).length≤L) c _ _)
theorem aL {sc:Sc}(e:sc.Ok)(raw:List Int)(g:Nat→Ex ×Nat)(L:Nat)(b:∀a,(Aj (g a).1).length≤L)(k:Int)(a:Nat):(Aj (Dg sc raw g k a).1).length≤6*L+64:=by
 unfold Dg;split
 ·have:=Dt (Oo e raw a)
  dsimp only;rw[Ru];omega
 split
 ·dsimp only;rw[Rv];simp
 split
 ·have d:=Am raw (if k=3 then(Ab raw a 3).2 else a) 1000 (by decide)
  have c:=Mb _ (Ab raw (Ab raw (if k=3 then(Ab raw a 3).2 else a) 1000).2 8).1 d;have:=mO c 0 [] [];dsimp only;omega
 split
 ·have:=b (Ab raw a 3).2
  dsimp only;rw[Sg _ _ _ _ (by simp)];have c:=Rc (17+(Ab raw a 3).1);have f:=Mr (g (Ab raw a 3).2).1 9 (Aj (g (Ab raw a 3).2).1);show(As _++Fm (g (Ab raw a 3).2).1 9 (Aj (g (Ab raw a 3).2).1)).length≤_
  rw[Za];omega
 split
 ·have d:=Dt (Nb e raw a)
  have c:=b (Cq sc.free sc.arrays raw a).2;dsimp only;rw[Rt _ _ _ _ (by simp)];show(_++[91]++Aj (g (Cq sc.free sc.arrays raw a).2).1++[93]).length≤_
  simp only[Za,Zc,Ze];omega
 split
 ·exact aE e raw g L b a
 ·dsimp only;rw[Ry _ _ _ _ (by simp)]
  have d:=b (Ab raw a 16).2;have c:=b (g (Ab raw a 16).2).2;have f:=Rc (1+(Ab raw a 16).1);have h:=Mr (g (Ab raw a 16).2).1 (Ao (1+(Ab raw a 16).1)) (Aj (g (Ab raw a 16).2).1);have i:=Mr (g (g (Ab raw a 16).2).2).1 (Ao (1+(Ab raw a 16).1)+1) (Aj (g (g (Ab raw a 16).2).2).1);show(Fm (g (Ab raw a 16).2).1 (Ao (1+(Ab raw a 16).1)) (Aj (g (Ab raw a 16).2).1)++([32]++(As _++[32]))++Fm (g (g (Ab raw a 16).2).2).1 (Ao (1+(Ab raw a 16).1)+1) (Aj (g (g (Ab raw a 16).2).2).1)).length≤_
  simp only[Za,Zc,Ze];omega
def exB:Nat→Nat
 |0=>64
 |d+1=>6*exB d+64
theorem Pf {sc:Sc}(b:sc.Ok)(raw:List Int):∀d a,(Aj (Aw sc raw d a).1).length≤exB d
 |0,a=>by
  rw[Aw];unfold Px;have:=aL b raw (fun a=>(Ex.nil,a)) 0 (fun a=>by show(Aj (.mk 0 0 0 [] [])).length≤0;rw[Hl];decide) (gK raw 0 a) (Ab raw a 12).2;simp only[exB];omega
 |d+1,a=>by
  rw[Aw];unfold Px;exact aL b raw _ (exB d) (Pf b raw d) _ _
theorem vR(t:Nat):(Qi t).length=t:=List.length_replicate
theorem dX(t:Nat)(l:List Bs):(ln t l).length=t+l.flatten.length+1:=by unfold ln;rw[Za,Za,vR];rfl
theorem vY {t N L c b:Nat}{k:Int}{nm:Bs}{args:List Ex}{thn els:List St}(j:nm.length≤N)(d:∀x,x∈args→(Aj x).length≤L)(h:(Ci (t+1) thn).length≤c)(g:(Ci (t+1) els).length≤b):(Cy t (.mk k nm args thn els)).length≤3*t+N+2*L+c+b+40:=by
 have hx:∀i,(Aj (Bx args i)).length≤L:=fun i=>by
  unfold Bx;rcases Nat.lt_or_ge i args.length with a|a
  ·rw[List.getD_eq_getElem?_getD,List.getElem?_eq_getElem a];exact d _ (List.getElem_mem a)
  ·rw[List.getD_eq_getElem?_getD,List.getElem?_eq_none a]
   show(Aj (.mk 0 0 0 [] [])).length≤L
   rw[Hl];exact Zd _
 have e:=hx 0;have f:=hx 1;rw[Ft];unfold Du
 repeat' split
 all_goals
  try simp only[dX,Za,Zq,Zr,Zc,Ze]
  try omega
theorem dD {t B:Nat}:∀l:List St,(∀x,x∈l→(Cy t x).length≤B)→(Ci t l).length≤l.length*B
 |[],_=>by simp [Ci]
 |x::l,h=>by
  have c:=h x Zi;have d:=dD l (fun b a=>h b (Zj _ a));rw[Ci,Za,Zc,Zn];omega
theorem fA {sc:Sc}(e:sc.Ok)(raw:List Int)(gs gl:Nat→List St ×Nat)(d:Nat)(t:Nat)(h:∀a,(Ci (t+1) (gs a).1).length≤d)(i:∀a,(Ci (t+1) (gl a).1).length≤d)(k:Int)(a:Nat):
  ∃j nm args thn els,(Cj sc raw gs gl k a).1=.mk j nm args thn els∧nm.length≤20∧(∀x,x∈args→(Aj x).length≤exB 3)∧(Ci (t+1) thn).length≤d∧(Ci (t+1) els).length≤d:=by
 have b:(Ci (t+1) []).length≤d:=Zd _;have f:∀x:Ex,x∈([]:List Ex)→(Aj x).length≤exB 3:=fun x hx=>by cases hx
 have c:([]:Bs).length≤20:=Zd _;have g:∀a,∀x,x∈[(Aw sc raw 3 a).1]→(Aj x).length≤exB 3:=fun a x hx=>by rw[List.mem_singleton.1 hx];exact Pf e raw 3 a
 unfold Cj;split
 ·exact⟨_,_,_,_,_,rfl,Dt (Oo e raw a),f,b,b⟩
 split
 ·exact⟨_,_,_,_,_,rfl,Dt (Nb e raw a),g _,b,b⟩
 split
 ·exact⟨_,_,_,_,_,rfl,c,fun x hx=>by rw[List.mem_singleton.1 hx];exact aE e raw _ (exB 2) (Pf e raw 2) a,b,b⟩
 split
 ·exact⟨_,_,_,_,_,rfl,c,f,b,b⟩
 split
 ·exact⟨_,_,_,_,_,rfl,c,g _,h _,h _⟩
 split
 ·exact⟨_,_,_,_,_,rfl,c,g _,i _,b⟩
 split
 ·exact⟨_,_,_,_,_,rfl,c,f,b,b⟩
 ·exact⟨_,_,_,_,_,rfl,c,f,b,b⟩
theorem mZ {sc:Sc}(i:sc.Ok)(raw:List Int)(gs gl:Nat→List St ×Nat)(c:Nat)(t d:Nat)(m:∀a,(Ci (t+1) (gs a).1).length≤c)(l:∀a,(Ci (t+1) (gl a).1).length≤c)(a:Nat):(Cy t (gSt sc raw gs gl d a).1).length≤3*t+2*exB 4+2*c+60:=by
 unfold gSt;dsimp only;obtain⟨k,nm,args,thn,els,j,f,e,g,h⟩:=fA i raw gs gl c t m l (Th raw d a) (Ab raw a 14).2;generalize (Cj sc raw gs gl (Th raw d a) (Ab raw a 14).2).2=b;rw[j];have e:∀x,x∈args→(Aj x).length≤exB 4:=fun x hx=>Zl (e x hx) (by decide)
 unfold Kv;split
 ·have:=vY (k:=k) (N:=20) (L:=exB 4) f (args:=args++[(Aw sc raw 4 b).1]) (fun x hx=>by
   rcases List.mem_append.1 hx with hx|hx
   ·exact e x hx
   ·rw[List.mem_singleton.1 hx];exact Pf i raw 4 b) g h
  show(Cy t (.mk k nm (args++[(Aw sc raw 4 b).1]) thn els)).length≤_
  omega
 ·have:=vY (k:=k) (N:=20) (L:=exB 4) f e g h
  show(Cy t (.mk k nm args thn els)).length≤_
  omega
def stB:Nat→Nat
 |0=>4*(2*exB 4+100)
 |d+1=>4*(2*exB 4+2*stB d+100)
theorem Xo{b:Nat→St ×Nat}(P:St→Prop)(d:∀a,P (b a).1)(c a:Nat):∀x,x∈(Ir b c a).1→P x:=Pl b P d c a
theorem five(raw:List Int)(a:Nat):(Ab raw a 5).1.toNat≤4:=by have:=Am raw a 5 (by decide);omega
theorem Qh(raw:List Int):∀(d t:Nat) (sc:Sc),sc.Ok→t+d≤10→∀a,(Ci t (Gt raw d sc a).1).length≤stB d
 |0,t,sc,hs,ht,a=>by
  rw[Gt];have c:=dD (t:=t) (B:=2*exB 4+100) _ (Xo (fun x=>(Cy t x).length≤2*exB 4+100) (fun b=>Zl (mZ hs raw (fun a=>([],a)) (fun a=>([],a)) 0 t 0 (fun _=>Zf _) (fun _=>Zf _) b) (by omega)) (Ab raw a 5).1.toNat (Ab raw a 5).2);rw[Mv]at c;exact Zl c (Zk _ (five raw a))
 |d+1,t,sc,hs,ht,a=>by
  rw[Gt];have c:=dD (t:=t) (B:=2*exB 4+2*stB d+100) _ (Xo (fun x=>(Cy t x).length≤2*exB 4+2*stB d+100) (fun b=>Zl (mZ hs raw (Gt raw d sc) (Gt raw d sc.inLoop) (stB d) t (d+1) (Qh raw d (t+1) sc hs (by omega)) (Qh raw d (t+1) sc.inLoop hs.inLoop (by omega)) b) (by omega)) (Ab raw a 5).1.toNat (Ab raw a 5).2);rw[Mv]at c;exact Zl c (Zk _ (five raw a))
theorem Il(raw:List Int)(a:Nat)(n:Int)(b:a≤raw.length):a≤(Ab raw a n).2∧(Ab raw a n).2≤raw.length:=by
 refine⟨?_,tA raw a n b⟩;unfold Ab;split
 ·exact Zf _
 ·show a≤a+1;omega
def tN(N:Nat)(g:Nat→Ex ×Nat):Prop:= ∀a,a≤N→a≤(g a).2∧(g a).2≤N∧(Aj (g a).1).length+64*a≤1+64*(g a).2
theorem dS(l:List Bs)(x:Bs):(Bm (l++[x])).length≤(Bm l).length+x.length+2:=by
 cases l with
 |nil=>simp [Bm]
 |cons y l=>
  rw[List.cons_append,Bm,Bm,List.flatMap_append];simp only[Za,List.flatMap_cons,List.flatMap_nil,Zc,Ze,List.append_nil];omega
theorem Sx {N:Nat}{g:Nat→Ex ×Nat}(b:tN N g):∀c a,a≤N→a≤(Ej g c a).2∧(Ej g c a).2≤N∧(Bm ((Ej g c a).1.map Aj)).length+64*a≤3*c+64*(Ej g c a).2
 |0,a,h=>⟨Zf _,h,by simp [Ej,Bm]⟩
 |c+1,a,h=>by
  obtain⟨e,d,f⟩:=Sx b c a h;obtain⟨q1,q2,q3⟩:=b (Ej g c a).2 d;rw[Ej];dsimp only;refine⟨by omega,q2,?_⟩;rw[List.map_append];have:=dS ((Ej g c a).1.map Aj) (Aj (g (Ej g c a).2).1);show(Bm ((Ej g c a).1.map Aj++[Aj (g (Ej g c a).2).1])).length+64*a≤_
  omega
theorem aC {N c:Nat}{nm:Bs}{d:List Ex ×Nat}{a b:Nat}(k:nm.length≤20)(j:c≤6)(i:a≤b)(e:b≤d.2∧d.2≤N∧(Bm (d.1.map Aj)).length+64*b≤3*c+64*d.2):a≤d.2∧d.2≤N∧(Aj (.mk 5 0 0 nm d.1)).length+64*a≤65+64*d.2:=by
 obtain⟨g,f,h⟩:=e;refine⟨by omega,f,?_⟩;rw[Ra];simp only[Za,Zc,Ze];omega
theorem qO {sc:Sc}(p:sc.Ok)(raw:List Int){g:Nat→Ex ×Nat}(m:tN raw.length g)(k:Int)(a:Nat)(e:a≤raw.length):a≤(Dg sc raw g k a).2∧(Dg sc raw g k a).2≤raw.length∧(Aj (Dg sc raw g k a).1).length+64*a≤65+64*(Dg sc raw g k a).2:=by
 unfold Dg;split
 ·have w:=Dt (Oo p raw a)
  have h:a≤(Gn sc.free sc.vars raw a).2∧(Gn sc.free sc.vars raw a).2≤raw.length:=by
   unfold Gn;split<;>exact Il raw a _ e
  dsimp only;rw[Ru];exact⟨h.1,h.2,by omega⟩
 split
 ·have h:=Il raw a 3 e
  dsimp only;rw[Rv];exact⟨h.1,h.2,by simp;omega⟩
 split
 ·have s:a≤(if k=3 then(Ab raw a 3).2 else a)∧(if k=3 then(Ab raw a 3).2 else a)≤raw.length:=by
   split
   ·exact Il raw a 3 e
   ·exact⟨Zf _,e⟩
  have l:=Il raw _ 1000 s.2;have u:=Il raw _ 8 l.2;have q:=Am raw (if k=3 then(Ab raw a 3).2 else a) 1000 (by decide);have h:=Mb _ (Ab raw (Ab raw (if k=3 then(Ab raw a 3).2 else a) 1000).2 8).1 q;have:=mO h 0 [] [];dsimp only;exact⟨by omega,u.2,by omega⟩
 split
 ·have l:=Il raw a 3 e
  obtain⟨q1,q2,q3⟩:=m (Ab raw a 3).2 l.2;dsimp only;rw[Sg _ _ _ _ (by simp)];have h:=Rc (17+(Ab raw a 3).1);have r:=Mr (g (Ab raw a 3).2).1 9 (Aj (g (Ab raw a 3).2).1);refine⟨by omega,q2,?_⟩;show(As _++Fm (g (Ab raw a 3).2).1 9 (Aj (g (Ab raw a 3).2).1)).length+64*a≤_
  rw[Za];omega
 split
 ·have q:=Dt (Nb p raw a)
  have l:a≤(Cq sc.free sc.arrays raw a).2∧(Cq sc.free sc.arrays raw a).2≤raw.length:=by
   unfold Cq;split
   ·have j:=Il raw a 312 e
    have n:=Il raw _ 1000 j.2;exact⟨Zl j.1 n.1,n.2⟩
   ·exact Il raw a _ e
  obtain⟨q1,q2,q3⟩:=m (Cq sc.free sc.arrays raw a).2 l.2;dsimp only;rw[Rt _ _ _ _ (by simp)];refine⟨by omega,q2,?_⟩;show(_++[91]++Aj (g (Cq sc.free sc.arrays raw a).2).1++[93]).length+64*a≤_
  simp only[Za,Zc,Ze];omega
 split
 ·unfold Hu
  split
  ·have z:=Am raw (Ab raw a 312).2 7 (by decide)
   have j:=Il raw a 312 e;have n:=Il raw _ 7 j.2;exact aC (c:=(Ab raw (Ab raw a 312).2 7).1.toNat) (b:=(Ab raw (Ab raw a 312).2 7).2) (Dt (Ja _)) (by omega) (Zl j.1 n.1) (Sx m _ _ n.2)
  ·rename_i t
   have A:=dY t;have B:=Am raw a sc.funcs.length (by omega);have o:Ak (Bc sc.funcs (Ab raw a sc.funcs.length).1.toNat).name=true∧(Bc sc.funcs (Ab raw a sc.funcs.length).1.toNat).params.length≤6:=p.funcs _ (pB (d:=Fu.nil) (i:=(Ab raw a sc.funcs.length).1.toNat) (by omega));have j:=Il raw a sc.funcs.length e;dsimp only;generalize Bc sc.funcs (Ab raw a sc.funcs.length).1.toNat=f at o ⊢;exact aC (c:=f.params.length) (Dt o.1) o.2 j.1 (Sx m _ _ j.2)
 ·have l:=Il raw a 16 e
  obtain⟨q1,q2,q3⟩:=m (Ab raw a 16).2 l.2;obtain⟨C,v,D⟩:=m (g (Ab raw a 16).2).2 q2;dsimp only;rw[Ry _ _ _ _ (by simp)];have r:=Rc (1+(Ab raw a 16).1);have x:=Mr (g (Ab raw a 16).2).1 (Ao (1+(Ab raw a 16).1)) (Aj (g (Ab raw a 16).2).1);have y:=Mr (g (g (Ab raw a 16).2).2).1 (Ao (1+(Ab raw a 16).1)+1) (Aj (g (g (Ab raw a 16).2).2).1);refine⟨by omega,v,?_⟩;show(Fm (g (Ab raw a 16).2).1 (Ao (1+(Ab raw a 16).1)) (Aj (g (Ab raw a 16).2).1)++([32]++(As _++[32]))++Fm (g (g (Ab raw a 16).2).2).1 (Ao (1+(Ab raw a 16).1)+1) (Aj (g (g (Ab raw a 16).2).2).1)).length+64*a≤_
  simp only[Za,Zc,Ze];omega
theorem bW {sc:Sc}(k:sc.Ok)(raw:List Int)(d:Nat){g:Nat→Ex ×Nat}(j:tN raw.length g):tN raw.length (Px sc raw d g):=by
 intro a i;unfold Px
 by_cases h:raw.length≤a
 ·have e:∀n,Ab raw a n=(0,a):=fun n=>by unfold Ab;rw[if_pos h]
  have c:gK raw d a=0:=by unfold gK;rw[e];split<;>rfl
  rw[c,e];show a≤(Dg sc raw g 0 a).2∧(Dg sc raw g 0 a).2≤raw.length∧(Aj (Dg sc raw g 0 a).1).length+64*a≤1+64*(Dg sc raw g 0 a).2
  have b:Dg sc raw g 0 a=(.mk 1 0 0 [] [],a):=by
   unfold Dg;rw[if_neg (by simp),if_neg (by simp),if_pos (by decide),if_neg (by decide)];dsimp only;rw[e 1000];dsimp only;rw[e 8];rfl
  rw[b];refine⟨Zf _,i,?_⟩;rw[Qv];have:(Lib.itoa 0).length=1:=by rw[Lib.itoa,if_neg (by decide)];rw[Lib.decDigits,dif_pos (by decide)];rfl
  rw[this];exact Zf _
 ·have e:(Ab raw a 12).2=a+1:=by unfold Ab;rw[if_neg h]
  rw[e];obtain⟨l,f,m⟩:=qO k raw j (gK raw d a) (a+1) (by omega);exact⟨by omega,f,by omega⟩
theorem bN {sc:Sc}(b:sc.Ok)(raw:List Int):∀d,tN raw.length (Aw sc raw d)
 |0=>by
  rw[Aw];exact bW b raw 0 (fun a c=>⟨Zf _,c,by
   have:(Aj (Ex.nil)).length=0:=by show(Aj (.mk 0 0 0 [] [])).length=0;rw[Hl];decide
   show(Aj Ex.nil).length+64*a≤1+64*a
   omega⟩)
 |d+1=>by
  rw[Aw];exact bW b raw (d+1) (bN b raw d)
theorem Yv(a:List Int):(Aj (Mw a)).length≤6401:=by
 have c:Sc.Ok ⟨[],[],[],true,false⟩:=⟨fun x hx=>(by cases hx),fun x hx=>(by cases hx),fun x hx=>(by cases hx)⟩;have b:=(bN c (a.take 100) 6 0 (Zd _));have h:(a.take 100).length≤100:=by rw[List.length_take];omega
 have e:Mw a=(Aw ⟨[],[],[],true,false⟩ (a.take 100) 6 0).1:=rfl;rw[e];obtain⟨d,f,g⟩:=b;omega
def PreE(w:Zv)(raw:List Int)(a:Zv):Prop:=Az a (w.heap.size+1) raw 0∧Zu w.heap.size w a∧Ad a w.heap.size [.int .i64 0,.int .i64 0,.int .i64 0,.string ⟨#[]⟩,.slice none 0 0] 35
theorem nO(w:Zv)(raw:List Int){v:Value}(g:Ib (· <w.heap.size) w raw v):PreE w raw ((w.alloc (.cells #[.int .i64 0,.int .i64 0,.int .i64 0,.string ⟨#[]⟩,.slice none 0 0] 35)).alloc (.cells #[v,.int .i64 0] 67)):=by
 have c:Zu w.heap.size w ((w.alloc (ζ)).alloc (.cells #[v,ι 0] 67)):=(bA).alloc (by simp) _;have d:=Zg (w.alloc (ζ)) [v,ι 0] 67;rw[show(w.alloc (ζ)).heap.size=w.heap.size+1 by simp]at d;refine⟨⟨v,d,?_,Zd _⟩,c,(Zg w η 35).alloc _⟩;have a:=g.keep (Be c);obtain⟨e,f,b,m,l,h,a,i,j,k⟩:=a;exact⟨e,f,b,m,l,h,a,i.imp id (fun q=>⟨q.1,by have:=q.2;omega⟩),j,k⟩
def xU(w:Zv)(e:Ex)(a:Ending)(w':Zv):Prop:= ∃v,a=.returned (exV e v)∧Zu w.heap.size w w'∧Ag (w.heap.size≤ ·) w' e.args v∧I64 e.n
theorem oJ(a:List Int)(F:Value)(w:Zv)(t:Ia (· <w.heap.size) w a F):Calls Zm 8 #[F] w (xU w (Mw a)):=by
 obtain⟨Y,E,rfl⟩:=t.shape;have l:=Zb t;obtain⟨raw,u⟩:∃raw,raw=a.take 100:=⟨_,rfl⟩;obtain⟨m,y⟩:=Y2 u (fun o (T:Az o (w.heap.size+1) raw 0)=>Ku 6 (by omega) (w.heap.size+1) raw 0 ⟨[],[],[],true,false⟩ (ν) (ν) (ν) o T ⟨Bb.zero,Cd.zero,Bw.zero,Zd _,Zd _,Zd _,fun f V=>(by cases V)⟩);have z:Mw a=(Aw ⟨[],[],[],true,false⟩ raw 6 0).1:=by rw[u];rfl
 rw[z];generalize Aw ⟨[],[],[],true,false⟩ raw 6 0=N at*;obtain⟨e,aa⟩:=N;clear z u t;go_enter func8,ntmps8
 go_upto_if 9 with(fail)
 go_cut [] (fun o=>PreE w raw o)
 case first=>
  by_cases h100:100<a.length
  ·have A:(100:Int)<(a.length:Int):=by omega
   have ah:(100:Int)≤(E:Int):=by
    obtain⟨Z,ad,b,aj,W,U,_⟩:=l.o
    cases W;omega
   go_wp2;go_meet;have C:=l.o.take 100 (by omega) (by decide);rw[←m.o]at C;have U:raw.length=100:=by rw[m.o,List.length_take];omega
   exact nO w raw C
  ·have A:(a.length:Int)≤100:=by omega
   have L:Zt (Ib (· <w.heap.size) w raw (ρ Y a E)):=by
    have e:raw=a:=by rw[m.o];exact List.take_of_length_le (by omega)
    show Ib _ _ _ _
    rw[e];have:=l.o.take a.length (Zf _) (by omega);rwa[List.take_length]at this
   go_wp2;go_meet;exact nO w raw L.o
 case rest=>
 have h:=Zb hcut;clear hcut l m;go_wp2_with fail;refine(y.o _ h.o.1).mono ?_;rintro ak w2 ⟨v,rfl,D,s,r,B⟩;obtain⟨G,H,rfl⟩:=r.shape;obtain⟨c,I⟩:=Y2 (h.o.2.2.sfr s (by omega)) (h.o.2.1.trans ((s.below (Nat.le_of_lt h.o.1.lt)).mono (by omega)));have ai:w.heap.size+1<w2.heap.size:=D.lt;have X:w.heap.size+1<_:=h.o.1.lt;obtain⟨J,K⟩:=Y2 (r.mono (D':=(w.heap.size+1≤ ·)) (fun b q=>by have:_≤b:=q;omega)) B;clear D s r B h y X;obtain⟨k,d,n,nm,g⟩:=e;have ab:=c.o.fz 0;have ac:=c.o.fz 1;have A:=c.o.lt;obtain ⟨al, am, an, ao, ap⟩ := τ5 c.o;have ae:=c.o.fz 2;have af:=c.o.fz 3;have ag:=c.o.fz 4;go_wp2_with fail;have M:=Zb (((((c.o.set 0 (ι (Ex.mk k d n nm g).kind)).set 1 (ι (Ex.mk k d n nm g).op)).set 2 (ι (Ex.mk k d n nm g).n)).set 3 (.string (Aa (Ex.mk k d n nm g).name))).set 4 (.slice G (Ex.mk k d n nm g).args.length H));obtain ⟨O, P, Q, R, S⟩ := τ5 M.o;have st:∀(v:Zv) (i:Nat) (x:Value),Zu w.heap.size v (v.setCell ⟨w.heap.size,i,none⟩ x):=fun v i x=>(Below.refl _ _).setCell (p:=⟨w.heap.size,i,none⟩) (Zf _) x
 have j:∀(v:Zv) (i:Nat) (x:Value),Db (w.heap.size+1≤ ·) v (v.setCell ⟨w.heap.size,i,none⟩ x):=fun v i x=>Av v (Nat.lt_succ_self _) i x
 exact bodyPost_ret (v:=exV (Ex.mk k d n nm g) (.slice G (Ex.mk k d n nm g).args.length H)) (by simp [results,results8,go_sem,O,P,Q,R,S]) rfl ⟨_,rfl,((((I.o.trans (st _ _ _)).trans (st _ _ _)).trans (st _ _ _)).trans (st _ _ _)).trans (st _ _ _),(((((J.o.keep (j _ _ _)).keep (j _ _ _)).keep (j _ _ _)).keep (j _ _ _)).keep (j _ _ _)).mono (fun b q=>by have:w.heap.size+1≤b:=q;omega),K.o⟩
def fuB:Nat:=1000+stB 4
def prB:Nat:=200+3*fuB
theorem tE:2*prB≤140737488355328:=by decide+kernel
theorem lO {a:Ar}(b:Cz a=true):(Sp a).length≤100:=by
 unfold Cz at b;simp only[Zo,decide_eq_true_eq]at b;have c:=Dt b.1;have d:=Lib.itoa_length_le a.size (by omega) (by omega);unfold Sp;rw[dX];simp only[Zq,Zr,Za,Zc,Ze];omega
theorem Ud:∀l:List Ar,(∀a,a∈l→Cz a=true)→(Fq l).length≤l.length*100
 |[],_=>by simp [Fq]
 |a::l,h=>by
  have b:=lO (h a Zi);have c:=Ud l (fun x hx=>h x (Zj _ hx));show(Sp a++Fq l).length≤_
  rw[Za,Zc,Zn];omega
theorem Uc:∀l:List Bs,(∀x,x∈l→Ak x=true)→(Gh l).length≤l.length*40
 |[],_=>by simp [Gh]
 |x::l,h=>by
  have b:=Dt (h x Zi);have c:=Uc l (fun y a=>h y (Zj _ a));show(ln 1 [[105,110,116,32],x,[59]]++Gh l).length≤_
  rw[Za,dX,Zc,Zn];simp only[Zq,Zr,Za,Zc,Ze];omega
theorem jE {f:Fu}(a:FOk f)(c:f.params.length≤6)(b:f.locals.length≤5)(k:(Ci 1 f.body).length≤stB 4):(Lj f).length≤fuB:=by
 have e:=Dt a.name;have g:=mH 24 (f.params.map Kz) (fun x hx=>by
  obtain⟨y,d,rfl⟩:=List.mem_map.1 hx;have:=Dt (a.params y d);unfold Kz;rw[Za];simp;omega)
 have h:=Uc f.locals a.locals;have i:(f.params.map Kz).length*(24+2)≤6*26:=Zk _ (by rw[List.length_map];exact c);have j:f.locals.length*40≤5*40:=Zk _ b;unfold Lj fuB;simp only[Za,dX,Zq,Zr,Zc,Ze];omega
theorem Ui:∀l:List Fu,(∀f,f∈l→(Lj f).length≤fuB)→(Gi l).length≤l.length*fuB
 |[],_=>by simp [Gi]
 |a::l,h=>by
  have b:=h a Zi;have c:=Ui l (fun x hx=>h x (Zj _ hx));show(Lj a++Gi l).length≤_
  rw[Za,Zc,Zn];omega
theorem Ug(raw:List Int)(sc:Sc)(P:Fu→Prop)(b:∀f,f∈sc.funcs→∀a,P (Pw raw sc f a).1):∀(l:List Fu),(∀f,f∈l→f∈sc.funcs)→∀a,∀x,x∈(Dk raw sc l a).1→P x
 |[],_,a,x,hx=>by cases hx
 |f::l,hl,a,x,hx=>by
  rw[Dk]at hx;rcases List.mem_cons.1 hx with rfl|hx
  ·exact b f (hl f Zi) a
  ·exact Ug raw sc P b l (fun g c=>hl g (Zj _ c)) _ x hx
theorem Om(raw:List Int)(sc:Sc):∀(l:List Fu) (a:Nat),(Dk raw sc l a).1.length=l.length
 |[],a=>rfl
 |g::l,a=>by rw[Dk,Zc,Zc,Om raw sc l]
theorem Rz(b:Bool)(raw:List Int):∀n a,(Jg b raw n a).1.length=n
 |0,a=>rfl
 |n+1,a=>by rw[Jg,Zc,Rz b raw n]
theorem Sd(raw:List Int):∀n a,(Iu raw n a).1.length=n
 |0,a=>rfl
 |n+1,a=>by rw[Iu,Zc,Sd raw n]
theorem gSc_ok(raw:List Int)(a:Bool){f:Fu}(b:f∈(Jr raw a).funcs){k:Nat}:Sc.Ok ⟨f.params++Dp.take k,(Jr raw a).arrays,(Jr raw a).funcs,a,false⟩:=by
 refine⟨fun x hx=>?_,fun x hx=>?_,fun x hx=>⟨(Ht raw a x hx).1,(Ht raw a x hx).2.1⟩⟩
 ·rcases List.mem_append.1 hx with hx|hx
  ·exact(Ht raw a f b).2.2 x hx
  ·exact bC x (List.mem_of_mem_take hx)
 ·have:=Nt raw a x hx
  unfold Cz at this;exact((Zo _ _).mp this).1
theorem gE(raw:List Int)(b:Bool):∀f,f∈(Kt raw b).funcs→(Lj f).length≤fuB:=by
 intro f c;have e:=Oe raw b;unfold Eh at e;simp only[Zo,List.all_eq_true]at e;have j:=qY (e.2 f c);have d:=Ug (raw.take 400) (Jr (raw.take 400) b) (fun f=>f.params.length≤6∧f.locals.length≤5∧(Ci 1 f.body).length≤stB 4) (fun g h a=>by
  have i:=Ht (raw.take 400) b g h;refine⟨i.2.1,?_,?_⟩
  ·show(Dp.take _).length≤5
   rw[List.length_take];exact Nat.min_le_right _ _
  ·exact Qh (raw.take 400) 4 1 _ (gSc_ok (raw.take 400) b h) (by omega) _) (Jr (raw.take 400) b).funcs (fun f c=>c) _ f c
 exact jE j d.1 d.2.1 d.2.2
theorem cW(raw:List Int)(a:Bool):(Kt raw a).arrays.length≤2∧(Kt raw a).funcs.length≤3∧0<(Kt raw a).funcs.length:=by
 have d:=Am (raw.take 400) 0 3 (by decide);have e:=Am (raw.take 400) (Kd (raw.take 400) a).2 3 (by decide);have b:(Kt raw a).arrays.length=(Ab (raw.take 400) 0 3).1.toNat:=Rz _ _ _ _;have c:(Kt raw a).funcs.length=(Ab (raw.take 400) (Kd (raw.take 400) a).2 3).1.toNat+1:=by
  show(Dk _ _ _ _).1.length=_
  rw[Om];show(Lc::(Qb _ _).1).length=_
  rw[Zc];show(Iu _ _ _).1.length+1=_
  rw[Sd]
 rw[b,c];omega
theorem rD(raw:List Int)(a:Bool):(Jw (Kt raw a)).length≤prB:=by
 have b:=Oe raw a;unfold Eh at b;simp only[Zo,List.all_eq_true]at b;obtain⟨c,d,_⟩:=cW raw a;have e:=Ud _ b.1;have f:=Ui _ (gE raw a);have g:(Kt raw a).arrays.length*100≤2*100:=Zk _ c;have h:(Kt raw a).funcs.length*fuB≤3*fuB:=Zk _ d;unfold Jw prB;rw[Za];omega
theorem Kn {D:Nat→Prop}{w:Zv}{l:List Bs}{v:Value}(a:Bb D w l v)(n:Nat):Bb D (w.drewN n) l v:=Bb.keep (w:=w) (w':=w.drewN n) (fun _ _ _ _ hx=>hx) a
theorem eC(d c:List Bs):(d==c)=Cb (fun a b=>a==b) d c:=by
 induction d generalizing c with
 |nil=>cases c<;>rfl
 |cons x d ih=>cases c with
  |nil=>rfl
  |cons y c=>rw[Cb,←ih];rfl
theorem Ri(c d:List Bs)(D:Nat→Prop){H I:Value}{w:Zv}(f:Bb D w c H)(g:Bb D w d I):
  Calls Zm 36 #[H,I] w fun e w'=>e=.returned (.bool (c==d))∧∃n,w'=w.drewN n:=by
 obtain⟨N,O,rfl⟩:=f.shape;obtain⟨Q,R,rfl⟩:=g.shape;have af:=f.fits.lt;have Z:=g.fits.lt;rw[eC]
 by_cases hl:d.length=c.length
 ·obtain⟨K,t,h⟩:=Y3 f g hl
  rw[hl]at t ⊢;clear f g hl Z;go_enter func36,ntmps36;go_wp2
  go_loopw [5] (fun r wr=> ∃k:Nat,k≤c.length∧r= ι k∧(∀i,i<k→(c.getD i []==d.getD i [])=true)∧∃n,wr=w.drewN n) (fun r _=>c.length-(Zw r).toNat)
  case atStart=>exact⟨0,Zd _,rfl,fun i m=>by omega,0,rfl⟩
  case round=>
   obtain⟨k,ab,rfl,G,j⟩:=hrel;obtain⟨v,l⟩:=Y2 G j;have s:Zt (Bb D wr c (ρ N c O)):=by obtain⟨n,rfl⟩:=j;exact Kn K.o n
   have u:Zt (Bb D wr d (ρ Q c R)):=by obtain⟨n,rfl⟩:=j;exact Kn t.o n
   clear G j
   by_cases hlt:k<c.length
   ·obtain⟨ag,ah,ai,aj,S,T,U,B,C⟩:=s.o
    obtain⟨ak,al,am,an,V,W,X,E,F⟩:=u.o
    cases S
    injection V with q1 q2 q3
    subst q1 q3;clear q2;obtain⟨rfl,_⟩:=B.resolve_left (by omega);obtain⟨rfl,_⟩:=E.resolve_left (by have:=h.o;omega);have M:=C k hlt;have P:=F k (by rw[h.o];exact hlt);clear T U B C W X E F s u;have L:=Zb hlt;have ad:(0:Int)≤(k:Int):=by omega
    have ae:(k:Int)<(c.length:Int):=by omega
    obtain⟨x,hx⟩:∃x,c.getD k []=x:=⟨_,rfl⟩;obtain⟨y,q⟩:∃y,d.getD k []=y:=⟨_,rfl⟩;rw[hx]at M;rw[q]at P;obtain⟨z,A⟩:=Y2 hx q;clear hx q;go_wp2_with fail;go_quiet (fail)
    cases hq:x==y
    ·go_wp2
     go_ret
     obtain⟨aa,p⟩:=l.o;exact⟨Ae (Ii _ [] c d k h.o.symm L.o (by rw[z.o,A.o];exact hq)).symm,_,by rw[p,Zp]⟩
    ·go_wp2
     go_roundw
     case rel=>exact⟨k+1,by omega,by go_num,fun i m=>by rcases Zs.1 m with Y|rfl;exact v.o i Y;rw[z.o,A.o];exact hq,by obtain⟨aa,p⟩:=l.o;exact⟨_,by rw[p,Zp]⟩⟩
     case measure=>simp [Zw];omega
   ·go_wp2
    go_ret
    exact⟨Ae (Jm _ [] c d h.o.symm (fun i m=>v.o i (by omega))).symm,l.o⟩
 ·have ac:((c.length:Int) !=(d.length:Int))=true:=by rw[bne_iff_ne];omega
  have J:Zt (Cb (fun a b:Bs=>a==b) c d=false):=Nf _ _ _ (by omega);clear f g hl;go_enter func36,ntmps36;go_wp2;go_ret
  exact⟨Ae J.out.symm,0,rfl⟩
theorem Jf {B:Nat}{a w:Zv}(b:Zu B a w)(n:Nat):Zu B a (w.drewN n):=⟨b.os,b.tape,b.output,b.size,b.block⟩
theorem Wu {p q:Pr}(a:p.arrays.length≠q.arrays.length∨p.funcs.length≠q.funcs.length):Lv p q=false:=by
 cases e:Lv p q
 ·rfl
 ·have:=(Wc p q).1 e
  subst this;rcases a with a|a<;>exact absurd rfl a
theorem Qp(p q:Pr):Lv p q=(Cb Jp p.arrays q.arrays && Cb Ke p.funcs q.funcs):=by
 unfold Lv;rw[Tt,Uh]
theorem qV(p q:Pr)(D:Nat→Prop){bH bI bJ bK:Value}(w:Zv)(ao:Cd D w p.arrays bH)(aq:Bw D w p.funcs bI)(ap:Cd D w q.arrays bJ)(ar:Bw D w q.funcs bK):
  Calls Zm 14 #[.agg #[bH,bI],.agg #[bJ,bK]] w fun cs w'=>cs=.returned (.bool (Lv p q))∧Zu w.heap.size w w':=by
 obtain⟨t,u,rfl⟩:=ao.shape;obtain⟨v,x,rfl⟩:=aq.shape;obtain⟨N,O,rfl⟩:=ap.shape;obtain⟨ab,ac,rfl⟩:=ar.shape;have cL:=ao.fits.lt;have cM:=aq.fits.lt;have cp:=ap.fits.lt;have cq:=ar.fits.lt;have aY:Zu w.heap.size w (w.alloc (.cells #[.slice t p.arrays.length u,.slice v p.funcs.length x] 30)):=bA;have aU:=Zg w [.slice t p.arrays.length u,.slice v p.funcs.length x] 30;have bD:(w.alloc (.cells #[.slice t p.arrays.length u,.slice v p.funcs.length x] 30)).heap.size=w.heap.size+1:=by simp
 obtain⟨Y,aW⟩:∃aM,w.alloc (.cells #[.slice t p.arrays.length u,.slice v p.funcs.length x] 30)=aM:=⟨_,rfl⟩;have aZ:Zu Y.heap.size Y (Y.alloc (.cells #[.slice N q.arrays.length O,.slice ab q.funcs.length ac] 30)):=bA;have bw:=Zg Y [.slice N q.arrays.length O,.slice ab q.funcs.length ac] 30;rw[aW]at aY aU bD;have f:=aY.trans (aZ.mono (by omega));obtain⟨M,ak,U,aD,aF,aE,aG⟩:=Y7 f (aU.old aZ) bw (ao.old f) (Zh f aq) (ap.old f) (Zh f ar);rw[←aW]at M ak U aD aF aE aG;clear aY aZ f aU bw ao aq ap ar bD aW Y;have bC:(w.alloc (.cells #[.slice t p.arrays.length u,.slice v p.funcs.length x] 30)).heap.size=w.heap.size+1:=by simp
 rw[bC]at U;clear bC;go_enter func14,ntmps14;go_upto_region 1 with(fail);generalize (w.alloc (.cells #[.slice t p.arrays.length u,.slice v p.funcs.length x] 30)).alloc (.cells #[.slice N q.arrays.length O,.slice ab q.funcs.length ac] 30)=d at*;obtain ⟨q0, q1⟩ := τ2 ak.out;obtain ⟨au, S⟩ := τ2 U.out
 by_cases hla:p.arrays.length=q.arrays.length
 ·by_cases hlf:p.funcs.length=q.funcs.length
  ·obtain⟨aH,aI⟩:=Y2 hla hlf;rw[←hla]at au;rw[←hlf]at S;have bY:Zt (∀w',Zu d.heap.size d w'→Ad w' w.heap.size [.slice t p.arrays.length u,.slice v p.funcs.length x] 30):=fun w' g=>ak.out.old g
   have bZ:Zt (∀w',Zu d.heap.size d w'→Ad w' (w.heap.size+1) [.slice N p.arrays.length O,.slice ab p.funcs.length ac] 30):=fun w' g=>by rw[hla,hlf];exact U.out.old g
   have bW:Zt (∀w',Zu d.heap.size d w'→Bw D w' p.funcs (.slice v p.funcs.length x)):=fun w' g=>Zh g aF.out
   have bX:Zt (∀w',Zu d.heap.size d w'→Bw D w' q.funcs (.slice ab p.funcs.length ac)):=fun w' g=>by rw[hlf];exact Zh g aG.out
   have bi:Zt (Cd D d q.arrays (.slice N p.arrays.length O)):=by rw[hla];exact aE.out
   clear hla hlf cp cq ak U aF aG aE;go_wp2
   go_loopw [5] (fun bd wr=> ∃k:Nat,k≤p.arrays.length∧bd= ι k∧Zt (∀i,i<k→Jp (Em p.arrays i) (Em q.arrays i)=true)∧∃n,wr=d.drewN n) (fun bd _=>p.arrays.length-(Zw bd).toNat)
   case atStart=>exact⟨0,Zd _,rfl,fun i m=>absurd m (by omega),0,rfl⟩
   case round=>
    obtain⟨k,cn,rfl,l,a⟩:=hrel;have bk:=Zb a;have u0:wr.cell? ⟨w.heap.size,0,none⟩=some (.slice t p.arrays.length u):=by obtain⟨n,rfl⟩:=a;exact q0
    have ct:wr.cell? ⟨w.heap.size+1,0,none⟩=some (.slice N p.arrays.length O):=by obtain⟨n,rfl⟩:=a;exact au
    by_cases hlt:k<p.arrays.length
    ·have co:(k:Int)<(p.arrays.length:Int):=by omega
     have aJ:=Zb hlt;obtain⟨b,bE,rfl,aS,cj,al,am⟩:=aD.out.cellAt k hlt;obtain⟨bp,bF,rfl,aT,ck,Z,aa⟩:=bi.out.cellAt k (by rw[←aH.o];exact hlt);have cD:wr.cell? ⟨b,bE+k*2,none⟩=some (.string (Aa (Em p.arrays k).name)):=by obtain⟨n,rfl⟩:=a;exact al
     have cE:wr.cell? ⟨b,bE+k*2+1,none⟩=some (ι (Em p.arrays k).size):=by obtain⟨n,rfl⟩:=a;exact am
     have cF:wr.cell? ⟨bp,bF+k*2,none⟩=some (.string (Aa (Em q.arrays k).name)):=by obtain⟨n,rfl⟩:=a;exact Z
     have cG:wr.cell? ⟨bp,bF+k*2+1,none⟩=some (ι (Em q.arrays k).size):=by obtain⟨n,rfl⟩:=a;exact aa
     have aK:Zt (Jp (Em p.arrays k) (Em q.arrays k)=true→∀i,i<k+1→Jp (Em p.arrays i) (Em q.arrays i)=true):=fun g i m=>by
      rcases Zs.1 m with G|G
      ·exact l.o i G
      ·subst G;exact g
     have F:Zt (Jp (Em p.arrays k) (Em q.arrays k)=false→Lv p q=false):=fun g=>by
      rw[Qp,Ii Jp Ar.nil _ _ k aH.o aJ.o g];rfl
     have V:Zt (Zu w.heap.size w wr):=by obtain⟨n,rfl⟩:=a;exact Jf M.out n
     have c:Zt (Jp (Em p.arrays k) (Em q.arrays k)=((Em p.arrays k).name==(Em q.arrays k).name && (Em p.arrays k).size==(Em q.arrays k).size)):=rfl;clear aS cj aT ck al am Z aa a l q0 q1 au S;generalize Jp (Em p.arrays k) (Em q.arrays k)=r at*;generalize (Em p.arrays k).name=ag at*;generalize (Em p.arrays k).size=xs at*;generalize (Em q.arrays k).name=ah at*;generalize (Em q.arrays k).size=cy at*
     cases e1:ag==ah
     ·have j:Zt (r=false):=by show _=_;rw[c.o,e1];rfl
      clear c;go_wp2_with fail;go_quiet (fail);go_wp2;go_ret
      exact⟨Ae (F.o j.o).symm,Jf V.o _⟩
     ·cases e2:xs==cy
      ·have j:Zt (r=false):=by show _=_;rw[c.o,e1,e2];rfl
       clear c;go_wp2_with fail;go_quiet (fail);go_wp2;go_ret
       exact⟨Ae (F.o j.o).symm,Jf V.o _⟩
      ·have aL:Zt (r=true):=by show _=_;rw[c.o,e1,e2];rfl
       clear c;obtain rfl:=eq_of_beq e1;obtain rfl:=eq_of_beq e2;clear e1 e2;go_wp2_with fail;go_quiet (fail);have cb:Zt (∃n,wr.drewN nq=d.drewN n):=by obtain⟨n,a⟩:=bk.o;exact⟨_,by rw[a,Zp]⟩
       go_wp2;go_roundw
       case rel=>exact⟨k+1,by omega,by go_num,aK.o aL.o,cb.o⟩
       case measure=>simp [Zw];omega
    ·have cc:Zt (Cb Jp p.arrays q.arrays=true):=Jm Jp Ar.nil _ _ aH.o (fun i m=>l.o i (by omega))
     have V:Zt (Zu w.heap.size w wr):=by obtain⟨n,rfl⟩:=a;exact Jf M.out n
     have bj:Zt (Zu d.heap.size d wr):=by obtain⟨n,rfl⟩:=a;exact Jf (Below.refl _ _) n
     clear l a bk q0 q1 au S aD bi M;go_wp2
     go_loopw [6] (fun be bL=> ∃k:Nat,k≤p.funcs.length∧be= ι k∧Zt (∀i,i<k→Ke (Bc p.funcs i) (Bc q.funcs i)=true)∧Zt (Zu w.heap.size w bL)∧Zt (Zu d.heap.size d bL)) (fun be _=>p.funcs.length-(Zw be).toNat)
     case atStart=>exact⟨0,Zd _,rfl,fun i m=>absurd m (by omega),V,bj⟩
     case round=>
      clear u0 ct V bj;obtain⟨k,cn,rfl,l,aj,E⟩:=hrel;have q1:=(bY.out _ E.out).at 1 _ rfl;have S:=(bZ.out _ E.out).at 1 _ rfl;obtain⟨bg,bh⟩:=Y2 (bW.out _ E.out) (bX.out _ E.out)
      by_cases hlt:k<p.funcs.length
      ·have co:(k:Int)<(p.funcs.length:Int):=by omega
       have aJ:=Zb hlt;obtain⟨cH,cI,pv,lv,cP,rfl,aS,cl,al,am,ch,ci,ad,an,aQ⟩:=bg.out.cellAt k hlt;obtain⟨cJ,cK,cO,cN,cQ,rfl,aT,cm,Z,aa,bs,bu,aO,aP,aR⟩:=bh.out.cellAt k (by rw[←aI.o];exact hlt);obtain⟨Q,R,rfl⟩:=ad.shape;obtain⟨H,l2,rfl⟩:=an.shape;obtain⟨K,L,rfl⟩:=aQ.shape;obtain⟨I,J,rfl⟩:=aO.shape;obtain⟨z,A,rfl⟩:=aP.shape;obtain⟨B,C,rfl⟩:=aR.shape;have aK:Zt (Ke (Bc p.funcs k) (Bc q.funcs k)=true→∀i,i<k+1→Ke (Bc p.funcs i) (Bc q.funcs i)=true):=fun g i m=>by
        rcases Zs.1 m with G|G
        ·exact l.o i G
        ·subst G;exact g
       have F:Zt (Ke (Bc p.funcs k) (Bc q.funcs k)=false→Lv p q=false):=fun g=>by
        rw[Qp,Ii Ke Fu.nil _ _ k aI.o aJ.o g];simp
       have c:Zt (Ke (Bc p.funcs k) (Bc q.funcs k)=((Bc p.funcs k).name==(Bc q.funcs k).name && ((Bc p.funcs k).params==(Bc q.funcs k).params) && ((Bc p.funcs k).locals==(Bc q.funcs k).locals) && Cb Da (Bc p.funcs k).body (Bc q.funcs k).body)):=by
        show _=_;rw[eC,eC,←Qk,←Qk,←Mi];rfl
       have y:Zu wr.heap.size wr (wr.alloc (.cells #[.string (Aa (Bc p.funcs k).name),.slice Q (Bc p.funcs k).params.length R,.slice H (Bc p.funcs k).locals.length l2,.slice K (Bc p.funcs k).body.length L] 48)):=bA;have aV:=Zg wr [.string (Aa (Bc p.funcs k).name),.slice Q (Bc p.funcs k).params.length R,.slice H (Bc p.funcs k).locals.length l2,.slice K (Bc p.funcs k).body.length L] 48;have bc:(wr.alloc (.cells #[.string (Aa (Bc p.funcs k).name),.slice Q (Bc p.funcs k).params.length R,.slice H (Bc p.funcs k).locals.length l2,.slice K (Bc p.funcs k).body.length L] 48)).heap.size=wr.heap.size+1:=by simp
       obtain⟨s,aX⟩:∃aM,wr.alloc (.cells #[.string (Aa (Bc p.funcs k).name),.slice Q (Bc p.funcs k).params.length R,.slice H (Bc p.funcs k).locals.length l2,.slice K (Bc p.funcs k).body.length L] 48)=aM:=⟨_,rfl⟩;rw[aX]at y aV bc;have bG:=Ac y S;have bq:=Ac y Z;have br:=Ac y aa;have bt:=Ac y bs;have bv:=Ac y bu;have ba:Zu s.heap.size s (s.alloc (.cells #[.string (Aa (Bc q.funcs k).name),.slice I (Bc q.funcs k).params.length J,.slice z (Bc q.funcs k).locals.length A,.slice B (Bc q.funcs k).body.length C] 48)):=bA;have bx:=Zg s [.string (Aa (Bc q.funcs k).name),.slice I (Bc q.funcs k).params.length J,.slice z (Bc q.funcs k).locals.length A,.slice B (Bc q.funcs k).body.length C] 48;have f:=y.trans (ba.mono (by omega));obtain⟨aA,aC,aB,ai⟩:=Y4 (aj.out.trans (f.mono aj.out.size)) (E.out.trans (f.mono E.out.size)) (aV.old ba) bx;have aw:Zt (∀h,(∃n,h=(s.alloc (.cells #[.string (Aa (Bc q.funcs k).name),.slice I (Bc q.funcs k).params.length J,.slice z (Bc q.funcs k).locals.length A,.slice B (Bc q.funcs k).body.length C] 48)).drewN n)→Calls Zm 36 #[.slice Q (Bc p.funcs k).params.length R,.slice I (Bc q.funcs k).params.length J] h fun e w'=>e=.returned (.bool ((Bc p.funcs k).params==(Bc q.funcs k).params))∧∃n,w'=h.drewN n):=by
        rintro h ⟨n,rfl⟩;exact Ri (Bc p.funcs k).params (Bc q.funcs k).params D (Kn (ad.old f) n) (Kn (aO.old f) n)
       have ax:Zt (∀h,(∃n,h=(s.alloc (.cells #[.string (Aa (Bc q.funcs k).name),.slice I (Bc q.funcs k).params.length J,.slice z (Bc q.funcs k).locals.length A,.slice B (Bc q.funcs k).body.length C] 48)).drewN n)→Calls Zm 36 #[.slice H (Bc p.funcs k).locals.length l2,.slice z (Bc q.funcs k).locals.length A] h fun e w'=>e=.returned (.bool ((Bc p.funcs k).locals==(Bc q.funcs k).locals))∧∃n,w'=h.drewN n):=by
        rintro h ⟨n,rfl⟩;exact Ri (Bc p.funcs k).locals (Bc q.funcs k).locals D (Kn (an.old f) n) (Kn (aP.old f) n)
       have ay:Zt (∀h,(∃n,h=(s.alloc (.cells #[.string (Aa (Bc q.funcs k).name),.slice I (Bc q.funcs k).params.length J,.slice z (Bc q.funcs k).locals.length A,.slice B (Bc q.funcs k).body.length C] 48)).drewN n)→Calls Zm 37 #[.slice K (Bc p.funcs k).body.length L,.slice B (Bc q.funcs k).body.length C] h fun e w'=>e=.returned (.bool (Cb Da (Bc p.funcs k).body (Bc q.funcs k).body))∧∃n,w'=h.drewN n):=by
        rintro h ⟨n,rfl⟩;exact tC (Bc p.funcs k).body (Bc q.funcs k).body D _ _ _ (Ec (aQ.old f) n) (Ec (aR.old f) n)
       rw[bc]at ai;rw[←aX]at aA aC aB ai aw ax ay bG bq br bt bv;clear y aV bc ba bx f aX s aS cl aT cm ad an aQ aO aP aR l aj E bg bh;generalize Ke (Bc p.funcs k) (Bc q.funcs k)=r at*;generalize ((Bc p.funcs k).params==(Bc q.funcs k).params)=cf at*;generalize ((Bc p.funcs k).locals==(Bc q.funcs k).locals)=ce at*;generalize Cb Da (Bc p.funcs k).body (Bc q.funcs k).body=cg at*;generalize (Bc p.funcs k).name=ag at*;generalize (Bc q.funcs k).name=ah at*;generalize (Bc p.funcs k).params.length=cv at*;generalize (Bc p.funcs k).locals.length=bO at*;generalize (Bc p.funcs k).body.length=bQ at*;generalize (Bc q.funcs k).params.length=cx at*;generalize (Bc q.funcs k).locals.length=bT at*;generalize (Bc q.funcs k).body.length=bV at*;go_upto_region 13 with(fail);clear q1 S al am ch ci Z aa bs bu bG bq br bt bv;generalize (wr.alloc (.cells #[σ ag,.slice Q cv R,.slice H bO l2,.slice K bQ L] 48)).alloc (.cells #[σ ah,.slice I cx J,.slice z bT A,.slice B bV C] 48)=aN at*;generalize wr.heap.size=P at*;obtain ⟨bM, cu, bN, bP⟩ := τ4 aB.out;obtain ⟨bR, cw, bS, bU⟩ := τ4 ai.out;have bm:=Zb (aw.out aN ⟨0,rfl⟩);go_wp2_with fail;refine bm.out.mono ?_;rintro e bf ⟨rfl,ae⟩;obtain⟨bl,bn⟩:=Y2 ae (ax.out bf ae);have cz:bf.cell? ⟨P,2,none⟩=some (.slice H bO l2):=by obtain⟨n,rfl⟩:=ae;exact bN
       have cA:bf.cell? ⟨P+1,2,none⟩=some (.slice z bT A):=by obtain⟨n,rfl⟩:=ae;exact bS
       clear ae bm aw ax;go_wp2_with fail;refine bn.out.mono ?_;rintro e av ⟨rfl,bz⟩;have W:Zt (∃n,av=aN.drewN n):=by obtain⟨n,a⟩:=bl.o;obtain⟨cr,bb⟩:=bz;exact⟨_,by rw[bb,a,Zp]⟩
       have bo:=Zb (ay.out av W.o);have cB:av.cell? ⟨P,3,none⟩=some (.slice K bQ L):=by obtain⟨n,a⟩:=W.o;rw[a];exact bP
       have cC:av.cell? ⟨P+1,3,none⟩=some (.slice B bV C):=by obtain⟨n,a⟩:=W.o;rw[a];exact bU
       clear bz bn ay bl cz cA;go_wp2_with fail;refine bo.out.mono ?_;rintro e af ⟨rfl,bB⟩;have X:Zt (∃n,af=aN.drewN n):=by obtain⟨n,a⟩:=W.o;obtain⟨cr,bb⟩:=bB;exact⟨_,by rw[bb,a,Zp]⟩
       have cR:af.cell? ⟨P,0,none⟩=some (σ ag):=by obtain⟨n,a⟩:=X.o;rw[a];exact bM
       have cS:af.cell? ⟨P+1,0,none⟩=some (σ ah):=by obtain⟨n,a⟩:=X.o;rw[a];exact bR
       have T:Zt (Zu w.heap.size w af):=by obtain⟨n,a⟩:=X.o;rw[a];exact Jf aA.out n
       have ca:Zt (Zu d.heap.size d af):=by obtain⟨n,a⟩:=X.o;rw[a];exact Jf aC.out n
       clear bB bo W X cB cC bM cu bN bP bR cw bS bU aA aC aB ai
       cases cf
       ·have j:Zt (r=false):=by show _=_;rw[c.o];simp
        clear c;go_wp2_with fail
        all_goals
         go_ret
         exact⟨Ae (F.o j.o).symm,T.out⟩
       cases ce
       ·have j:Zt (r=false):=by show _=_;rw[c.o];simp
        clear c;go_wp2_with fail
        all_goals
         go_ret
         exact⟨Ae (F.o j.o).symm,T.out⟩
       cases cg
       ·have j:Zt (r=false):=by show _=_;rw[c.o];simp
        clear c;go_wp2_with fail
        all_goals
         go_ret
         exact⟨Ae (F.o j.o).symm,T.out⟩
       cases e1:ag==ah
       ·have j:Zt (r=false):=by show _=_;rw[c.o,e1];rfl
        clear c;go_wp2;go_ret
        exact⟨Ae (F.o j.o).symm,T.out⟩
       ·have aL:Zt (r=true):=by show _=_;rw[c.o,e1];rfl
        clear c;go_wp2;go_roundw
        case rel=>exact⟨k+1,by omega,by go_num,aK.o aL.o,T,ca⟩
        case measure=>simp [Zw];omega
      ·have cd:Zt (Cb Ke p.funcs q.funcs=true):=Jm Ke Fu.nil _ _ aI.o (fun i m=>l.o i (by omega))
       clear l;go_wp2;go_ret
       exact⟨Ae (by rw[Qp,cc.o,cd.o];rfl),aj.out⟩
  ·have az:Zt (Lv p q=false):=Wu (.inr hlf)
   have ad:((p.arrays.length:Int) !=(q.arrays.length:Int))=false:=by rw[hla];simp
   have an:((p.funcs.length:Int) !=(q.funcs.length:Int))=true:=by rw[bne_iff_ne];omega
   clear hla hlf;go_wp2;go_ret
   exact⟨Ae az.out.symm,M.out⟩
 ·have az:Zt (Lv p q=false):=Wu (.inl hla)
  have ad:((p.arrays.length:Int) !=(q.arrays.length:Int))=true:=by rw[bne_iff_ne];omega
  clear hla;go_wp2;go_ret
  exact⟨Ae az.out.symm,M.out⟩
theorem lQ(s:Bs)(y:List Int)(ac:Value)(c:Int)(A:Bs)(aO:I64 c)(cV:s.length≤140737488355328)(cT:A.length≤140737488355328)(w:Zv)(bX:Ia (· <w.heap.size) w y ac)(Y:Lu w):
  Calls Zm 3 #[.string (Aa s),ac,.int .i64 c,.string (Aa A)] w fun e w'=>e=.returned (.bool true)∧Zu w.heap.size w w':=by
 obtain⟨W,az⟩:=Y2 Y bX;clear Y bX;go_enter func3,ntmps3;go_wp2_with fail;refine(kR w W.o).mono ?_;rintro e N ⟨rfl,M⟩;have ab:=Zb M;clear M;go_wp2_with fail;refine(yK y true ac N (Ia.old ab.o az.o)).mono ?_;rintro e w2 ⟨cD,cE,cI,rfl,P,bN,bS,bR,bT⟩;have bZ:=Oe y true;have aP:Cv (Jw (Kt y true)).length:=by have aL:=rD y true;have aM:=tE;show _≤_;omega
 generalize Kt y true=Z at*;have aN:=My.of bN bS bR bT;have J:=Zb (ab.o.trans (P.mono ab.o.size));have ar:=Zb (W.o.old J.o);have ay:=Zb (oN Z cD cE w2 ar.o.lt ar.o.pow aN.ars aN.fus bZ aP);have cv:(Jw Z).length≤140737488355328:=aP.out;clear P bN bS bR bT aN bZ aP ab ar;obtain⟨h,bJ⟩:∃aB,Jw Z=aB:=⟨_,rfl⟩;rw[bJ]at ay cv;clear bJ;go_wp2_with fail;refine ay.o.mono ?_;rintro e cG ⟨rfl,Q⟩;have K:=Zb (J.o.trans (Q.mono J.o.size));clear Q J ay;go_wp2_with fail;refine(oJ y ac cG (Ia.old K.o az.o)).mono ?_;rintro e cH ⟨v,rfl,bO,hx,bW⟩;have bY:=Vw y;have cw:=Yv y;generalize Mw y=bC at*;obtain⟨db,sc,rfl⟩:=hx.shape;have L:=Zb (K.o.trans (bO.mono K.o.size));have au:=Zb (W.o.old L.o);have av:=Zb (Wv bC cH au.o.lt au.o.pow (hx.strong.mono (fun b d=>d.2)) bW bY (show _≤_ by omega));obtain⟨G,bK⟩:∃aB,Aj bC=aB:=⟨_,rfl⟩;rw[bK]at av cw;clear bO hx bW bY K au az bK;go_wp2_with fail;refine av.o.mono ?_;rintro e dg ⟨rfl,bP⟩;have am:=Zb (L.o.trans (bP.mono L.o.size));clear bP L av;have ax:=Zb (fun w'=>aK c ((h.length:Int)+1) aO (by omega) (by omega) w');obtain⟨k,bV,cQ⟩:=Ua c ((h.length:Int)+1) (by omega);rw[bV]at ax;have aw:=Zb (fun w'=>aK c ((G.length:Int)+1) aO (by omega) (by omega) w');obtain⟨j,bU,cN⟩:=Ua c ((G.length:Int)+1) (by omega)
 rw[bU]at aw;clear bV bU aO;have cS:k≤h.length:=by omega
 have cP:j≤G.length:=by omega
 have cW:(h.length:Int)≤140737488355328:=by omega
 have cX:(G.length:Int)≤6401:=by omega
 go_wp2_with fail;refine(ax.o _).mono ?_;rintro e dh ⟨rfl,cx⟩;subst cx;go_wp2_with fail;refine(aw.o _).mono ?_;rintro e H ⟨rfl,cy⟩;subst cy;have cR:(k:Int)≤(h.length:Int):=by omega
 have cO:(j:Int)≤(G.length:Int):=by omega
 have cU:(A.length:Int)≤140737488355328:=by omega
 have ct:(0:Int)≤min ((k:Int)+(A.length:Int)) (h.length:Int):=by omega
 have cu:min ((k:Int)+(A.length:Int)) (h.length:Int)≤(h.length:Int):=by omega
 go_wp2_with fail
 go_region;obtain⟨C,bD⟩:∃B,(Aa h).extract 0 k++Aa A++(Aa h).extract (min ((k:Int)+(A.length:Int)) (h.length:Int)).toNat h.length=B:=⟨_,rfl⟩;obtain⟨D,bE⟩:∃B,(Aa h).extract 0 k++Aa A++(Aa h).extract k h.length=B:=⟨_,rfl⟩;obtain⟨E,bF⟩:∃B,(Aa G).extract 0 j++Aa A++(Aa G).extract j G.length=B:=⟨_,rfl⟩;obtain⟨F,bG⟩:∃B,(Aa h).extract 0 k=B:=⟨_,rfl⟩;rw[bD,bE,bF,bG];clear bD bE bF bG;have bQ:Zu H.heap.size H (H.alloc (.cells #[σ s,.string C,.string D,.string E,.string F] 9)).drew:=(bA).drew;obtain⟨ad,al⟩:=Y2 (am.o.trans (bQ.mono am.o.size)) (show Ad (H.alloc (.cells #[σ s,.string C,.string D,.string E,.string F] 9)).drew H.heap.size [σ s,.string C,.string D,.string E,.string F] 9 from(Zg H [σ s,.string C,.string D,.string E,.string F] 9).old ((Below.refl _ _).drew));obtain⟨bB,bM⟩:∃bB,(H.alloc (.cells #[σ s,.string C,.string D,.string E,.string F] 9)).drew=bB:=⟨_,rfl⟩;rw[bM]at ad al ⊢;clear bQ bM ct cu am ax aw;generalize H.heap.size=cB at*;go_wp2
 go_loopw [92] (fun aQ wr=> ∃i:Nat,aQ= ι i∧i≤5∧Zt (Zu w.heap.size w wr)∧Zt (Ad wr cB [σ s,.string C,.string D,.string E,.string F] 9)) (fun aQ _=>5-(Zw aQ).toNat)
 case atStart=>exact⟨0,rfl,by omega,ad,al⟩
 case round=>
  obtain⟨i,rfl,cL,I,O⟩:=hrel;clear ad al
  by_cases hlt:i<5
  ·obtain⟨l,Y⟩:∃l:Bs,([σ s,.string C,.string D,.string E,.string F]:List Value)[i]? =some (σ l):=by
    have:i=0∨i=1∨i=2∨i=3∨i=4:=by omega
    rcases this with rfl|rfl|rfl|rfl|rfl
    ·exact⟨s,rfl⟩
    ·exact⟨C.data.toList,rfl⟩
    ·exact⟨D.data.toList,rfl⟩
    ·exact⟨E.data.toList,rfl⟩
    ·exact⟨F.data.toList,rfl⟩
   have cz:=O.out.at i _ Y;have kl:=O.out.lt;clear Y;have cM:(i:Int)<5:=by omega
   by_cases h5k:l.length≤5000
   ·have cr:(l.length:Int)≤5000:=by omega
    have bi:=Zb (W.o.old I.out);obtain⟨an,ao,ap,aq⟩:=Y4 (Qa l (by omega) wr bi.o) (fun N=>eU l (by omega) N) (fun N cq=>bL l (by omega) N cq) (fun N=>iS l (by omega) N);obtain⟨⟨p,cJ,cY⟩,bI⟩:∃q,Ta l=q:=⟨_,rfl⟩;obtain⟨⟨x,cK,cZ⟩,bH⟩:∃q,Xx l=q:=⟨_,rfl⟩;rw[bI]at an ao;rw[bH]at ap aq;clear bI bH;go_wp2_with fail;refine an.o.mono ?_;rintro e V ⟨d,v,rfl,cc,cp,rfl,f,z⟩;dsimp only at f z ⊢;obtain⟨aC,aD,rfl⟩:=f.yshape;obtain⟨aF,aE,rfl⟩:=z.yshape;have g:Zu V.heap.size V (V.alloc (.cells #[ρ aC p.arrays aD,ρ aF p.funcs aE] 30)):=bA;have a:=d.trans (g.mono d.size);obtain⟨ae,aR,bk,aX,bb⟩:=Y5 (I.out.trans (a.mono I.out.size)) (O.out.old a) (Zg V [ρ aC p.arrays aD,ρ aF p.funcs aE] 30) ((f.old g).mono (D':=fun _=>True) (fun _ _=>trivial)) ((Zh g z).mono (D':=fun _=>True) (fun _ _=>trivial));clear d f z g a cz kl an bi;go_upto_region 11 with(fail);generalize V.alloc (.cells #[ρ aC p.arrays aD,ρ aF p.funcs aE] 30)=di at*;generalize V.heap.size=pa at*;go_wp2_with fail;refine(ao.o _).mono ?_;rintro e S ⟨d,v,rfl,cc,cp,rfl,f,z⟩;dsimp only at f z ⊢;obtain⟨aG,aH,rfl⟩:=f.yshape;obtain⟨aJ,aI,rfl⟩:=z.yshape;have g:Zu S.heap.size S (S.alloc (.cells #[ρ aG p.arrays aH,ρ aJ p.funcs aI] 30)):=bA
    have a:=d.trans (g.mono d.size);obtain⟨aa,aS,bl,aY,bc,bo,J,bf⟩:=Y8 (ae.out.trans (a.mono ae.out.size)) (aR.out.old a) (bk.o.old a) (aX.o.old a) (Zh a bb.o) (Zg S [ρ aG p.arrays aH,ρ aJ p.funcs aI] 30) ((f.old g).mono (D':=fun _=>True) (fun _ _=>trivial)) ((Zh g z).mono (D':=fun _=>True) (fun _ _=>trivial));clear d f z g a ae aR bk aX bb ao;go_upto_region 12 with(fail);generalize S.alloc (.cells #[ρ aG p.arrays aH,ρ aJ p.funcs aI] 30)=dc at*;generalize S.heap.size=da at*;go_wp2_with fail;refine(ap.o _ (W.o.old aa.out)).mono ?_;rintro e T ⟨d,v,rfl,cC,rfl,f,R⟩;dsimp only at f R ⊢;obtain⟨m,n,rfl⟩:=f.shape;have g:Zu T.heap.size T (T.alloc (ξ x (ρ m x.args n))):=bA;have a:=d.trans (g.mono d.size);obtain⟨af,aT,bm,aZ,bd,bp,K,bg,bu⟩:=Y9 (aa.out.trans (a.mono aa.out.size)) (aS.out.old a) (bl.o.old a) (aY.o.old a) (Zh a bc.o) (bo.o.old a) (J.o.old a) (Zh a bf.o) (Zg T (χ x (ρ m x.args n)) 35)
    obtain⟨br,bj⟩:=Y2 ((f.old g).mono (D':=(0≤ ·)) (fun _ _=>Zd _)) R;clear d f R g a aa aS bl aY bc bo J bf ap;go_upto_region 13 with(fail);generalize T.alloc (ξ x (ρ m x.args n))=dd at*;generalize T.heap.size=dj at*;go_wp2_with fail;refine(aq.o _).mono ?_;rintro e U ⟨d,v,rfl,cC,rfl,f,R⟩;dsimp only at f R ⊢;obtain⟨t,u,rfl⟩:=f.shape;have g:Zu U.heap.size U (U.alloc (ξ x (ρ t x.args u))):=bA;have a:=d.trans (g.mono d.size);obtain⟨ag,aU,bn,ba,be,bq,L,bh,bv⟩:=Y9 (af.out.trans (a.mono af.out.size)) (aT.out.old a) (bm.o.old a) (aZ.o.old a) (Zh a bd.o) (bp.o.old a) (K.o.old a) (Zh a bg.o) (bu.o.old a);obtain⟨bs,bx,bt⟩:=Y3 (br.o.old a) (Zg U (χ x (ρ t x.args u)) 35) ((f.old g).mono (D':=(0≤ ·)) (fun _ _=>Zd _));clear d f R g a af aT bm aZ bd bp K bg bu br aq;go_upto_region 14 with(fail);generalize U.alloc (ξ x (ρ t x.args u))=cF at*
    generalize U.heap.size=dk at*;have aA:=Zb (qV p p (fun _=>True) cF ba.o be.o L.o bh.o);rw[(Wc p p).2 rfl]at aA;obtain ⟨Z, cA⟩ := τ2 bn.o;obtain ⟨q0, q1⟩ := τ2 bq.o;go_wp2_with fail;refine aA.o.mono ?_;rintro e r ⟨rfl,d⟩;obtain⟨ah,aV,bw,bz,ca,cb⟩:=Y6 (ag.out.trans (d.mono ag.out.size)) (aU.out.old d) (bv.o.old d) (bx.o.old d) (bs.o.old d) (bt.o.old d);clear d Z cA q0 q1 aA ag aU bv bx bs bt bn ba be bq L bh;obtain⟨⟨cd,ce,cf,cg,ch⟩,_⟩:=Ai bw.o;obtain⟨⟨cj,ck,cl,cm,cn⟩,_⟩:=Ai bz.o;have ci:=bw.o.lt;have co:=bz.o.lt;have M:Zu r.heap.size r (r.alloc (ξ x (ρ m x.args n))):=bA;have aL:=Oa (B:=0) ca.o bj.o (Zd _);have aM:=Oa (B:=0) (cb.o.old M) bj.o (Zd _);have P:Zu (r.alloc (ξ x (ρ m x.args n))).heap.size (r.alloc (ξ x (ρ m x.args n))) ((r.alloc (ξ x (ρ m x.args n))).alloc (ξ x (ρ t x.args u))):=bA
    have a:=M.trans (P.mono M.size);obtain⟨ai,aW⟩:=Y2 (ah.out.trans (a.mono ah.out.size)) (aV.out.old a);have X:=mP [x] [x] (0≤ ·) _ _ ((r.alloc (ξ x (ρ m x.args n))).alloc (ξ x (ρ t x.args u))) (aL.old P) aM;rw[(Mf [x] [x]).2 rfl,show(r.alloc (ξ x (ρ m x.args n))).heap.size=r.heap.size+1 by simp]at X;have X:=Zb X;clear M aL aM P a ah aV;go_wp2_with fail;refine X.o.mono ?_;rintro e de ⟨rfl,nq,rfl⟩;have Q:Zu ((r.alloc (ξ x (ρ m x.args n))).alloc (ξ x (ρ t x.args u))).heap.size ((r.alloc (ξ x (ρ m x.args n))).alloc (ξ x (ρ t x.args u))) (((r.alloc (ξ x (ρ m x.args n))).alloc (ξ x (ρ t x.args u))).drewN nq):=⟨(Below.refl w.heap.size ((r.alloc (ξ x (ρ m x.args n))).alloc (ξ x (ρ t x.args u)))).os,rfl,rfl,Zf _,fun _ _=>rfl⟩
    obtain⟨aj,ak⟩:=Y2 (ai.out.trans (Q.mono ai.out.size)) (aW.out.old Q);clear Q ai aW cd ce cf cg ch cj ck cl cm cn ci co X;generalize ((r.alloc (ξ x (ρ m x.args n))).alloc (ξ x (ρ t x.args u))).drewN nq=df at*;go_wp2_with fail
    first
     |exact⟨⟨i+1,rfl,by omega,aj,ak⟩,by simp [Zw];omega⟩
     |exact⟨⟨_,⟨i+1,rfl,by omega,aj,ak⟩,rfl⟩,by simp [Zw];omega⟩
     |exact⟨⟨_,_,⟨i+1,rfl,by omega,aj,ak⟩,rfl,rfl⟩,by simp [Zw];omega⟩
   ·have cr:(5000:Int)<(l.length:Int):=by omega
    go_wp2_with fail
    first
     |exact⟨⟨i+1,rfl,by omega,I,O⟩,by simp [Zw];omega⟩
     |exact⟨⟨_,⟨i+1,rfl,by omega,I,O⟩,rfl⟩,by simp [Zw];omega⟩
     |exact⟨⟨_,_,⟨i+1,rfl,by omega,I,O⟩,rfl,rfl⟩,by simp [Zw];omega⟩
  ·have cs:i=5:=by omega
   subst cs;go_wp2;go_ret
   exact⟨rfl,I.out⟩
end Go.Proofs.YthcpopmmlneneaaGreatDoor
namespace Go.Proofs.YthcpopmmlneneaaGreatDoor.wParseTells
open Go.ChangeShapes Go.WideShapes Go.ChangeAt Go.RowKit
set_option maxRecDepth 100000
theorem own:ownKnob Tryz.prog.godebug=none:=by kernel_rfl
theorem sD(m:Type)(enc:TypeId ×Value→m)(a:World)(D:Nat)(args:Array Value)(i gs:List (DataW m))(E:List MemPlace)
  (d:∀(j:Nat) t v,Tryz.f3.params[j]? =some t→args[j]? =some v→Value.okWide Tryz.prog a .any D t v)
  (w:DataW.Whole enc Tryz.prog Tryz.f3.params.toList Rows.parseTellsSpec.vars false a args.toList i gs E) (k:(DataW.weightsEach Tryz.prog (Tryz.f3.params.toList++(OpenSpec.ofChange Rows.parseTellsSpec).bare.plain.varTypes Tryz.prog) (i++gs)).all (· ≤reachBytes)=true) (J:laidMetH Tryz.prog Rows.parseTellsRow.laid a) (S:a.ShapedOpen Tryz.prog):
  Calls Tryz.prog 3 args a fun e h=> ∃v,e=.returned v∧Rows.parseTellsSpec.post enc Tryz.prog Tryz.f3 false true false false a args v h:=by
 have K:=zlib_of J S;have M:=w;obtain⟨p,q,u,L,rfl,ar,au⟩:=w;have s:DataW.TrodAll enc Tryz.prog a 0 (fun _=>true) true Tryz.f3.params.toList args.toList i p:=u;rw[Tryz.params3]at s d k;obtain⟨z,av,ai,am,Y,q0,aq,rfl,rfl,n,ac⟩:=trodAll_cons s;obtain⟨l,aw,aj,an,Z,q1,F,rfl,rfl,I,ad⟩:=trodAll_cons ac;obtain⟨A,ax,ak,ao,aa,q2,G,rfl,rfl,o,ae⟩:=trodAll_cons ad;obtain⟨B,ay,al,ap,ab,q3,H,rfl,rfl,r,af⟩:=trodAll_cons ae;obtain⟨rfl,rfl,rfl⟩:=trodAll_nil af;subst F;subst G;subst H;obtain rfl:args= #[z,l,A,B]:=by cases args;simp_all
 obtain⟨rfl,rfl⟩:=trodVars_none L;obtain⟨x,V,O⟩:=bH (d 0 9 z rfl rfl) n;obtain⟨ag,P,C⟩:=tX (d 1 22 l rfl rfl) I;obtain⟨ah,W,Q⟩:=cO (d 2 3 A rfl rfl) o;subst W;obtain⟨y,X,R⟩:=bH (d 3 9 B rfl rfl) r;subst V;subst O;have T:x.length≤140737488355328:=Nat.le_trans (sized_string k (j:=0) (t:=9) rfl rfl) (by decide);subst X;subst R;have U:y.length≤140737488355328:=Nat.le_trans (sized_string k (j:=3) (t:=9) rfl rfl) (by decide);clear u;refine(lQ x ag l ah y Q T U a P K).mono fun e h ⟨N,c⟩=>?_
 subst N;exact⟨_,rfl,jT (pa:=(Y++(Z++(aa++(ab++[]))))) (pv:=[]) M (fun _ _ _=>trodAll_cons_mk (shut_bool Tryz.underlying4 _) trodAll_mk0) (fun g f=>trodAll_cons_mk (iL (by kernel_rfl) (of_decide_eq_true (by kernel_rfl)) n c g (fun q b=>f q (by simp [b]))) (trodAll_cons_mk (C h g true c (fun q b=>f q (by simp [b]))) (trodAll_cons_mk (iL (by kernel_rfl) (of_decide_eq_true (by kernel_rfl)) o c g (fun q b=>f q (by simp [b]))) (trodAll_cons_mk (iL (by kernel_rfl) (of_decide_eq_true (by kernel_rfl)) r c g (fun q b=>f q (by simp [b]))) (trodAll_mk0))))) (fun _ _=>rfl) rfl
  c (ok_one (by kernel_rfl) rfl (okWide_bool_mk Tryz.underlying4 _))⟩
def tab1:DataW Unit→List Value
 |.lit (.int k n)=>[.int k n]
 |.agg l=>l.map fun|.lit (.int k n)=>Value.int k n|_=>undef
 |_=>[undef]
def xG:DataW Unit→Array Value
 |.agg l=>(l.flatMap tab1).toArray
 |_=> #[]
def Uu:DataW Unit→Value
 |.iface _ (.ptr (.agg [.lit (.string b)]))=>.string ⟨b.toArray⟩
 |_=>undef
noncomputable def lowB:Nat:=(World.holding Tryz.prog default ⟨#[],#[],[]⟩).heap.size
noncomputable def Sy (a:Os):World:=
 let h0:=(World.holding Tryz.prog a ⟨#[.cells #[Uu Rows.laid_strconv_ErrRange] 223,.cells #[Uu Rows.laid_strconv_ErrSyntax] 223],#[],[]⟩).heap
 let lay (g:Nat) (d:DataW Unit) (h:Array Obj):Array Obj:=h.modify g fun
  |.cells _ t frozen=>.cells (xG d) t frozen
  |o=>o
 let err (g:Nat) (b:Nat) (h:Array Obj):Array Obj:=h.modify g fun
  |.cells _ t frozen=>.cells #[.iface 221 (.pointer (some ⟨b,0,none⟩))] t frozen
  |o=>o
 {World.holding Tryz.prog a ⟨#[.cells #[Uu Rows.laid_strconv_ErrRange] 223,.cells #[Uu Rows.laid_strconv_ErrSyntax] 223],#[],[]⟩with heap:=lay 4 Rows.laid_math_bits_deBruijn32tab (lay 5 Rows.laid_math_bits_deBruijn64tab (lay 0 Rows.laid_internal_strconv_uint64pow10 (lay 3 Rows.laid_unicode_utf8_acceptRanges (lay 2 Rows.laid_unicode_utf8_first (err 7 lowB (err 6 (lowB+1) h0))))))}
theorem yJ(a:Os):laidMet Tryz.prog Rows.parseTellsRow.laid ((Sy a).forCall (fun _ _=>0) ⟨#[],#[.string ⟨#[]⟩,.slice none 0 0,.int .i64 0,.string ⟨#[]⟩],[]⟩).memory:=
 laidMet_of_run' 8 (by kernel_rfl) (by kernel_rfl)
theorem reads(b:Os){a:Type}(enc:TypeId ×Value→a):∃c,DataW.whole enc Tryz.prog ((Sy b).forCall (fun _ _=>0) ⟨#[],#[.string ⟨#[]⟩,.slice none 0 0,.int .i64 0,.string ⟨#[]⟩],[]⟩).memory Tryz.f3.params.toList Rows.parseTellsSpec.vars false ((#[.string ⟨#[]⟩,.slice none 0 0,.int .i64 0,.string ⟨#[]⟩]:Array Value).toList) 8=some ([.lit (.string []),.nil,.lit (.int .i64 0),.lit (.string [])],[],c):=
 ⟨[],by kernel_rfl⟩
theorem lifted(a:Os)(o:a.Started)(b:Type)(enc:TypeId ×Value→b)(c:Stop.Interp):
  ReturnsInHanded {} Tryz.checked a 3 .any ((OpenSpec.ofChange Rows.parseTellsSpec).preRow enc Tryz.prog Tryz.f3 Rows.parseTellsRow.domain false Rows.parseTellsRow.laid) (((OpenSpec.ofChange Rows.parseTellsSpec).at c).post enc Tryz.prog Tryz.f3 false true false false):=by
 obtain⟨p,hx⟩:=reads a enc;refine returnsInHanded_of_row (C:=Tryz.checked) (s:=OpenSpec.ofChange Rows.parseTellsSpec) own o (by kernel_rfl) Tryz.func3
  (witness_row_at (enc:=enc) (C:=Tryz.checked) false (Sy a) #[ε,ν,ι 0,ε] rfl (by kernel_rfl) (by kernel_rfl) (by kernel_rfl)
   (OpenSpec.preRow_of_cond 8 hx (by kernel_rfl) (fun k j=>by cases j) (by kernel_rfl) (yJ a))) ?_
 intro d e args g gs f n i _ _ m h l _;exact sD b enc d e args g gs f n i m h l
theorem said:Rows.ParseTellsSaid:=
 OpenClaim.holds_of_cond 3 Tryz.f3 rfl rfl rfl rfl rfl rfl rfl ⟨rfl,rfl,rfl,rfl,rfl⟩ rfl rfl rfl rfl rfl (by kernel_rfl) Tryz.func3 (by kernel_rfl)
  (of_decide_eq_true (by kernel_rfl)) (by unfold Func.isWrapper;first|(rw[if_pos (by decide+kernel)];kernel_rfl)|(rw[if_neg (by decide+kernel)];exact⟨rfl,rfl⟩))
  (fun c d b enc _ a=>by rw[OpenClaim.pre_eq_preRow];exact lifted c d b enc a)
theorem plain(f:FuncId)(a:Func)(d:Tryz.pinned.checked.prog.funcNamed "counterproof/counterprooflaw04.ParseTells" =some f)(e:Tryz.pinned.checked.prog.funcs[f]? =some a):
  true=Tryz.pinned.checked.prog.looks []∧∀(j:Nat) t,a.params[j]? =some t→Tryz.pinned.checked.prog.wantsStandIn t=false:=by
 obtain rfl:f=3:=Option.some.inj ((show Tryz.prog.funcNamed "counterproof/counterprooflaw04.ParseTells" =some 3 by kernel_rfl).symm.trans d)|>.symm;obtain rfl:a=Tryz.f3:=(Option.some.inj (Tryz.func3.symm.trans e)).symm;refine⟨by kernel_rfl,fun j t c=>?_⟩;rw[Tryz.params3]at c;have b:=Array.mem_of_getElem? c;simp only[List.mem_toArray,List.mem_cons,List.not_mem_nil,or_false]at b;rcases b with rfl|rfl|rfl|rfl
 ·exact(show Tryz.prog.wantsStandIn 9=false by kernel_rfl)
 ·exact(show Tryz.prog.wantsStandIn 22=false by kernel_rfl)
 ·exact(show Tryz.prog.wantsStandIn 3=false by kernel_rfl)
 ·exact(show Tryz.prog.wantsStandIn 9=false by kernel_rfl)
end Go.Proofs.YthcpopmmlneneaaGreatDoor.wParseTells
namespace Go.Proofs.YthcpopmmlneneaaGreatDoor
theorem parseTells_card:Rows.ParseTellsCardSaid:=
 Claim7.holds_tied_plain_at .later [] _ _ _ _ wParseTells.said (fun _ a=>by cases a) (by kernel_rfl) (fun _ a=>by cases a) parseTells_row_tie rfl ⟨rfl,rfl⟩ (by kernel_rfl) rfl wParseTells.plain (by kernel_rfl)
#print axioms parseTells_card
end Go.Proofs.YthcpopmmlneneaaGreatDoor

/-
  The parser takes an expression's tokens and gives the expression back.
-/
import Derived.Test.YtcfpfnoldgnloaaGreatDoorBk18
set_option linter.unusedVariables false
set_option linter.unusedSimpArgs false
namespace Go.Proofs.YtcfpfnoldgnloaaGreatDoor
open Go.RowKit
set_option maxHeartbeats 20000000
set_option maxRecDepth 100000
open List renaming append_assoc→Za,mem_cons_self→Zb,mem_cons_of_mem→Zc,nil_append→Zd,append_nil→Ze,cons_append→Zf,flatMap_cons→Zi,mem_of_find?_eq_some→Zl
open Bool renaming and_eq_true→Zg
open Go.Lib renaming itoa→Zh,nDigits→Zj,decDigits→Zk
def Ev {α:Type}(g:Nat→PR α)(z:PR α):Prop:= ∃f0,∀f,f0≤f→g f=z
theorem Ev.two {α β:Type}{g:Nat→PR α}{h:Nat→PR β}{y:PR α}{z:PR β}(hg:Ev g y)(hh:Ev h z):∃f0,∀f,f0≤f→g f=y∧h f=z:=by
 obtain⟨a,ha⟩:=hg;obtain⟨b,hb⟩:=hh;exact⟨max a b,fun f hf=>⟨ha f (by omega),hb f (by omega)⟩⟩
theorem Ev.succ {α:Type}{g:Nat→PR α}{z:PR α}(h:∃f0,∀f,f0≤f→g (f+1)=z):Ev g z:=by
 obtain⟨a,ha⟩:=h;refine⟨a+1,fun f hf=> ?_⟩;obtain⟨k,rfl⟩:∃k,f=k+1:=⟨f - 1,by omega⟩;exact ha k (by omega)
theorem Ev.const {α:Type}{g:Nat→PR α}{z:PR α}(h:∀f,g (f+1)=z):Ev g z:=Ev.succ ⟨0,fun f _=>h f⟩
theorem Ev.one {α β:Type}{g:Nat→PR α}{h:Nat→PR β}{y:PR α}{z:PR β}(hg:Ev g y)(k:∀f,g f=y→h (f+1)=z):Ev h z:=by
 obtain⟨a,ha⟩:=hg;exact Ev.succ ⟨a,fun f hf=>k f (ha f hf)⟩
theorem Ev.both {α β γ:Type}{g:Nat→PR α}{h:Nat→PR β}{q:Nat→PR γ}{x:PR α}{y:PR β}{z:PR γ}(hg:Ev g x)(hh:Ev h y)(k:∀f,g f=x→h f=y→q (f+1)=z):Ev q z:=by
 obtain⟨a,ha⟩:=Ev.two hg hh;exact Ev.succ ⟨a,fun f hf=>k f (ha f hf).1 (ha f hf).2⟩
def For(ts:List Tk)(l:List Pc):Prop:=ts.map t3=La l
theorem For.app {ts:List Tk}{a b:List Pc}(h:For ts (a++b)):∃t1 t2,ts=t1++t2∧For t1 a∧For t2 b:=by
 unfold For at h;rw[Jc]at h;obtain⟨t1,t2,e,h1,h2⟩:=List.map_eq_append_iff.1 h;exact⟨t1,t2,e,h1,h2⟩
theorem For.cons {ts:List Tk}{x:T3}{l:List Pc}(h:For ts (.t x::l)):∃t r,ts=t::r∧t3 t=x∧For r l:=by
 unfold For at h;obtain⟨t,r,e,h1,h2⟩:=List.map_eq_cons_iff.1 (show ts.map t3=x::La l from h);exact⟨t,r,e,h1,h2⟩
theorem For.gap {ts:List Tk}{b:Bs}{l:List Pc}(h:For ts (.g b::l)):For ts l:=h
theorem For.nil {ts:List Tk}(h:For ts []):ts=[]:=List.map_eq_nil_iff.1 h
theorem Cq {t:Tk}{s:Bs}(h:t3 t=⟨4,s,0⟩):isP s t=true:=by
 unfold t3 at h;injection h with h1 h2 h3
 unfold isP;simp [h1,h2]
theorem Lq {t:Tk}{s:Bs}(h:t3 t=⟨2,s,0⟩):isP s t=true:=by
 unfold t3 at h;injection h with h1 h2 h3
 unfold isP;simp [h1,h2]
theorem Mm {t:Tk}{s:Bs}(h:t.kind=1∨t.kind=3∨t.kind=5):isP s t=false:=by
 unfold isP;rcases h with h|h|h<;>simp [h]
theorem Di {t:Tk}{s:Bs}(h:t.text≠s):isP s t=false:=by
 unfold isP;simp [h]
theorem Vi {lv:Int}{t:Tk}{r:List Tk}:Dc lv (t::r)=0↔∀i:Nat,i<16→isP (As ((i:Int)+1)) t=true→Am ((i:Int)+1)<lv:=by
 unfold Dc;dsimp only;constructor
 ·intro h i hi hp
  rcases hf:(((List.range 16).map fun i:Nat=>(i:Int)+1).find? fun op=>isP (As op) t && decide (lv≤Am op))with _|op
  ·rw[List.find?_eq_none]at hf
   have:=hf ((i:Int)+1) (List.mem_map.2 ⟨i,List.mem_range.2 hi,rfl⟩);rw[hp]at this;simp at this;exact this
  ·rw[hf]at h
   have hm:=Zl hf;obtain⟨j,_,e⟩:=List.mem_map.1 hm;simp at h;omega
 ·intro h
  rcases hf:(((List.range 16).map fun i:Nat=>(i:Int)+1).find? fun op=>isP (As op) t && decide (lv≤Am op))with _|op
  ·rfl
  ·have hs:=List.find?_some hf
   have hm:=Zl hf;obtain⟨j,hj,e⟩:=List.mem_map.1 hm;subst e;simp at hs;have:=h j (List.mem_range.1 hj) hs.1;omega
theorem Vv {a b:Int}{l:List Tk}(h:Dc a l=0)(hab:a≤b):Dc b l=0:=by
 cases l with
 |nil=>rfl
 |cons t r=>
  rw[Vi]at h ⊢;intro i hi hp;have:=h i hi hp;omega
theorem pS(op:Int):Am op≤8:=by
 unfold Am
 repeat' split
 all_goals omega
theorem Rp {op:Int}(h:0<Am op):∃i:Fin 16,op=(i.val:Int)+1:=by
 have:op=1∨op=2∨op=3∨op=4∨op=5∨op=6∨op=7∨op=8∨op=9∨op=10∨op=11∨op=12∨op=13∨op=14∨op=15∨op=16:=by
  unfold Am at h
  revert h
  repeat' split
  all_goals(intro h;first|omega|(exfalso;exact absurd h (by decide)))
 rcases this with h|h|h|h|h|h|h|h|h|h|h|h|h|h|h|h
 ·exact⟨0,h⟩
 ·exact⟨1,h⟩
 ·exact⟨2,h⟩
 ·exact⟨3,h⟩
 ·exact⟨4,h⟩
 ·exact⟨5,h⟩
 ·exact⟨6,h⟩
 ·exact⟨7,h⟩
 ·exact⟨8,h⟩
 ·exact⟨9,h⟩
 ·exact⟨10,h⟩
 ·exact⟨11,h⟩
 ·exact⟨12,h⟩
 ·exact⟨13,h⟩
 ·exact⟨14,h⟩
 ·exact⟨15,h⟩
theorem dL:∀i j:Fin 16,As ((i.val:Int)+1)=As ((j.val:Int)+1)→i=j:=by decide
theorem Cv {s:Bs}{t:Tk}(h:isP s t=true):t.text=s:=by
 unfold isP at h;simp at h;exact h.2
theorem sL {lv op:Int}{t:Tk}{r:List Tk}(ho:0<Am op)(hl:lv≤Am op)(ht:isP (As op) t=true):Dc lv (t::r)=op:=by
 obtain⟨i,rfl⟩:=Rp ho;unfold Dc;dsimp only;rcases hf:(((List.range 16).map fun i:Nat=>(i:Int)+1).find? fun op=>isP (As op) t && decide (lv≤Am op))with _|op
 ·rw[List.find?_eq_none]at hf
  have:=hf ((i.val:Int)+1) (List.mem_map.2 ⟨i.val,List.mem_range.2 i.isLt,rfl⟩);rw[ht]at this;simp at this;omega
 ·have hs:=List.find?_some hf
  have hm:=Zl hf;obtain⟨j,hj,e⟩:=List.mem_map.1 hm;subst e;simp at hs;have e1:=Cv ht;have e2:=Cv hs.1;have:=dL i ⟨j,List.mem_range.1 hj⟩ (e1.symm.trans e2);subst this;rfl
theorem lJ {lv:Int}{t:Tk}{r:List Tk}(h:∀i:Fin 16,t.text≠As ((i.val:Int)+1)):Dc lv (t::r)=0:=by
 rw[Vi];intro i hi hp;exact absurd (Cv hp) (h ⟨i,hi⟩)
theorem bin_lvl {op lv:Int}{t:Tk}{r:List Tk}(ho:0<Am op)(ht:isP (As op) t=true)(hl:Am op<lv):Dc lv (t::r)=0:=by
 obtain⟨i,rfl⟩:=Rp ho;rw[Vi];intro j hj hp;have:=dL i ⟨j,hj⟩ ((Cv ht).symm.trans (Cv hp));subst this;exact hl
theorem Vl {lv:Int}{l r:List Tk}{x:Ex}{z:PR Ex}(h1:Ev (fun f=>Br f l) (.ok (x,r)))(h2:Ev (fun f=>Jt f lv x r) z):Ev (fun f=>Bf f lv l) z:=
 Ev.both h1 h2 (fun f e1 e2=>by(try dsimp only at e1 e2 ⊢);rw[Bf,e1];exact e2)
theorem Sj {lv:Int}{l:List Tk}{x:Ex}(h:Dc lv l=0):Ev (fun f=>Jt f lv x l) (.ok (x,l)):=
 Ev.const (fun f=>by(try dsimp only);rw[Jt,if_pos h])
theorem lW {lv op:Int}{t:Tk}{l r:List Tk}{x y:Ex}{z:PR Ex}(ho:0<Am op)(hl:lv≤Am op)(ht:isP (As op) t=true)(h1:Ev (fun f=>Bf f (Am op+1) l) (.ok (y,r)))(h2:Ev (fun f=>Jt f lv (.mk 4 op 0 [] [x,y]) r) z):Ev (fun f=>Jt f lv x (t::l)) z:=
 Ev.both h1 h2 (fun f e1 e2=>by
  (try dsimp only at e1 e2 ⊢);have hb:Dc lv (t::l)=op:=sL ho hl ht;have h0:op≠0:=by rintro rfl;exact absurd ho (by decide)
  rw[Jt,hb,if_neg h0,List.drop_one,List.tail_cons,e1];exact e2)
theorem cK {t:Tk}{r:List Tk}(h:isP (As 17) t=false∧isP (As 18) t=false∧isP (As 19) t=false):Es (t::r)=none:=by
 unfold Es;rw[Af h.1,Af h.2.1,Af h.2.2]
theorem un_some {op:Int}{t:Tk}{r:List Tk}(ho:op=17∨op=18∨op=19)(h:isP (As op) t=true):Es (t::r)=some (op,r):=by
 have ht:=Cv h;unfold Es;rcases ho with rfl|rfl|rfl
 ·rw[An h]
 ·rw[Af (Di (by rw[ht];decide)),An h]
 ·rw[Af (Di (by rw[ht];decide)),Af (Di (by rw[ht];decide)),An h]
theorem nQ {op:Int}{t:Tk}{l r:List Tk}{x:Ex}(ho:op=17∨op=18∨op=19)(h:isP (As op) t=true)(h1:Ev (fun f=>Br f l) (.ok (x,r))):Ev (fun f=>Br f (t::l)) (.ok (.mk 3 op 0 [] [x],r)):=
 Ev.one h1 (fun f e=>by(try dsimp only at e ⊢);rw[Br,un_some ho h];dsimp only;rw[e])
theorem kR {t:Tk}{r:List Tk}(h:t.text≠As 17∧t.text≠As 18∧t.text≠As 19):Es (t::r)=none:=cK ⟨Di h.1,Di h.2.1,Di h.2.2⟩
theorem Uj {t u:Tk}{l r:List Tk}{x:Ex}(h:isP [40] t=true)(hu:isP [41] u=true)(h1:Ev (fun f=>Bf f 1 l) (.ok (x,u::r))):Ev (fun f=>Br f (t::l)) (.ok (x,r)):=
 Ev.one h1 (fun f e=>by
  (try dsimp only at e ⊢);have ht:=Cv h;rw[Br,kR ⟨by rw[ht];decide,by rw[ht];decide,by rw[ht];decide⟩];dsimp only;rw[An h];dsimp only;rw[e];dsimp only;rw[Cb hu])
theorem gP {t u v:Tk}{r:List Tk}(h:isP [114,101,97,100] t=true)(hu:isP [40] u=true)(hv:isP [41] v=true):Ev (fun f=>Br f (t::u::v::r)) (.ok (.mk 7 0 0 [] [],r)):=
 Ev.const (fun f=>by
  (try dsimp only);have ht:=Cv h;rw[Br,kR ⟨by rw[ht];decide,by rw[ht];decide,by rw[ht];decide⟩];dsimp only;rw[Af (Di (by rw[ht];decide)),An h];dsimp only;rw[Cb hu];dsimp only;rw[Cb hv])
theorem mX {t:Tk}{r:List Tk}(h:t.kind=3):Ev (fun f=>Br f (t::r)) (.ok (.mk 1 0 t.num [] [],r)):=
 Ev.const (fun f=>by
  (try dsimp only);have hk:∀s,isP s t=false:=fun s=>Mm (.inr (.inl h))
  rw[Br,cK ⟨hk _,hk _,hk _⟩];dsimp only;rw[Af (hk _),Af (hk _)];dsimp only;rw[if_pos h])
theorem Qe {t:Tk}{l:List Tk}{z:PR Ex}(h:t.kind=1)(h1:Ev (fun f=>Dj f t.text l) z):Ev (fun f=>Br f (t::l)) z:=
 Ev.one h1 (fun f e=>by
  (try dsimp only at e ⊢);have hk:∀s,isP s t=false:=fun s=>Mm (.inl h)
  rw[Br,cK ⟨hk _,hk _,hk _⟩];dsimp only;rw[Af (hk _),Af (hk _)];dsimp only;rw[if_neg (by rw[h];decide),if_pos h];exact e)
theorem nT {s:Bs}{l:List Tk}(h1:Bp [40] l=none)(h2:Bp [91] l=none):Ev (fun f=>Dj f s l) (.ok (.mk 2 0 0 s [],l)):=
 Ev.const (fun f=>by(try dsimp only);rw[Dj,h1,h2])
theorem iB {s:Bs}{t:Tk}{l r:List Tk}{a:List Ex}(h:isP [40] t=true)(h1:Ev (fun f=>Gw f l) (.ok (a,r))):Ev (fun f=>Dj f s (t::l)) (.ok (.mk 5 0 0 s a,r)):=
 Ev.one h1 (fun f e=>by(try dsimp only at e ⊢);rw[Dj,An h];dsimp only;rw[e])
theorem nE {s:Bs}{t u:Tk}{l r:List Tk}{x:Ex}(h:isP [91] t=true)(hu:isP [93] u=true)(h1:Ev (fun f=>Bf f 1 l) (.ok (x,u::r))):Ev (fun f=>Dj f s (t::l)) (.ok (.mk 6 0 0 s [x],r)):=
 Ev.one h1 (fun f e=>by
  (try dsimp only at e ⊢);have ht:=Cv h;rw[Dj,Af (Di (by rw[ht];decide)),An h];dsimp only;rw[e];dsimp only;rw[Cb hu])
theorem eN {t:Tk}{r:List Tk}(h:isP [41] t=true):Ev (fun f=>Gw f (t::r)) (.ok ([],r)):=
 Ev.const (fun f=>by(try dsimp only);rw[Gw,An h])
theorem Xx {l:List Tk}{z:PR (List Ex)}(h:Bp [41] l=none)(h1:Ev (fun f=>Jj f [] l) z):Ev (fun f=>Gw f l) z:=
 Ev.one h1 (fun f e=>by(try dsimp only at e ⊢);rw[Gw,h];exact e)
theorem qR {a:List Ex}{x:Ex}{t:Tk}{l r:List Tk}(ht:isP [41] t=true)(h1:Ev (fun f=>Bf f 1 l) (.ok (x,t::r))):Ev (fun f=>Jj f a l) (.ok (a++[x],r)):=
 Ev.one h1 (fun f e=>by
  (try dsimp only at e ⊢);have h:=Cv ht;rw[Jj,e];dsimp only;rw[Af (Di (by rw[h];decide))];dsimp only;rw[Cb ht])
theorem gC {a:List Ex}{x:Ex}{t:Tk}{l r:List Tk}{z:PR (List Ex)}(ht:isP [44] t=true)(h1:Ev (fun f=>Bf f 1 l) (.ok (x,t::r)))(h2:Ev (fun f=>Jj f (a++[x]) r) z):Ev (fun f=>Jj f a l) z:=
 Ev.both h1 h2 (fun f e1 e2=>by(try dsimp only at e1 e2 ⊢);rw[Jj,e1];dsimp only;rw[An ht];exact e2)
inductive WEx:Ex→Prop
 |num (n:Int) (h:0≤n):WEx (.mk 1 0 n [] [])
 |var (s:Bs) (h:Aq s=true):WEx (.mk 2 0 0 s [])
 |one (o:Int) (x:Ex) (ho:o=17∨o=18∨o=19) (hx:WEx x):WEx (.mk 3 o 0 [] [x])
 |two (o:Int) (x y:Ex) (ho:0<Am o) (hx:WEx x) (hy:WEx y):WEx (.mk 4 o 0 [] [x,y])
 |call (s:Bs) (l:List Ex) (h:Aq s=true) (hl:l.length≤6) (hx:∀x,x∈l→WEx x):WEx (.mk 5 0 0 s l)
 |idx (s:Bs) (x:Ex) (h:Aq s=true) (hx:WEx x):WEx (.mk 6 0 0 s [x])
 |read:WEx (.mk 7 0 0 [] [])
theorem jT:∀(e:Ex),Ce e=true→WEx e
 | .mk k o n nm args,h=>by
  rw[Lf]at h;simp only[Zg,List.all_eq_true]at h;obtain⟨hw,ha⟩:=h;have ih:∀x,x∈args→WEx x:=fun x hx=>jT x (ha x hx)
  clear ha;unfold Cj at hw;simp only[Zg,beq_iff_eq]at hw;obtain⟨⟨⟨⟨h1,h2⟩,h3⟩,h4⟩,h5⟩:=hw;unfold Gi at h1;unfold Cu at h2;unfold Ii at h3;unfold Kx at h4;unfold Ej at h5;simp only[Ex.kind,Ex.op,Ex.n,Ex.name,Ex.args]at h1 h2 h3 h4 h5
  by_cases k1:k=1
  ·subst k1
   simp at h1 h2 h3 h4 h5;subst h2 h3 h5;exact .num n (of_decide_eq_true h1)
  by_cases k2:k=2
  ·subst k2
   simp at h1 h2 h3 h4 h5;subst h2 h3 h4;exact .var nm h1
  by_cases k3:k=3
  ·subst k3
   simp at h1 h2 h3 h4 h5;obtain⟨x,rfl⟩:=List.length_eq_one_iff.1 (by omega:args.length=1);subst h4 h5;exact .one o x (of_decide_eq_true h1) (ih x (by simp))
  by_cases k4:k=4
  ·subst k4
   simp at h1 h2 h3 h4 h5;obtain⟨x,y,rfl⟩:∃x y,args=[x,y]:=by
    match args,h2 with
    |[x,y],_=>exact⟨x,y,rfl⟩
   subst h4 h5;exact .two o x y (of_decide_eq_true h1) (ih x (by simp)) (ih y (by simp))
  by_cases k5:k=5
  ·subst k5
   simp at h1 h2 h3 h4 h5;subst h3 h4;exact .call nm args h1.1 (by have:=of_decide_eq_true h1.2;omega) ih
  by_cases k6:k=6
  ·subst k6
   simp at h1 h2 h3 h4 h5;obtain⟨x,rfl⟩:=List.length_eq_one_iff.1 (by omega:args.length=1);subst h3 h4;exact .idx nm x h1 (ih x (by simp))
  ·simp [k1,k2,k3,k4,k5,k6]at h1 h2 h3 h4 h5
   have h1:=of_decide_eq_true h1;subst h1 h2 h3 h4 h5;exact .read
termination_by e=>SizeOf.sizeOf e
decreasing_by
 exact Ex.size_lt (e:= .mk k o n nm args) hx
def cG(e:Ex):Int:=if e.kind=4 then Am e.op else 9
def Ni(l:List Tk):Prop:=Bp [40] l=none∧Bp [91] l=none
theorem Tr {t:Tk}{r:List Tk}(h:t.text≠[40]∧t.text≠[91]):Ni (t::r):=⟨Af (Di h.1),Af (Di h.2)⟩
def Nj(e:Ex):Prop:= ∀ts rest,For ts (Da e 9)→Ni rest→Ev (fun f=>Br f (ts++rest)) (.ok (e,rest))
def Sk(e:Ex):Prop:= ∀lv ts rest z,lv≤cG e→For ts (Ck e)→Ni rest→Dc (cG e+1) rest=0→Ev (fun f=>Jt f lv e rest) z→Ev (fun f=>Bf f lv (ts++rest)) z
theorem Lc {e:Ex}(hk:e.kind≠4)(h:Nj e):Sk e:=by
 intro lv ts rest z hl hf hn hb hz;refine Vl (h ts rest ?_ hn) hz;have:Da e 9=Ck e:=by unfold Da Gy;rw[if_neg (by rintro⟨h1,_⟩;exact hk h1)]
 rw[this];exact hf
theorem Vs {e:Ex}(ht:Nj e)(hc:Sk e){L lv:Int}(hL:L≤9)(hl:lv≤L){ts rest:List Tk}{z:PR Ex}(hf:For ts (Da e L))(hn:Ni rest)(hb:Dc (L+1) rest=0)(hz:Ev (fun f=>Jt f lv e rest) z):Ev (fun f=>Bf f lv (ts++rest)) z:=by
 by_cases hw:e.kind=4∧Am e.op<L
 ·have h9:Da e 9=Da e L:=by
   unfold Da Gy;rw[if_pos hw,if_pos ⟨hw.1,by omega⟩]
  exact Vl (ht ts rest (by rw[h9];exact hf) hn) hz
 ·have h0:Da e L=Ck e:=by unfold Da Gy;rw[if_neg hw]
  have hle:L≤cG e:=by
   unfold cG;split
   ·rename_i h4
    have:¬Am e.op<L:=fun h=>hw ⟨h4,h⟩
    omega
   ·exact hL
  rw[h0]at hf;exact hc lv ts rest z (by omega) hf hn (Vv hb (by omega)) hz
theorem Ld {e:Ex}(hc:Sk e){ts rest:List Tk}(hf:For ts (Ck e))(hn:Ni rest)(hb:Dc 1 rest=0)(h1:1≤cG e):Ev (fun f=>Bf f 1 (ts++rest)) (.ok (e,rest)):=
 hc 1 ts rest _ h1 hf hn (Vv hb (by omega)) (Sj hb)
theorem Qc {e:Ex}(h:WEx e):1≤cG e:=by
 cases h with
 |two o x y ho hx hy=>show 1≤Am o;omega
 |_=>show(1:Int)≤9;decide
theorem Lk {lv:Int}{t:Tk}{r:List Tk}(h:t.text=[41]∨t.text=[93]∨t.text=[44]∨t.text=[59]∨t.text=[]):Dc lv (t::r)=0:=by
 refine lJ (fun i=> ?_);rcases h with h|h|h|h|h<;>(rw[h];revert i;decide)
theorem Ju {t:Tk}{r:List Tk}(h:t.text=[41]∨t.text=[93]∨t.text=[44]∨t.text=[59]∨t.text=[]):Ni (t::r):=by
 refine Tr ?_;rcases h with h|h|h|h|h<;>(rw[h];decide)
theorem fN {op:Int}{t:Tk}{r:List Tk}(ho:0<Am op)(h:isP (As op) t=true):Ni (t::r):=by
 refine Tr ?_;rw[Cv h];obtain⟨i,rfl⟩:=Rp ho;clear ho h
 revert i;decide
theorem On(x:Ex)(l:List Ex):Jq ((x::l).map Ck)=Ck x++l.flatMap (fun y=>[sg [44],.g [32]]++Ck y):=by
 show Ck x++(l.map Ck).flatMap (fun y=>[sg [44],.g [32]]++y)=_
 rw[List.flatMap_map]
theorem Qb:∀(l:List Ex) (a:List Ex) (x:Ex) (ts rest:List Tk) (t:Tk),(∀y,y∈x::l→Sk y∧WEx y)→For ts (Ck x++l.flatMap (fun y=>[sg [44],.g [32]]++Ck y))→isP [41] t=true→
  Ev (fun f=>Jj f a (ts++t::rest)) (.ok (a++x::l,rest))
 |[],a,x,ts,rest,t,hl,hf,ht=>by
  have hx:=hl x Zb;rw[List.flatMap_nil,Ze]at hf;have tt:=Cv ht;exact qR ht (Ld hx.1 hf (Ju (.inl tt)) (Lk (.inl tt)) (Qc hx.2))
 |y::l,a,x,ts,rest,t,hl,hf,ht=>by
  have hx:=hl x Zb;obtain⟨t1,t2,rfl,h1,h2⟩:=hf.app;rw[Zi]at h2;obtain⟨c,t2,rfl,hc,h2⟩:=For.cons (by simpa using h2);have hc:=Cq hc;have ih:=Qb l (a++[x]) y t2 rest t (fun z hz=>hl z (Zc _ hz)) (by have:=For.gap h2;simpa using this) ht;have tc:=Cv hc;rw[Za];rw[Za]at ih;exact gC hc (Ld hx.1 h1 (Ju (.inr (.inr (.inl tc)))) (Lk (.inr (.inr (.inl tc)))) (Qc hx.2)) ih
theorem Tx {e:Ex}(h:WEx e):∀(lv:Int),∃x l,La (Da e lv)=x::l∧x.text≠[41]∧x.kind≠5:=by
 have wrap:∀(e:Ex) (lv:Int),(∃x l,La (Ck e)=x::l∧x.text≠[41]∧x.kind≠5)→∃x l,La (Da e lv)=x::l∧x.text≠[41]∧x.kind≠5:=by
  intro e lv h;unfold Da Gy;split
  ·exact⟨_,_,rfl,by decide,(by show _≠(5:Int);first|exact(by decide:(3:Int)≠5)|exact(by decide:(1:Int)≠5)|exact(by decide:(4:Int)≠5)|exact(by decide:(2:Int)≠5))⟩
  ·exact h
 have name:∀(s:Bs),Aq s=true→s≠[41]:=by
  rintro s h rfl;exact absurd h (by decide)
 induction h with
 |num n h=>
  intro lv;refine wrap _ _ ?_;rw[Ss];refine⟨_,_,rfl,?_,(by show _≠(5:Int);first|exact(by decide:(3:Int)≠5)|exact(by decide:(1:Int)≠5)|exact(by decide:(4:Int)≠5)|exact(by decide:(2:Int)≠5))⟩;show Zh n≠[41]
  intro e;unfold Zh at e;rw[if_neg (by omega)]at e;have:=Li n.toNat 41 (by rw[e];exact Zb);exact absurd this (by decide)
 |var s h=>intro lv;refine wrap _ _ ?_;rw[Si];exact⟨_,_,rfl,name s h,(by show _≠(5:Int);first|exact(by decide:(3:Int)≠5)|exact(by decide:(1:Int)≠5)|exact(by decide:(4:Int)≠5)|exact(by decide:(2:Int)≠5))⟩
 |one o x ho hx ih=>
  intro lv;refine wrap _ _ ?_;rw[Sz];refine⟨_,_,rfl,?_,(by show _≠(5:Int);first|exact(by decide:(3:Int)≠5)|exact(by decide:(1:Int)≠5)|exact(by decide:(4:Int)≠5)|exact(by decide:(2:Int)≠5))⟩;rcases ho with rfl|rfl|rfl<;>decide
 |two o x y ho hx hy ihx ihy=>
  intro lv;refine wrap _ _ ?_;rw[Tn,Jc];obtain⟨u,l,e,h⟩:=ihx (Am o);rw[e];exact⟨_,_,rfl,h⟩
 |call s l h hl hx ih=>intro lv;refine wrap _ _ ?_;rw[Me];exact⟨_,_,rfl,name s h,(by show _≠(5:Int);first|exact(by decide:(3:Int)≠5)|exact(by decide:(1:Int)≠5)|exact(by decide:(4:Int)≠5)|exact(by decide:(2:Int)≠5))⟩
 |idx s x h hx ih=>intro lv;refine wrap _ _ ?_;rw[Sm];exact⟨_,_,rfl,name s h,(by show _≠(5:Int);first|exact(by decide:(3:Int)≠5)|exact(by decide:(1:Int)≠5)|exact(by decide:(4:Int)≠5)|exact(by decide:(2:Int)≠5))⟩
 |read=>intro lv;refine wrap _ _ ?_;rw[Th];exact⟨_,_,rfl,by decide,(by show _≠(5:Int);first|exact(by decide:(3:Int)≠5)|exact(by decide:(1:Int)≠5)|exact(by decide:(4:Int)≠5)|exact(by decide:(2:Int)≠5))⟩
theorem Jw {e:Ex}(h:e.kind≠4)(lv:Int):Da e lv=Ck e:=by
 unfold Da Gy;rw[if_neg (by rintro⟨h1,_⟩;exact h h1)]
theorem Et {t:Tk}{x:T3}(h:t3 t=x):t.kind=x.kind∧t.text=x.text∧t.num=x.num:=by subst h;exact⟨rfl,rfl,rfl⟩
theorem Wh {e:Ex}(h:WEx e):Nj e∧Sk e:=by
 induction h with
 |num n h=>
  have ht:Nj (.mk 1 0 n [] []):=by
   intro ts rest hf hn;rw[Jw (by simp [Ex.kind]),Ss]at hf;obtain⟨t,r,rfl,h3,hr⟩:=hf.cons;obtain⟨k1,k2,k3⟩:=Et h3;rw[hr.nil];have:=mX (t:=t) (r:=rest) k1;rw[k3]at this;exact this
  exact⟨ht,Lc (by simp [Ex.kind]) ht⟩
 |var s h=>
  have ht:Nj (.mk 2 0 0 s []):=by
   intro ts rest hf hn;rw[Jw (by simp [Ex.kind]),Si]at hf;obtain⟨t,r,rfl,h3,hr⟩:=hf.cons;obtain⟨k1,k2,k3⟩:=Et h3;rw[hr.nil];have:=Qe (t:=t) (l:=rest) k1 (nT hn.1 hn.2);rw[k2]at this;exact this
  exact⟨ht,Lc (by simp [Ex.kind]) ht⟩
 |one o x ho hx ih=>
  have ht:Nj (.mk 3 o 0 [] [x]):=by
   intro ts rest hf hn;rw[Jw (by simp [Ex.kind]),Sz]at hf;obtain⟨t,r,rfl,h3,hr⟩:=hf.cons;exact nQ ho (Cq h3) (ih.1 r rest hr hn)
  exact⟨ht,Lc (by simp [Ex.kind]) ht⟩
 |two o x y ho hx hy ihx ihy=>
  have hle:=pS o;have hc:Sk (.mk 4 o 0 [] [x,y]):=by
   intro lv ts rest z hl hf hn hb hz;have hlv:cG (.mk 4 o 0 [] [x,y])=Am o:=rfl;rw[hlv]at hl hb;rw[Tn]at hf;obtain⟨t1,t2,rfl,h1,h2⟩:=hf.app;obtain⟨t,r,rfl,h3,hr⟩:=For.cons (For.gap (show For t2 (.g [32]::sg (As o):: .g [32]::Da y (Am o+1))from h2));have hs:=Cq h3;rw[Za];refine Vs ihx.1 ihx.2 (L:=Am o) (by omega) hl h1 (fN ho hs) (bin_lvl ho hs (by omega)) ?_;refine lW ho hl hs ?_ hz;exact Vs ihy.1 ihy.2 (L:=Am o+1) (by omega) (Int.le_refl _) hr.gap hn (Vv hb (by omega)) (Sj hb)
  refine⟨?_,hc⟩;intro ts rest hf hn;have:Da (.mk 4 o 0 [] [x,y]) 9=sg [40]::(Ck (.mk 4 o 0 [] [x,y])++[sg [41]]):=by
   unfold Da Gy;rw[if_pos ⟨rfl,by show Am o<9;omega⟩];rfl
  rw[this]at hf;obtain⟨t,r,rfl,h3,hr⟩:=hf.cons;obtain⟨t1,t2,rfl,h1,h2⟩:=hr.app;obtain⟨u,q,rfl,h4,hq⟩:=h2.cons;rw[hq.nil];have hu:=Cq h4;have tu:=Cv hu;have hr1:(t::(t1++[u]))++rest=t::(t1++u::rest):=by simp
  rw[hr1];refine Uj (Cq h3) hu ?_;exact Ld hc h1 (Ju (.inl tu)) (Lk (.inl tu)) (by show 1≤Am o;omega)
 |call s l h hl hx ih=>
  have ht:Nj (.mk 5 0 0 s l):=by
   intro ts rest hf hn;rw[Jw (by simp [Ex.kind]),Me]at hf;obtain⟨t,r,rfl,h3,hr⟩:=hf.cons;obtain⟨k1,k2,k3⟩:=Et h3;obtain⟨o,r,rfl,h4,hr⟩:=hr.cons;obtain⟨t1,t2,rfl,h1,h2⟩:=hr.app;obtain⟨u,q,rfl,h5,hq⟩:=h2.cons;rw[hq.nil];have hu:=Cq h5;have hr1:(t::o::(t1++[u]))++rest=t::o::(t1++u::rest):=by simp
   rw[hr1];have key:Ev (fun f=>Gw f (t1++u::rest)) (.ok (l,rest)):=by
    cases l with
    |nil=>
     have:t1=[]:=h1.nil;subst this;exact eN hu
    |cons x l=>
     have hm:=Qb l [] x t1 rest u (fun y hy=>⟨(ih y hy).2,hx y hy⟩) (by
      have e:Jq ((x::l).map Ck)=Ck x++l.flatMap (fun y=>[sg [44],.g [32]]++Ck y):=by
       exact On x l
      rw[←e];exact h1) hu
     refine Xx ?_ hm;obtain⟨w,l',e',n1,n2⟩:=Tx (hx x Zb) 0;have e0:Da x 0=Ck x:=by
      unfold Da Gy;rw[if_neg];rintro⟨q1,q2⟩;have:=Qc (hx x Zb);unfold cG at this;rw[if_pos q1]at this;omega
     rw[e0]at e';have e1:t1.map t3=w::(l'++La (l.flatMap (fun y=>[sg [44],.g [32]]++Ck y))):=by
      have q:For t1 (Jq ((x::l).map Ck)):=h1;have e:Jq ((x::l).map Ck)=Ck x++l.flatMap (fun y=>[sg [44],.g [32]]++Ck y):=by
       exact On x l
      rw[e]at q;unfold For at q;rw[q,Jc,e'];rfl
     obtain⟨a,b,rfl,e2,_⟩:=List.map_eq_cons_iff.1 e1;rw[Zf];refine Af (Di ?_);rw[show a.text=w.text from by rw[←e2];rfl];exact n1
   have:=Qe (t:=t) (l:=o::(t1++u::rest)) k1 (iB (Cq h4) key);rw[k2]at this;exact this
  exact⟨ht,Lc (by simp [Ex.kind]) ht⟩
 |idx s x h hx ih=>
  have ht:Nj (.mk 6 0 0 s [x]):=by
   intro ts rest hf hn;rw[Jw (by simp [Ex.kind]),Sm]at hf;obtain⟨t,r,rfl,h3,hr⟩:=hf.cons;obtain⟨k1,k2,k3⟩:=Et h3;obtain⟨o,r,rfl,h4,hr⟩:=hr.cons;obtain⟨t1,t2,rfl,h1,h2⟩:=hr.app;obtain⟨u,q,rfl,h5,hq⟩:=h2.cons;rw[hq.nil];have hu:=Cq h5;have tu:=Cv hu;have hr1:(t::o::(t1++[u]))++rest=t::o::(t1++u::rest):=by simp
   rw[hr1];have:=Qe (t:=t) (l:=o::(t1++u::rest)) k1 (nE (Cq h4) hu (Ld ih.2 h1 (Ju (.inr (.inl tu))) (Lk (.inr (.inl tu))) (Qc hx)));rw[k2]at this;exact this
  exact⟨ht,Lc (by simp [Ex.kind]) ht⟩
 |read=>
  have ht:Nj (.mk 7 0 0 [] []):=by
   intro ts rest hf hn;rw[Jw (by simp [Ex.kind]),Th]at hf;obtain⟨t,r,rfl,h3,hr⟩:=hf.cons;obtain⟨u,r,rfl,h4,hr⟩:=hr.cons;obtain⟨v,r,rfl,h5,hr⟩:=hr.cons;rw[hr.nil];exact gP (Lq h3) (Cq h4) (Cq h5)
  exact⟨ht,Lc (by simp [Ex.kind]) ht⟩
def Rq(e:Ex):Nat→List Pc
 |0=>Ck e
 |k+1=>sg [40]::(Rq e k++[sg [41]])
theorem Ys {e:Ex}(h:WEx e):∀(k:Nat) (ts rest:List Tk),For ts (Rq e k)→Ni rest→Dc 1 rest=0→Ev (fun f=>Bf f 1 (ts++rest)) (.ok (e,rest))
 |0,ts,rest,hf,hn,hb=>Ld (Wh h).2 hf hn hb (Qc h)
 |k+1,ts,rest,hf,hn,hb=>by
  obtain⟨t,r,rfl,h3,hr⟩:=hf.cons;obtain⟨t1,t2,rfl,h1,h2⟩:=hr.app;obtain⟨u,r2,rfl,h4,h5⟩:=h2.cons;have hu:=Cq h4;have tu:=Cv hu;have ih:=Ys h k t1 (u::r2++rest) h1 (Ju (.inl tu)) (Lk (.inl tu));rw[h5.nil]at ih ⊢;have:=Vl (lv:=1) (Uj (Cq h3) hu ih) (Sj hb);simpa using this
def Ff(S:Int→Bs→Bool):List Pc→Bs→Prop
 |[],_=>True
 | .g _::l,z=>Ff S l z
 | .t x::l,z=>S x.kind (Az l++z)=true∧Ff S l z
theorem Ff.app {S:Int→Bs→Bool}:∀ {a b:List Pc} {z:Bs},Ff S a (Az b++z)→Ff S b z→Ff S (a++b) z
 |[],b,z,_,h=>h
 | .g x::a,b,z,h1,h2=>Ff.app (a:=a) h1 h2
 | .t x::a,b,z,h1,h2=>⟨by rw[List.append_eq,Ap,Za];exact h1.1,Ff.app (a:=a) h1.2 h2⟩
def eB(c:UInt8):Bool:=c==32||c==41||c==93||c==44||c==59||c==10
def dO(c:UInt8):Bool:=Cl c||Cx c||c==40||c==45||c==33||c==126
def Uq(z:Bs):Prop:=z=[]∨∃c r,z=c::r∧eB c=true
def Mq(z:Bs):Prop:= ∃c r,z=c::r∧dO c=true
structure Nk (S:Int→Bs→Bool):Prop where
 nil:∀k,S k []=true
 soft:∀k c r,eB c=true→S k (c::r)=true
 head:∀c r,dO c=true→S 4 (c::r)=true
 opens:∀k r,k≠3→S k (40::r)=true∧S k (91::r)=true
theorem Nk.ofSoft {S:Int→Bs→Bool}(h:Nk S){z:Bs}(hz:Uq z)(k:Int):S k z=true:=by
 rcases hz with rfl|⟨c,r,rfl,hc⟩
 ·exact h.nil k
 ·exact h.soft k c r hc
theorem Nk.ofHead {S:Int→Bs→Bool}(h:Nk S){z:Bs}(hz:Mq z):S 4 z=true:=by
 obtain⟨c,r,rfl,hc⟩:=hz;exact h.head c r hc
theorem Mq.app {a b:Bs}(h:Mq a):Mq (a++b):=by
 obtain⟨c,r,rfl,hc⟩:=h;exact⟨c,r++b,rfl,hc⟩
theorem Fm {c:UInt8}{r:Bs}(h:eB c=true):Uq (c::r):= .inr ⟨c,r,rfl,h⟩
theorem Tc {s:Bs}(h:Aq s=true):Mq s:=by
 cases s with
 |nil=>exact absurd h (by decide)
 |cons c r=>
  refine⟨c,r,rfl,?_⟩;have:Cl c=true:=by
   simp only[Aq,Gv,Zg,Bool.or_eq_true,Bool.not_true,Bool.false_and,Bool.or_false]at h
   first|exact h.1.1|exact h.1.1.1|exact h.2.1|(simp at h;exact h.1)|(simp at h;exact h.1.1)|(simp at h;exact h.2.1)
  unfold dO;rw[this];rfl
def Us:Prop:= ∀u,(∀c,c∈Zk u→Cx c=true)∧Zk u≠[]
theorem fA {n:Int}(h:0≤n)(hd:Us):Mq (Zh n):=by
 unfold Zh;rw[if_neg (by omega)];rcases hq:Zk n.toNat with _|⟨c,r⟩
 ·exact absurd hq (hd n.toNat).2
 ·refine⟨c,r,rfl,?_⟩
  have:=(hd n.toNat).1 c (by rw[hq];exact Zb);unfold dO;rw[this];simp
theorem Oq(x:Pc)(l:List Pc):Az (x::l)=x.text++Az l:=rfl
theorem aC {e:Ex}{lv:Int}(h:Mq (Az (Ck e))):Mq (Az (Da e lv)):=by
 unfold Da Gy;split
 ·exact⟨40,_,rfl,by decide⟩
 ·exact h
theorem Jh(hd:Us){e:Ex}(h:WEx e):Mq (Az (Ck e)):=by
 induction h with
 |num n h=>rw[Ss];exact(fA h hd).app
 |var s h=>rw[Si];exact(Tc h).app
 |one o x ho hx ih=>rw[Sz];rcases ho with rfl|rfl|rfl<;>exact⟨_,_,rfl,by decide⟩
 |two o x y ho hx hy ihx ihy=>rw[Tn,Ap];exact(aC ihx).app
 |call s l h hl hx ih=>rw[Me,Oq];exact(Tc h).app
 |idx s x h hx ih=>rw[Sm,Oq];exact(Tc h).app
 |read=>rw[Th];exact⟨_,_,rfl,by decide⟩
theorem We {S:Int→Bs→Bool}(hS:Nk S){e:Ex}(hh:Mq (Az (Ck e)))(h:∀z,Uq z→Ff S (Ck e) z)(lv:Int)(z:Bs)(hz:Uq z):Ff S (Da e lv) z:=by
 unfold Da Gy;split
 ·rw[Za]
  refine⟨?_,?_⟩
  ·show S 4 (Az (Ck e++[sg [41]])++z)=true
   rw[Ap,Za];exact hS.ofHead hh.app
  ·show Ff S (Ck e++[sg [41]]) z
   exact Ff.app (h _ (Fm (by decide))) ⟨hS.ofSoft hz 4,trivial⟩
 ·exact h z hz
theorem fL {S:Int→Bs→Bool}(hS:Nk S)(z:Bs):∀(l:List Ex),(∀y,y∈l→∀z,Uq z→Ff S (Ck y) z)→Ff S (l.flatMap (fun y=>[sg [44],.g [32]]++Ck y)) (41::z)∧Uq (Az (l.flatMap (fun y=>[sg [44],.g [32]]++Ck y))++41::z)
 |[],h=>⟨trivial,Fm (by decide)⟩
 |y::l,h=>by
  obtain⟨h1,h2⟩:=fL hS z l (fun x hx=>h x (Zc _ hx));rw[Zi];refine⟨?_,?_⟩
  ·refine Ff.app (a:=[sg [44],.g [32]]++Ck y) ?_ h1
   exact⟨hS.soft 4 32 _ (by decide),h y Zb _ h2⟩
  ·exact Fm (by decide)
theorem oT {S:Int→Bs→Bool}(hS:Nk S)(hd:Us){e:Ex}(h:WEx e):∀z,Uq z→Ff S (Ck e) z:=by
 induction h with
 |num n h=>intro z hz;rw[Ss];exact⟨hS.ofSoft hz 3,trivial⟩
 |var s h=>intro z hz;rw[Si];exact⟨hS.ofSoft hz 1,trivial⟩
 |one o x ho hx ih=>
  intro z hz;rw[Sz];exact⟨hS.ofHead (aC (Jh hd hx)).app,We hS (Jh hd hx) ih 9 z hz⟩
 |two o x y ho hx hy ihx ihy=>
  intro z hz;rw[Tn];refine Ff.app (We hS (Jh hd hx) ihx _ _ (Fm (by decide))) ?_;exact⟨hS.soft 4 32 _ (by decide),We hS (Jh hd hy) ihy _ z hz⟩
 |call s l h hl hx ih=>
  intro z hz;rw[Me];have hclose:Ff S [sg [41]] z:=⟨hS.ofSoft hz 4,trivial⟩
  cases l with
  |nil=>
   exact⟨(hS.opens 1 _ (by decide)).1,hS.soft 4 41 _ (by decide),hclose⟩
  |cons x l=>
   have hx0:=hx x Zb;obtain⟨h1,h2⟩:=fL hS z l (fun y hy=>ih y (Zc _ hy));rw[On];refine⟨(hS.opens 1 _ (by decide)).1,?_,?_⟩
   ·rw[Ap,Ap,Za,Za]
    exact hS.ofHead (Jh hd hx0).app
   ·rw[Za]
    refine Ff.app (ih x Zb _ ?_) (Ff.app h1 hclose);rw[Ap,Za];exact h2
 |idx s x h hx ih=>
  intro z hz;rw[Sm];refine⟨(hS.opens 1 _ (by decide)).2,?_,Ff.app (ih _ (Fm (by decide))) ⟨hS.ofSoft hz 4,trivial⟩⟩;rw[Ap,Za];exact hS.ofHead (Jh hd hx).app
 |read=>
  intro z hz;rw[Th];exact⟨(hS.opens 2 _ (by decide)).1,hS.soft 4 41 _ (by decide),hS.ofSoft hz 4,trivial⟩
theorem pQ(hd:Us){e:Ex}(h:WEx e):∀k,Mq (Az (Rq e k))
 |0=>Jh hd h
 |k+1=>⟨40,_,rfl,by decide⟩
theorem kW {S:Int→Bs→Bool}(hS:Nk S)(hd:Us){e:Ex}(h:WEx e):∀k z,Uq z→Ff S (Rq e k) z
 |0,z,hz=>oT hS hd h z hz
 |k+1,z,hz=>by
  refine⟨?_,Ff.app (kW hS hd h k _ (Fm (by decide))) ⟨hS.ofSoft hz 4,trivial⟩⟩;rw[Ap,Za];exact hS.ofHead (pQ hd h k).app
def Ct:List Pc→Bs
 | .g b::l=>b++Ct l
 |_=>[]
def Fq:List Pc→List It
 |[]=>[]
 | .g _::l=>Fq l
 | .t x::l=>⟨x.text,x.kind,x.num,Ct l,[]⟩::Fq l
theorem Of:∀l:List Pc,Ct l++Cn (Fq l)=Az l
 |[]=>rfl
 | .g b::l=>by
  show(b++Ct l)++Cn (Fq l)=b++Az l
  rw[Za,Of l]
 | .t x::l=>by
  show []++Cn (_::Fq l)=x.text++Az l
  rw[Oo,Zd];show x.text++(Ai (Ct l) []++Cn (Fq l))=_
  rw[show Ai (Ct l) []=Ct l by unfold Ai;simp,Of l]
theorem Uy:∀(l:List Pc) (line:Nat),(Pl line (Fq l)).map t3=La l
 |[],line=>rfl
 | .g b::l,line=>Uy l line
 | .t x::l,line=>by
  show(⟨x.kind,x.text,x.num,line⟩:Tk)|>fun t=>t3 t::(Pl _ (Fq l)).map t3=x::La l
  rw[Uy l];rfl
def Rb(x:T3):Prop:=Ks x.text x.kind x.num∧(x.kind=3→∀r,x.text≠39::r)∧I64 x.num
def Be(l:List Pc):Prop:= ∀p,p∈l→match p with| .t x=>Rb x| .g b=> ∀c,c∈b→Fe c=true
theorem Pq:∀(l:List Pc),Be l→∀c,c∈Ct l→Fe c=true
 |[],h,c,hc=>by cases hc
 | .t x::l,h,c,hc=>by cases hc
 | .g b::l,h,c,hc=>by
  rcases List.mem_append.1 (show c∈b++Ct l from hc)with hc|hc
  ·exact h (.g b) Zb c hc
  ·exact Pq l (fun p hp=>h p (Zc _ hp)) c hc
theorem aP(z:Bs):∀(l:List Pc),Be l→Ff My l z→Mo z (Fq l)∧∀i,i∈Fq l→I64 i.n
 |[],h,hs=>⟨trivial,fun i hi=>by cases hi⟩
 | .g b::l,h,hs=>aP z l (fun p hp=>h p (Zc _ hp)) hs
 | .t x::l,h,hs=>by
  have hl:Be l:=fun p hp=>h p (Zc _ hp)
  obtain⟨i1,i2⟩:=aP z l hl hs.2;obtain⟨h1,h2,h3⟩:Rb x:=h (.t x) Zb;have hg:Ai (Ct l) []=Ct l:=by unfold Ai;simp
  refine⟨⟨cR h1 h2 ?_,⟨Pq l hl,fun p hp=>by cases hp⟩,i1⟩,fun i hi=> ?_⟩
  ·show My x.kind (Ai (Ct l) []++(Cn (Fq l)++z))=true
   rw[hg,←Za,Of];exact hs.1
  ·rcases List.mem_cons.1 hi with rfl|hi
   ·exact h3
   ·exact i2 i hi
theorem Sl {c:UInt8}{r:Bs}(h7:c.toNat<128)(h:c≠61∧c≠60∧c≠62∧c≠47):My 4 (c::r)=true:=by
 obtain⟨h1,h2,h3,h4⟩:=h;simp [My,h7,h1,h2,h3,h4]
theorem sepR:Nk My:=by
 refine⟨fun k=>rfl,fun k c r h=> ?_,fun c r h=> ?_,fun k r h=> ?_⟩
 ·have hc:c=32∨c=41∨c=93∨c=44∨c=59∨c=10:=by simpa [eB,or_assoc]using h
  by_cases h4:k=4
  ·subst h4;rcases hc with rfl|rfl|rfl|rfl|rfl|rfl<;>exact Sl (by decide) (by decide)
  ·by_cases h3:k=3
   ·subst h3;rcases hc with rfl|rfl|rfl|rfl|rfl|rfl<;>(unfold My;dsimp only;rw[if_neg (by decide),if_pos rfl];decide)
   ·unfold My
    rcases hc with rfl|rfl|rfl|rfl|rfl|rfl<;>(dsimp only;rw[if_neg h4,if_neg h3];decide)
 ·unfold dO at h
  by_cases hl:Cl c=true
  ·have:=Sp hl
   exact Sl (Iy hl) ⟨by rintro rfl;exact absurd this (by decide),by rintro rfl;exact absurd this (by decide),by rintro rfl;exact absurd this (by decide),by rintro rfl;exact absurd this (by decide)⟩
  ·by_cases hd:Cx c=true
   ·have h1:=fR hd
    have h2:=Ob hd;exact Sl h2 ⟨by rintro rfl;exact absurd hd (by decide),by rintro rfl;exact absurd hd (by decide),by rintro rfl;exact absurd hd (by decide),by rintro rfl;exact absurd hd (by decide)⟩
   ·have hc:c=40∨c=45∨c=33∨c=126:=by simpa [hl,hd,or_assoc]using h
    rcases hc with rfl|rfl|rfl|rfl<;>exact Sl (by decide) (by decide)
 ·by_cases h4:k=4
  ·subst h4;exact⟨Sl (by decide) (by decide),Sl (by decide) (by decide)⟩
  ·refine⟨?_,?_⟩<;>(unfold My;dsimp only;rw[if_neg h4,if_neg h];decide)
theorem digL:Us:=fun u=>⟨Li u,So u⟩
theorem bP(u:Nat)(h:u<10000000000000000000):Zj u≤19:=by
 by_cases h0:u<10
 ·rw[Zj,dif_pos h0];decide
 ·have step:∀(n u:Nat),(¬u<10→Zj (u / 10)≤n)→Zj u≤n+1:=fun n u h=>by
   rw[Zj];split
   ·omega
   ·rename_i hh;have:=h hh;omega
  have pw:∀(n u:Nat),u<10 ^ (n+1)→Zj u≤n+1:=by
   intro n
   induction n with
   |zero=>intro u hu;rw[Zj,dif_pos (by omega)];omega
   |succ n ih=>intro u hu;exact step (n+1) u (fun _=>ih (u / 10) (by rw[Nat.pow_succ]at hu;omega))
  exact pw 18 u (by omega)
theorem pG {n:Int}(h0:0≤n)(h1:I64 n):Rb ⟨3,Zh n,n⟩:=by
 have e:Zh n=Zk n.toNat:=by unfold Zh;rw[if_neg (by omega)]
 have hu:(n.toNat:Int)=n:=by omega
 have hb:n.toNat≤9223372036854775807:=by have:=h1.2;omega
 refine⟨?_,fun _ r hr=> ?_,h1⟩
 ·show Ks (Zh n) 3 n
  rw[e];rcases hq:Zk n.toNat with _|⟨c,t⟩
  ·exact absurd hq (So _)
  ·have hlen:(Zk n.toNat).length≤19:=by
    rw[Lib.decDigits_length];exact bP _ (by omega)
   have:=Ks.num n.toNat hlen hb c t hq (Li _ c (by rw[hq];exact Zb));rw[hu]at this;rw[←hq];exact this
 ·have hr:Zh n=39::r:=hr
  rw[e]at hr;have:=Li n.toNat 39 (by rw[hr];exact Zb);exact absurd this (by decide)
theorem Vx:∀(f:Bool) (x:Bs),Gv f x=true→∀c,c∈x→c.toNat<128∧Ko (c.toNat:Nat)=true
 |_,[],_,c,hc=>by cases hc
 |f,d::l,h,c,hc=>by
  rw[Gv]at h;obtain⟨h1,h2⟩:=(Zg _ _).mp h;rcases List.mem_cons.1 hc with rfl|hc
  ·unfold Ko
   rw[Ka,Lh];rcases(Bool.or_eq_true _ _).mp h1 with h3|h3
   ·exact⟨Iy h3,by rw[h3];rfl⟩
   ·have h4:=((Zg _ _).mp h3).2
    exact⟨Ob h4,by rw[h4];simp⟩
  ·exact Vx false l h2 c hc
theorem Va {s:Bs}(h:Aq s=true):Rb ⟨1,s,0⟩:=by
 have h':=h;unfold Aq at h';simp only[Zg]at h';obtain⟨⟨⟨h1,h2⟩,h3⟩,h4⟩:=h';refine⟨?_,fun e=>absurd (show(1:Int)=3 from e) (by decide),Gg⟩
 cases s with
 |nil=>exact absurd h1 (by decide)
 |cons c t=>
  have hl:Cl c=true:=by
   rw[Gv]at h4;have:=((Zg _ _).mp h4).1;simpa using this
  exact .name (c::t) h (by simpa using h3) c t rfl hl (Vx true _ h4)
theorem Hc {x:Bs}(h:Lo x=true):Rb ⟨4,x,0⟩:=⟨kV h,fun e=>absurd (show(4:Int)=3 from e) (by decide),Gg⟩
theorem kE {o:Int}(h:0<Am o∨o=17∨o=18∨o=19):Lo (As o)=true:=by
 rcases h with h|rfl|rfl|rfl
 ·obtain⟨i,rfl⟩:=Rp h
  exact(by decide:∀i:Fin 16,Lo (As ((i.val:Int)+1))=true) i
 ·decide
 ·decide
 ·decide
inductive N64:Ex→Prop
 |mk (k o n:Int) (nm:Bs) (args:List Ex) (h:I64 n) (ha:∀x,x∈args→N64 x):N64 (.mk k o n nm args)
theorem Be.app {a b:List Pc}(h1:Be a)(h2:Be b):Be (a++b):=fun p hp=>by
 rcases List.mem_append.1 hp with h|h
 ·exact h1 p h
 ·exact h2 p h
theorem Be.cons {p:Pc}{l:List Pc}(h1:match p with| .t x=>Rb x| .g b=> ∀c,c∈b→Fe c=true)(h2:Be l):Be (p::l):=fun q hq=>by
 rcases List.mem_cons.1 hq with rfl|h
 ·exact h1
 ·exact h2 q h
theorem Be.nil:Be []:=fun p hp=>by cases hp
theorem bQ {e:Ex}{lv:Int}(h:Be (Ck e)):Be (Da e lv):=by
 unfold Da Gy;split
 ·exact Be.app (Be.app (Be.cons (Hc (by decide)) Be.nil) h) (Be.cons (Hc (by decide)) Be.nil)
 ·exact h
theorem Kh {e:Ex}(h:WEx e)(hn:N64 e):Be (Ck e):=by
 induction h with
 |num n h=>cases hn with|mk _ _ _ _ _ h1 ha=>rw[Ss];exact Be.cons (pG h h1) Be.nil
 |var s h=>rw[Si];exact Be.cons (Va h) Be.nil
 |one o x ho hx ih=>cases hn with|mk _ _ _ _ _ h1 ha=>rw[Sz];exact Be.cons (Hc (kE (.inr ho))) (bQ (ih (ha x Zb)))
 |two o x y ho hx hy ihx ihy=>
  cases hn with
  |mk _ _ _ _ _ h1 ha=>
   rw[Tn];refine Be.app (bQ (ihx (ha x Zb))) (Be.cons (by show ∀c,c∈[32]→_;decide) (Be.cons (Hc (kE (.inl ho))) (Be.cons (by show ∀c,c∈[32]→_;decide) (bQ (ihy (ha y (by simp)))))))
 |call s l h hl hx ih=>
  cases hn with
  |mk _ _ _ _ _ h1 ha=>
   rw[Me];refine Be.cons (Va h) (Be.cons (Hc (by decide)) (Be.app ?_ (Be.cons (Hc (by decide)) Be.nil)));have hm:∀(l:List Ex),(∀x,x∈l→Be (Ck x))→Be (l.flatMap (fun y=>[sg [44],.g [32]]++Ck y)):=by
    intro l hl p hp;obtain⟨y,hy,hp⟩:=List.mem_flatMap.1 hp;exact Be.app (Be.cons (Hc (by decide)) (Be.cons (by show ∀c,c∈[32]→_;decide) Be.nil)) (hl y hy) p hp
   cases l with
   |nil=>exact Be.nil
   |cons x l=>
    rw[On];exact Be.app (ih x Zb (ha x Zb)) (hm l (fun y hy=>ih y (Zc _ hy) (ha y (Zc _ hy))))
 |idx s x h hx ih=>
  cases hn with
  |mk _ _ _ _ _ h1 ha=>rw[Sm];exact Be.cons (Va h) (Be.cons (Hc (by decide)) (Be.app (ih (ha x Zb)) (Be.cons (Hc (by decide)) Be.nil)))
 |read=>rw[Th];exact Be.cons ⟨bM (by decide) (by decide),fun e=>absurd (show(2:Int)=3 from e) (by decide),Gg⟩ (Be.cons (Hc (by decide)) (Be.cons (Hc (by decide)) Be.nil))
theorem fG {e:Ex}(h:WEx e)(hn:N64 e):∀k,Be (Rq e k)
 |0=>Kh h hn
 |k+1=>Be.cons (Hc (by decide)) (Be.app (fG h hn k) (Be.cons (Hc (by decide)) Be.nil))
theorem Ag.n64 {D:Nat→Prop}{w:World}{l:List Ex}{v:Value}(h:Ag D w l v):∀x,x∈l→N64 x:=by
 induction h with
 |mk l a cap b off sv hcap hfit ha h0 h1 h2 h3 h4 hs hn ih=>
  intro x hx;obtain⟨i,hi,rfl⟩:=List.getElem_of_mem hx;have e:Bw l i=l[i]:=by simp [Bw,List.getElem?_eq_getElem hi]
  have h1:=ih i hi;have h2:=hn i hi;rw[e]at h1 h2;generalize l[i]=y at h1 h2;obtain⟨k,o,n,nm,args⟩:=y;exact .mk k o n nm args h2 h1
theorem tok_ne {x:T3}(h:Rb x):x.text≠[]:=h.1.ne
theorem Vf:∀l:List Pc,Be l→(Fq l).length≤(Az l).length
 |[],h=>Nat.le_refl _
 | .g b::l,h=>by
  have:=Vf l (fun p hp=>h p (Zc _ hp));show(Fq l).length≤(b++Az l).length
  rw[List.length_append];omega
 | .t x::l,h=>by
  have:=Vf l (fun p hp=>h p (Zc _ hp));have h1:x.text≠[]:=tok_ne (h (.t x) Zb);have h2:0<x.text.length:=List.length_pos_iff.2 h1;show(Fq l).length+1≤(x.text++Az l).length
  rw[List.length_append];omega
theorem sF(l:List Pc)(h0:Ct l=[])(hp:Be l)(hs:Ff My l [])(hlen:(Az l).length≤20000)(Q:Ex ×Int ×Int→Prop)
  (hz:∀(T:List Tk) (u:Tk),T.map t3=La l→u.kind=5→u.text=[]→∃z,Ev (fun f=>Bf f 1 (T++[u])) z∧Q (Rr (Wz z))) (w:World) (hl:Io w):
  Calls Tryz.prog 13 #[.string (Aa (Az l))] w fun e w'=> ∃r,Q r∧WhE w r e w':=by
 obtain⟨i1,i2⟩:=aP [] l hp hs;have ht:=Of l;rw[h0,Zd]at ht;obtain⟨z,⟨f0,hf⟩,hq⟩:=hz (Pl (1+Cf (Ai [] [])) (Fq l)) ⟨5,[],0,dE (1+Cf (Ai [] [])) (Fq l)⟩ (Uy l _) rfl rfl;have hil:=Vf l hp;have hx:=eW [] [] Od (Fq l) i1 i2 (by show([]++Cn (Fq l)).length≤20000;rw[Zd,ht];exact hlen) (by omega) (f0+4*((Fq l).length+1)+4) (by omega) w hl;have e0:Ai [] []++Cn (Fq l)=Az l:=by rw[←ht];rfl
 rw[e0]at hx;refine hx.mono ?_;intro e w' hp;have e1:Bf (f0+4*((Fq l).length+1)+4) 1 (Dt (1+Cf (Ai [] [])) (Fq l))=z:=hf _ (by omega);rw[e1]at hp;exact⟨_,hq,hp⟩
theorem par_gap {e:Ex}(h:WEx e):∀(k:Nat) (r:List Pc),Ct (Rq e k++r)=[]
 |k+1,r=>rfl
 |0,r=>by
  have wrap:∀(e:Ex) (lv:Int) (r:List Pc),(∀r,Ct (Ck e++r)=[])→Ct (Da e lv++r)=[]:=by
   intro e lv r h;unfold Da Gy;split
   ·rfl
   ·exact h r
  have all:∀r,Ct (Ck e++r)=[]:=by
   induction h with
   |num n h=>intro r;rw[Ss];rfl
   |var s h=>intro r;rw[Si];rfl
   |one o x ho hx ih=>intro r;rw[Sz];rfl
   |two o x y ho hx hy ihx ihy=>intro r;rw[Tn,Za];exact wrap _ _ _ ihx
   |call s l h hl hx ih=>intro r;rw[Me];rfl
   |idx s x h hx ih=>intro r;rw[Sm];rfl
   |read=>intro r;rw[Th];rfl
  exact all r
def jJ(t:Bs):Nat→Bs
 |0=>t
 |k+1=>[40]++jJ t k++[41]
theorem Yw(e:Ex):∀k,Az (Rq e k)=jJ (Ah e) k
 |0=>Tj e
 |k+1=>by
  show [40]++Az (Rq e k++[sg [41]])=[40]++jJ (Ah e) k++[41]
  rw[Ap,Yw e k,←Za];rfl
theorem fQ {u:Tk}{r:List Tk}(h:u.text=[]):Ni (u::r)∧Dc 1 (u::r)=0:=⟨Ju (.inr (.inr (.inr (.inr h)))),Lk (.inr (.inr (.inr (.inr h))))⟩
theorem pU {e:Ex}(hr:Cz e=true)(h:WEx e)(hn:N64 e)(k:Nat)(hlen:(jJ (Ah e) k).length≤20000)(w:World)(hl:Io w):
  Calls Tryz.prog 13 #[.string (Aa (jJ (Ah e) k))] w (WhE w (e,0,0)):=by
 rw[←Yw]at hlen ⊢;refine(sF (Rq e k) (by have:=par_gap h k [];rwa[Ze]at this) (fG h hn k) (kW sepR digL h k [] (.inl rfl)) hlen (fun r=>r=(e,0,0)) ?_ w hl).mono ?_
 ·intro T u hT hu hx
  refine⟨.ok (e,[u]),Ys h k T [u] hT (fQ hx).1 (fQ hx).2,?_⟩;have h1:Wz (.ok (e,[u]))=(e,0,0):=by show(if u.kind=5 then(e,(0:Int),(0:Int))else(exZ,40,u.line))=_;rw[if_pos hu]
  rw[h1];show(if(0:Int)=0∧Cz e=false then(exZ,(41:Int),(1:Int))else(e,0,0))=_;rw[if_neg (by rintro⟨_,h2⟩;rw[hr]at h2;cases h2)]
 ·rintro r w' ⟨R,rfl,hp⟩;exact hp
theorem cU {B:Nat}{a w:World}(h:Below B a w)(n:Nat):Below B a (w.drewN n):=⟨h.os,h.tape,h.output,h.size,h.block⟩
theorem pn_good {X:Ex}(hr:Cz X=true)(h:WEx X)(hn:N64 X)(k:Nat)(hlen:(jJ (Ah X) k).length≤20000)(w:World)(hl:Io w):
  Calls Tryz.prog 13 #[.string (Aa (jJ (Ah X) k))] w fun e w'=>Below w.heap.size w w'∧∃sa sc,e= .returned (.tuple #[.agg #[.int .i64 X.kind,.int .i64 X.op,.int .i64 X.n,.string (Aa X.name),.slice sa X.args.length sc],.int .i64 0,.int .i64 0])∧Ag (w.heap.size≤ ·) w' X.args (.slice sa X.args.length sc):=by
 refine(pU hr h hn k hlen w hl).mono ?_;rintro e w' ⟨hb,v,rfl,s,rfl,hx,_⟩;obtain⟨sa,sc,rfl⟩:=hx.shape;exact⟨hb,sa,sc,rfl,hx⟩
def Ef(t:Nat)(l:List Pc):List Pc:=[.g (Kd t)]++l++[.g [10]]
def Xr(l:List Ex)(i:Nat):List Pc:=Ck (Bw l i)
def Ch(t:Nat)(k:Int)(nm:Bs)(args:List Ex)(noEls:Bool)(T E:List Pc):List Pc:=
 if k=1 then Ef t ([nmp nm,.g [32],sg [61],.g [32]]++Xr args 0++[sg [59]])
 else if k=2 then Ef t ([nmp nm,sg [91]]++Xr args 0++[sg [93],.g [32],sg [61],.g [32]]++Xr args 1++[sg [59]])
 else if k=3 then Ef t ([wd [105,102],.g [32],sg [40]]++Xr args 0++[sg [41],.g [32],sg [123]])++(T++((if noEls then []else Ef t [sg [125],.g [32],wd [101,108,115,101],.g [32],sg [123]]++E)++Ef t [sg [125]]))
 else if k=4 then Ef t ([wd [119,104,105,108,101],.g [32],sg [40]]++Xr args 0++[sg [41],.g [32],sg [123]])++(T++Ef t [sg [125]])
 else if k=5 then Ef t [wd [98,114,101,97,107],sg [59]]
 else if k=6 then Ef t [wd [99,111,110,116,105,110,117,101],sg [59]]
 else if k=7 then Ef t ([wd [114,101,116,117,114,110],.g [32]]++Xr args 0++[sg [59]])
 else if k=8 then Ef t ([wd [112,114,105,110,116],sg [40]]++Xr args 0++[sg [41],sg [59]])
 else if k=9 then Ef t ([wd [116,114,97,112],sg [40]]++Xr args 0++[sg [41],sg [59]])
 else if k=10 then Ef t (Xr args 0++[sg [59]])else []
mutual
def Gf(t:Nat):St→List Pc
 | .mk k nm args thn els=>Ch t k nm args els.isEmpty (Fg (t+1) thn) (Fg (t+1) els)
def Fg(t:Nat):List St→List Pc
 |[]=>[]
 |x::l=>Gf t x++Fg t l
end
theorem Fz(t:Nat)(l:List Pc)(m:List Bs)(h:Az l=m.flatten):Az (Ef t l)=ln t m:=by
 unfold Ef ln;rw[Ap,Ap,h];show(Kd t++[])++m.flatten++([10]++[])=_
 rw[Ze,Ze]
theorem Kj(l:List Ex)(i:Nat):Az (Xr l i)=Ah (Bw l i):=Tj _
theorem cC(t:Nat)(k:Int)(nm:Bs)(args:List Ex)(ne:Bool)(T E:List Pc):Az (Ch t k nm args ne T E)=Dd t k nm args ne (Az T) (Az E):=by
 unfold Ch Dd
 by_cases h1:k=1
 ·rw[if_pos h1,if_pos h1]
  refine Fz _ _ _ ?_;simp only[Ap,Kj];simp [Az,Pc.text]
 rw[if_neg h1,if_neg h1]
 by_cases h2:k=2
 ·rw[if_pos h2,if_pos h2]
  refine Fz _ _ _ ?_;simp only[Ap,Kj];simp [Az,Pc.text]
 rw[if_neg h2,if_neg h2]
 by_cases h3:k=3
 ·rw[if_pos h3,if_pos h3]
  rw[Ap,Ap,Ap];refine congr (congrArg _ (Fz _ _ _ ?_)) (congrArg _ (congr (congrArg _ ?_) (Fz _ _ _ ?_)))
  ·simp only[Ap,Kj];simp [Az,Pc.text]
  ·cases ne with
   |true=>rfl
   |false=>
    show Az (Ef t _++E)=ln t _++Az E
    rw[Ap];refine congrArg (· ++_) (Fz _ _ _ ?_);simp [Az,Pc.text]
  ·simp [Az,Pc.text]
 rw[if_neg h3,if_neg h3]
 by_cases h4:k=4
 ·rw[if_pos h4,if_pos h4]
  rw[Ap,Ap];refine congr (congrArg _ (Fz _ _ _ ?_)) (congrArg _ (Fz _ _ _ ?_))
  ·simp only[Ap,Kj];simp [Az,Pc.text]
  ·simp [Az,Pc.text]
 rw[if_neg h4,if_neg h4]
 by_cases h5:k=5
 ·rw[if_pos h5,if_pos h5]
  refine Fz _ _ _ ?_;simp [Az,Pc.text]
 rw[if_neg h5,if_neg h5]
 by_cases h6:k=6
 ·rw[if_pos h6,if_pos h6]
  refine Fz _ _ _ ?_;simp [Az,Pc.text]
 rw[if_neg h6,if_neg h6]
 by_cases h7:k=7
 ·rw[if_pos h7,if_pos h7]
  refine Fz _ _ _ ?_;simp only[Ap,Kj];simp [Az,Pc.text]
 rw[if_neg h7,if_neg h7]
 by_cases h8:k=8
 ·rw[if_pos h8,if_pos h8]
  refine Fz _ _ _ ?_;simp only[Ap,Kj];simp [Az,Pc.text]
 rw[if_neg h8,if_neg h8]
 by_cases h9:k=9
 ·rw[if_pos h9,if_pos h9]
  refine Fz _ _ _ ?_;simp only[Ap,Kj];simp [Az,Pc.text]
 rw[if_neg h9,if_neg h9]
 by_cases h10:k=10
 ·rw[if_pos h10,if_pos h10]
  refine Fz _ _ _ ?_;simp only[Ap,Kj];simp [Az,Pc.text]
 rw[if_neg h10,if_neg h10];rfl
mutual
theorem oE(t:Nat):∀x:St,Az (Gf t x)=Cm t x
 | .mk k nm args thn els=>by rw[Gf,Cm,cC,Mz (t+1) thn,Mz (t+1) els]
theorem Mz(t:Nat):∀l:List St,Az (Fg t l)=Bx t l
 |[]=>rfl
 |x::l=>by rw[Fg,Bx,Ap,oE t x,Mz t l]
end
theorem Ev.map {α β:Type}{g:Nat→PR α}{h:Nat→PR β}{y:PR α}{z:PR β}(hg:Ev g y)(k:∀f,g f=y→h f=z):Ev h z:=by
 obtain⟨a,ha⟩:=hg;exact⟨a,fun f hf=>k f (ha f hf)⟩
inductive WSt:St→Prop
 |set (s:Bs) (x:Ex) (h:Aq s=true) (hx:WEx x):WSt (.mk 1 s [x] [] [])
 |store (s:Bs) (x y:Ex) (h:Aq s=true) (hx:WEx x) (hy:WEx y):WSt (.mk 2 s [x,y] [] [])
 |cond (x:Ex) (a b:List St) (hx:WEx x) (ha:∀y,y∈a→WSt y) (hb:∀y,y∈b→WSt y):WSt (.mk 3 [] [x] a b)
 |loop (x:Ex) (a:List St) (hx:WEx x) (ha:∀y,y∈a→WSt y):WSt (.mk 4 [] [x] a [])
 |brk:WSt (.mk 5 [] [] [] [])
 |cont:WSt (.mk 6 [] [] [] [])
 |ret (x:Ex) (hx:WEx x):WSt (.mk 7 [] [x] [] [])
 |print (x:Ex) (hx:WEx x):WSt (.mk 8 [] [x] [] [])
 |trap (x:Ex) (hx:WEx x):WSt (.mk 9 [] [x] [] [])
 |call (s:Bs) (l:List Ex) (hx:WEx (.mk 5 0 0 s l)):WSt (.mk 10 [] [.mk 5 0 0 s l] [] [])
theorem gI:∀(m:Nat) (x:St),Ec m x=true→WSt x
 |0,x,h=>by simp [Ec]at h
 |m+1,.mk k nm args thn els,h=>by
  unfold Ec at h;simp only[Zg,List.all_eq_true,Bool.not_eq_true']at h;obtain⟨⟨⟨⟨h1,h2⟩,ha⟩,ht⟩,he⟩:=h;replace ha:∀x,x∈args→WEx x:=fun x hx=>jT x (by have:=ha x hx;unfold Cz at this;simp at this;exact this.2)
  replace ht:∀x,x∈thn→WSt x:=fun x hx=>gI m x (ht x hx)
  replace he:∀x,x∈els→WSt x:=fun x hx=>gI m x (he x hx)
  unfold Jo at h1;unfold Qd at h2;simp only[St.kind,St.name,St.args,St.thn,St.els,Bool.or_eq_false_iff,Bool.and_eq_false_iff,Bool.not_eq_false']at h1 h2;obtain⟨⟨⟨⟨q1,q2⟩,q3⟩,q4⟩,q5⟩:=h1;obtain⟨⟨p1,p2⟩,p3⟩:=h2;have one:∀n:Int,Dx k=1→∃x,args=[x]:=by
   intro _ e;rw[e]at q3;simp at q3;exact List.length_eq_one_iff.1 (by omega)
  have k10:1≤k∧k≤10:=by unfold fOk at q1;exact of_decide_eq_true q1
  have kk:k=1∨k=2∨k=3∨k=4∨k=5∨k=6∨k=7∨k=8∨k=9∨k=10:=by omega
  rcases kk with rfl|rfl|rfl|rfl|rfl|rfl|rfl|rfl|rfl|rfl
  all_goals simp [Eg,Ja,Jb]at p1 p2 q4 q5
  ·obtain⟨x,rfl⟩:=one 0 rfl
   subst q4 q5;exact .set nm x (by simpa using p1) (ha x (by simp))
  ·obtain⟨x,y,rfl⟩:∃x y,args=[x,y]:=by
    have:args.length=2:=by simp [Dx]at q3;omega
    match args,this with
    |[x,y],_=>exact⟨x,y,rfl⟩
   subst q4 q5;exact .store nm x y (by simpa using p1) (ha x (by simp)) (ha y (by simp))
  ·obtain⟨x,rfl⟩:=one 0 rfl
   subst p2;exact .cond x thn els (ha x (by simp)) ht he
  ·obtain⟨x,rfl⟩:=one 0 rfl
   subst p2 q5;exact .loop x thn (ha x (by simp)) ht
  ·obtain rfl:args=[]:=by simp [Dx]at q3;exact q3
   subst p2 q4 q5;exact .brk
  ·obtain rfl:args=[]:=by simp [Dx]at q3;exact q3
   subst p2 q4 q5;exact .cont
  ·obtain⟨x,rfl⟩:=one 0 rfl
   subst p2 q4 q5;exact .ret x (ha x (by simp))
  ·obtain⟨x,rfl⟩:=one 0 rfl
   subst p2 q4 q5;exact .print x (ha x (by simp))
  ·obtain⟨x,rfl⟩:=one 0 rfl
   subst p2 q4 q5;exact .trap x (ha x (by simp))
  ·obtain⟨x,rfl⟩:=one 0 rfl
   subst p2 q4 q5;have hx:=ha x (by simp);have h5:x.kind=5:=by simpa using p3
   cases hx with
   |call s l h hl hy=>exact .call s l (.call s l h hl hy)
   |_=>exact absurd h5 (by simp [Ex.kind])
def pZ(l:List Tk):Prop:=Bp [101,108,115,101] l=none
def pY(x:St):Prop:= ∀t ts rest,For ts (Gf t x)→pZ rest→Ev (fun f=>Dl f (ts++rest)) (.ok (x,rest))
theorem Pw {t:Tk}{s u:Bs}(h:isP s t=true)(hu:(s==u)=false):isP u t=false:=Di (by rw[Cv h];simpa using hu)
theorem Ih {t:Nat}{l:List Pc}{ts:List Tk}(h:For ts (Ef t l)):For ts l:=by
 obtain⟨t1,t2,rfl,h1,h2⟩:=For.app (a:=[.g (Kd t)]++l) (b:=[.g [10]]) h;have e2:t2=[]:=For.nil h2;rw[e2,Ze];exact h1
theorem Wg {e:Ex}(h:WEx e){ts:List Tk}{u:Tk}{rest:List Tk}(hf:For ts (Ck e))(hu:u.text=[41]∨u.text=[93]∨u.text=[44]∨u.text=[59]∨u.text=[]):Ev (fun f=>Bf f 1 (ts++u::rest)) (.ok (e,u::rest)):=
 Ld (Wh h).2 hf (Ju hu) (Lk hu) (Qc h)
theorem Nu {f:Nat}{l r:List Tk}{x:St}{u:Tk}(h1:Bp [105,102] l=none)(h2:Bp [119,104,105,108,101] l=none)(h:Aw f l= .ok (x,u::r))(hu:isP [59] u=true):Dl (f+1) l= .ok (x,r):=by
 rw[Dl,h1];dsimp only;rw[h2];dsimp only;rw[h];dsimp only;rw[Cb hu]
theorem Mv {e:Ex}(h:WEx e){a b:Tk}{ts rest:List Tk}(ha:isP [40] a=true)(hf:For ts (Ck e))(hb:isP [41] b=true):Ev (fun f=>Co f (a::(ts++b::rest))) (.ok (e,rest)):=
 Ev.map (Wg h (rest:=rest) hf (.inl (Cv hb))) (fun f e=>by
  (try dsimp only at e ⊢);unfold Co;rw[Cb ha];dsimp only;rw[e];dsimp only;rw[Cb hb])
theorem lI {a:List St}{t:Tk}{r:List Tk}(h:isP [125] t=true):Ev (fun f=>Do f a (t::r)) (.ok (a,r)):=
 Ev.const (fun f=>by(try dsimp only);rw[Do,An h])
theorem iH {a:List St}{x:St}{l r:List Tk}{z:PR (List St)}(h:Bp [125] l=none)(h1:Ev (fun f=>Dl f l) (.ok (x,r)))(h2:Ev (fun f=>Do f (a++[x]) r) z):Ev (fun f=>Do f a l) z:=
 Ev.both h1 h2 (fun f e1 e2=>by(try dsimp only at e1 e2 ⊢);rw[Do,h];dsimp only;rw[e1];exact e2)
theorem Ql {x:St}(h:WSt x)(t:Nat):∃y l,La (Gf t x)=y::l∧y.text≠[125]∧y.text≠[101,108,115,101]∧y.text≠[105,110,116]:=by
 have name:∀(s:Bs),Aq s=true→s≠[125]∧s≠[101,108,115,101]∧s≠[105,110,116]:=by
  intro s h;exact⟨by rintro rfl;exact absurd h (by decide),by rintro rfl;exact absurd h (by decide),by rintro rfl;exact absurd h (by decide)⟩
 have tl:∀l:List Pc,La (Ef t l)=La l:=by
  intro l;show La (l++[.g [10]])=_
  rw[Jc];simp [La]
 cases h with
 |set s x h hx=>rw[Gf];unfold Ch;rw[if_pos rfl,tl];exact⟨_,_,rfl,name s h⟩
 |store s x y h hx hy=>rw[Gf];unfold Ch;rw[if_neg (by decide),if_pos rfl,tl];exact⟨_,_,rfl,name s h⟩
 |cond x a b hx ha hb=>rw[Gf];unfold Ch;rw[if_neg (by decide),if_neg (by decide),if_pos rfl,Jc,tl];exact⟨_,_,rfl,by decide⟩
 |loop x a hx ha=>rw[Gf];unfold Ch;rw[if_neg (by decide),if_neg (by decide),if_neg (by decide),if_pos rfl,Jc,tl];exact⟨_,_,rfl,by decide⟩
 |brk=>rw[Gf];unfold Ch;rw[if_neg (by decide),if_neg (by decide),if_neg (by decide),if_neg (by decide),if_pos rfl,tl];exact⟨_,_,rfl,by decide⟩
 |cont=>rw[Gf];unfold Ch;rw[if_neg (by decide),if_neg (by decide),if_neg (by decide),if_neg (by decide),if_neg (by decide),if_pos rfl,tl];exact⟨_,_,rfl,by decide⟩
 |ret x hx=>rw[Gf];unfold Ch;rw[if_neg (by decide),if_neg (by decide),if_neg (by decide),if_neg (by decide),if_neg (by decide),if_neg (by decide),if_pos rfl,tl];exact⟨_,_,rfl,by decide⟩
 |print x hx=>rw[Gf];unfold Ch;rw[if_neg (by decide),if_neg (by decide),if_neg (by decide),if_neg (by decide),if_neg (by decide),if_neg (by decide),if_neg (by decide),if_pos rfl,tl];exact⟨_,_,rfl,by decide⟩
 |trap x hx=>rw[Gf];unfold Ch;rw[if_neg (by decide),if_neg (by decide),if_neg (by decide),if_neg (by decide),if_neg (by decide),if_neg (by decide),if_neg (by decide),if_neg (by decide),if_pos rfl,tl];exact⟨_,_,rfl,by decide⟩
 |call s l hx=>
  rw[Gf];unfold Ch;rw[if_neg (by decide),if_neg (by decide),if_neg (by decide),if_neg (by decide),if_neg (by decide),if_neg (by decide),if_neg (by decide),if_neg (by decide),if_neg (by decide),if_pos rfl,tl];show ∃y l',La (Ck (.mk 5 0 0 s l)++[sg [59]])=y::l'∧_
  rw[Me]
  cases hx with
  |call _ _ h=>exact⟨_,_,rfl,name s h⟩
theorem Ro {l:List Pc}{ts:List Tk}{y:T3}{l':List T3}(hf:For ts l)(h:La l=y::l'):∃t r,ts=t::r∧t.text=y.text:=by
 unfold For at hf;rw[h]at hf;obtain⟨t,r,e,h1,_⟩:=List.map_eq_cons_iff.1 hf;exact⟨t,r,e,by rw[←h1];rfl⟩
theorem Kn {t:Nat}:∀(l:List St),(∀x,x∈l→WSt x∧pY x)→∀(a:List St) (ts:List Tk) (u:Tk) (rest:List Tk),For ts (Fg t l)→isP [125] u=true→Ev (fun f=>Do f a (ts++u::rest)) (.ok (a++l,rest))
 |[],_,a,ts,u,rest,hf,hu=>by
  rw[Fg]at hf;rw[hf.nil,Ze];exact lI hu
 |x::l,hl,a,ts,u,rest,hf,hu=>by
  rw[Fg]at hf;obtain⟨t1,t2,rfl,h1,h2⟩:=hf.app;have hx:=hl x Zb;have ih:=Kn l (fun y hy=>hl y (Zc _ hy)) (a++[x]) t2 u rest h2 hu;have e:a++x::l=a++[x]++l:=by simp
  rw[e,Za];have hne:pZ (t2++u::rest):=by
   cases l with
   |nil=>
    rw[Fg]at h2;rw[h2.nil];exact Af (Pw hu (by decide))
   |cons y l=>
    rw[Fg]at h2;obtain⟨s1,s2,rfl,g1,g2⟩:=h2.app;obtain⟨w,l',e1,n1,n2,n3⟩:=Ql (hl y (by simp)).1 t;obtain⟨c,r,rfl,e2⟩:=Ro g1 e1;exact Af (Di (by rw[e2];exact n2))
  refine iH ?_ (hx.2 t t1 (t2++u::rest) h1 hne) ih;obtain⟨w,l',e1,n1,n2,n3⟩:=Ql hx.1 t;obtain⟨c,r,rfl,e2⟩:=Ro h1 e1;exact Af (Di (by rw[e2];exact n1))
theorem args_ev {l:List Ex}(hl:∀y,y∈l→WEx y){ts:List Tk}{u:Tk}{rest:List Tk}(h1:For ts (Jq (l.map Ck)))(hu:isP [41] u=true):Ev (fun f=>Gw f (ts++u::rest)) (.ok (l,rest)):=by
 cases l with
 |nil=>
  have:ts=[]:=h1.nil;subst this;exact eN hu
 |cons x l=>
  rw[On]at h1;refine Xx ?_ (Qb l [] x ts rest u (fun y hy=>⟨(Wh (hl y hy)).2,hl y hy⟩) h1 hu);obtain⟨w,l',e',n1,n2⟩:=Tx (hl x Zb) 0;have e0:Da x 0=Ck x:=by
   unfold Da Gy;rw[if_neg];rintro⟨q1,q2⟩;have:=Qc (hl x Zb);unfold cG at this;rw[if_pos q1]at this;omega
  rw[e0]at e';obtain⟨a,b,rfl,e2⟩:=Ro h1 (by rw[Jc,e'];rfl);rw[Zf];exact Af (Di (by rw[e2];exact n1))
theorem Kq {t:Tk}{r:List Tk}(h:t.kind=1):Er (t::r)= .ok (t.text,r):=by
 have e:Ll 1 (t::r)= .ok (t,r):=if_pos h;unfold Er;rw[e]
theorem stp1(t:Nat)(s:Bs)(x:Ex):Gf t (.mk 1 s [x] [] [])=Ef t (nmp s:: .g [32]::sg [61]:: .g [32]::(Ck x++[sg [59]])):=by
 rw[Gf];unfold Ch;rw[if_pos rfl];simp only[Za,Zf,Zd];rfl
theorem stp2(t:Nat)(s:Bs)(x y:Ex):Gf t (.mk 2 s [x,y] [] [])=Ef t (nmp s::sg [91]::(Ck x++sg [93]:: .g [32]::sg [61]:: .g [32]::(Ck y++[sg [59]]))):=by
 rw[Gf];unfold Ch;rw[if_neg (by decide),if_pos rfl];simp only[Za,Zf,Zd];rfl
theorem stp3(t:Nat)(x:Ex)(a b:List St):Gf t (.mk 3 [] [x] a b)=Ef t (wd [105,102]:: .g [32]::sg [40]::(Ck x++[sg [41],.g [32],sg [123]]))++(Fg (t+1) a++((if b.isEmpty then []else Ef t [sg [125],.g [32],wd [101,108,115,101],.g [32],sg [123]]++Fg (t+1) b)++Ef t [sg [125]])):=by
 rw[Gf];unfold Ch;rw[if_neg (by decide),if_neg (by decide),if_pos rfl];simp only[Za,Zf,Zd];rfl
theorem stp4(t:Nat)(x:Ex)(a:List St):Gf t (.mk 4 [] [x] a [])=Ef t (wd [119,104,105,108,101]:: .g [32]::sg [40]::(Ck x++[sg [41],.g [32],sg [123]]))++(Fg (t+1) a++Ef t [sg [125]]):=by
 rw[Gf];unfold Ch;rw[if_neg (by decide),if_neg (by decide),if_neg (by decide),if_pos rfl];simp only[Za,Zf,Zd];rfl
theorem stp5(t:Nat):Gf t (.mk 5 [] [] [] [])=Ef t [wd [98,114,101,97,107],sg [59]]:=by
 rw[Gf];unfold Ch;rw[if_neg (by decide),if_neg (by decide),if_neg (by decide),if_neg (by decide),if_pos rfl]
theorem stp6(t:Nat):Gf t (.mk 6 [] [] [] [])=Ef t [wd [99,111,110,116,105,110,117,101],sg [59]]:=by
 rw[Gf];unfold Ch;rw[if_neg (by decide),if_neg (by decide),if_neg (by decide),if_neg (by decide),if_neg (by decide),if_pos rfl]
theorem stp7(t:Nat)(x:Ex):Gf t (.mk 7 [] [x] [] [])=Ef t (wd [114,101,116,117,114,110]:: .g [32]::(Ck x++[sg [59]])):=by
 rw[Gf];unfold Ch;rw[if_neg (by decide),if_neg (by decide),if_neg (by decide),if_neg (by decide),if_neg (by decide),if_neg (by decide),if_pos rfl];simp only[Za,Zf,Zd];rfl
theorem stp8(t:Nat)(x:Ex):Gf t (.mk 8 [] [x] [] [])=Ef t (wd [112,114,105,110,116]::sg [40]::(Ck x++[sg [41],sg [59]])):=by
 rw[Gf];unfold Ch;rw[if_neg (by decide),if_neg (by decide),if_neg (by decide),if_neg (by decide),if_neg (by decide),if_neg (by decide),if_neg (by decide),if_pos rfl];simp only[Za,Zf,Zd];rfl
theorem stp9(t:Nat)(x:Ex):Gf t (.mk 9 [] [x] [] [])=Ef t (wd [116,114,97,112]::sg [40]::(Ck x++[sg [41],sg [59]])):=by
 rw[Gf];unfold Ch;rw[if_neg (by decide),if_neg (by decide),if_neg (by decide),if_neg (by decide),if_neg (by decide),if_neg (by decide),if_neg (by decide),if_neg (by decide),if_pos rfl];simp only[Za,Zf,Zd];rfl
theorem rF(t:Nat)(s:Bs)(l:List Ex):Gf t (.mk 10 [] [.mk 5 0 0 s l] [] [])=Ef t (nmp s::sg [40]::(Jq (l.map Ck)++[sg [41],sg [59]])):=by
 rw[Gf];unfold Ch;rw[if_neg (by decide),if_neg (by decide),if_neg (by decide),if_neg (by decide),if_neg (by decide),if_neg (by decide),if_neg (by decide),if_neg (by decide),if_neg (by decide),if_pos rfl];show Ef t (Ck (.mk 5 0 0 s l)++[sg [59]])=_
 rw[Me];simp only[Za,Zf,Zd]
theorem Op {f:Nat}{a:Tk}{l r:List Tk}{x:St}{u:Tk}{s:Bs}(ha:isP s a=true)(h1:(s==[105,102])=false)(h2:(s==[119,104,105,108,101])=false)(h:Aw f (a::l)= .ok (x,u::r))(hu:isP [59] u=true):Dl (f+1) (a::l)= .ok (x,r):=
 Nu (Af (Pw ha h1)) (Af (Pw ha h2)) h hu
theorem rW {x:St}(h:WSt x):pY x:=by
 induction h with
 |set s x h hx=>
  intro t ts rest hf hne;rw[stp1]at hf;obtain⟨a,r,rfl,ha,hr⟩:=(Ih hf).cons;obtain⟨e,r,rfl,he,hr⟩:=(For.gap hr).cons;obtain⟨t1,t2,rfl,h1,h2⟩:=(For.gap hr).app;obtain⟨u,q,rfl,hu,hq⟩:=h2.cons;have hu:=Cq hu;have he:=Cq he;obtain⟨k1,k2,k3⟩:=Et ha;rw[show a::e::(t1++u::q)++rest=a::e::(t1++u::rest)from by rw[hq.nil];simp];refine Ev.one (Wg hx (rest:=rest) h1 (.inr (.inr (.inr (.inl (Cv hu)))))) (fun f e1=> ?_);(try dsimp only at e1 ⊢);have nk:∀s,isP s a=false:=fun s=>Mm (.inl k1)
  refine Nu (Af (nk _)) (Af (nk _)) ?_ hu;unfold Aw
  iterate 5 (rw[Af (nk _)];dsimp only)
  rw[Kq k1];dsimp only;rw[Af (Pw he (by decide))];dsimp only;rw[Af (Pw he (by decide))];dsimp only;rw[Cb he];dsimp only;rw[e1];dsimp only;rw[k2]
 |store s x y h hx hy=>
  intro t ts rest hf hne;rw[stp2]at hf;obtain⟨a,r,rfl,ha,hr⟩:=(Ih hf).cons;obtain⟨o,r,rfl,ho,hr⟩:=hr.cons;obtain⟨t1,t2,rfl,h1,h2⟩:=hr.app;obtain⟨c,r,rfl,hc,hr⟩:=h2.cons;obtain⟨e,r,rfl,he,hr⟩:=(For.gap hr).cons;obtain⟨t3,t4,rfl,h3,h4⟩:=(For.gap hr).app;obtain⟨u,q,rfl,hu,hq⟩:=h4.cons;have hu:=Cq hu;have he:=Cq he;have ho:=Cq ho;have hc:=Cq hc;obtain⟨k1,k2,k3⟩:=Et ha;rw[show a::o::(t1++c::e::(t3++u::q))++rest=a::o::(t1++c::e::(t3++u::rest))from by rw[hq.nil];simp];refine Ev.both (Wg hx (rest:=e::(t3++u::rest)) h1 (.inr (.inl (Cv hc)))) (Wg hy (rest:=rest) h3 (.inr (.inr (.inr (.inl (Cv hu)))))) (fun f e1 e2=> ?_);(try dsimp only at e1 e2 ⊢);have nk:∀s,isP s a=false:=fun s=>Mm (.inl k1)
  refine Nu (Af (nk _)) (Af (nk _)) ?_ hu;unfold Aw
  iterate 5 (rw[Af (nk _)];dsimp only)
  rw[Kq k1];dsimp only;rw[Af (Pw ho (by decide))];dsimp only;rw[An ho];dsimp only;rw[e1];dsimp only;rw[Cb hc];dsimp only;rw[Cb he];dsimp only;rw[e2];dsimp only;rw[k2]
 |cond x a b hx ha hb iha ihb=>
  intro t ts rest hf hne;rw[stp3]at hf;obtain⟨q1,q2,rfl,g1,g2⟩:=hf.app;obtain⟨i,r,rfl,hi,hr⟩:=(Ih g1).cons;obtain⟨p,r,rfl,hp,hr⟩:=(For.gap hr).cons;obtain⟨tx,r,rfl,h1,hr⟩:=hr.app;obtain⟨c,r,rfl,hc,hr⟩:=hr.cons;obtain⟨o,r,rfl,ho,hr⟩:=(For.gap hr).cons;rw[hr.nil];obtain⟨ta,r,rfl,hta,hr⟩:=g2.app;obtain⟨te,r,rfl,hte,hr⟩:=hr.app;obtain⟨z,r,rfl,hz,hr⟩:=(Ih hr).cons;rw[hr.nil];have hi:=Lq hi;have hp:=Cq hp;have hc:=Cq hc;have ho:=Cq ho;have hz:=Cq hz;have ga:=fun u rest hu=>Kn a (fun y hy=>⟨ha y hy,iha y hy⟩) [] ta u rest hta hu
  cases b with
  |nil=>
   rw[if_pos (show([]:List St).isEmpty=true from rfl)]at hte;rw[hte.nil];rw[show i::p::(tx++[c,o])++(ta++([]++[z]))++rest=i::(p::(tx++c::(o::(ta++z::rest))))from by simp];refine Ev.both (Mv hx (rest:=o::(ta++z::rest)) hp h1 hc) (ga z rest hz) (fun f e1 e2=> ?_);(try dsimp only at e1 e2 ⊢);rw[Dl,An hi];dsimp only;rw[e1];dsimp only;rw[Cb ho];dsimp only;rw[e2];dsimp only;rw[show Bp [101,108,115,101] rest=none from hne];rfl
  |cons y l=>
   rw[if_neg (by simp)]at hte;obtain⟨r1,tb,rfl,f1,f2⟩:=hte.app;obtain⟨z0,r,rfl,hz0,hr⟩:=(Ih f1).cons;obtain⟨el,r,rfl,hel,hr⟩:=(For.gap hr).cons;obtain⟨o2,r,rfl,ho2,hr⟩:=(For.gap hr).cons;rw[hr.nil];have hz0:=Cq hz0;have hel:=Lq hel;have ho2:=Cq ho2;have gb:=Kn (y::l) (fun x hx=>⟨hb x hx,ihb x hx⟩) [] tb z rest f2 hz;rw[show i::p::(tx++[c,o])++(ta++([z0,el,o2]++tb++[z]))++rest=i::(p::(tx++c::(o::(ta++z0::(el::o2::(tb++z::rest))))))from by simp];obtain⟨n1,e1⟩:=Mv hx (rest:=o::(ta++z0::(el::o2::(tb++z::rest)))) hp h1 hc;obtain⟨n2,e2⟩:=ga z0 (el::o2::(tb++z::rest)) hz0;obtain⟨n3,e3⟩:=gb;refine Ev.succ ⟨max n1 (max n2 n3),fun f hf=> ?_⟩;have e1:=e1 f (by omega);have e2:=e2 f (by omega);have e3:=e3 f (by omega);(try dsimp only at e1 e2 e3 ⊢);rw[Dl,An hi];dsimp only;rw[e1];dsimp only;rw[Cb ho];dsimp only;rw[e2];dsimp only;rw[An hel];dsimp only;rw[Cb ho2];dsimp only;rw[e3];rfl
 |loop x a hx ha iha=>
  intro t ts rest hf hne;rw[stp4]at hf;obtain⟨q1,q2,rfl,g1,g2⟩:=hf.app;obtain⟨i,r,rfl,hi,hr⟩:=(Ih g1).cons;obtain⟨p,r,rfl,hp,hr⟩:=(For.gap hr).cons;obtain⟨tx,r,rfl,h1,hr⟩:=hr.app;obtain⟨c,r,rfl,hc,hr⟩:=hr.cons;obtain⟨o,r,rfl,ho,hr⟩:=(For.gap hr).cons;rw[hr.nil];obtain⟨ta,r,rfl,hta,hr⟩:=g2.app;obtain⟨z,r,rfl,hz,hr⟩:=(Ih hr).cons;rw[hr.nil];have hi:=Lq hi;have hp:=Cq hp;have hc:=Cq hc;have ho:=Cq ho;have hz:=Cq hz;have ga:=Kn a (fun y hy=>⟨ha y hy,iha y hy⟩) [] ta z rest hta hz;rw[show i::p::(tx++[c,o])++(ta++[z])++rest=i::(p::(tx++c::(o::(ta++z::rest))))from by simp];refine Ev.both (Mv hx (rest:=o::(ta++z::rest)) hp h1 hc) ga (fun f e1 e2=> ?_);(try dsimp only at e1 e2 ⊢);rw[Dl,Af (Pw hi (by decide))];dsimp only;rw[An hi];dsimp only;rw[e1];dsimp only;rw[Cb ho];dsimp only;rw[e2];rfl
 |brk=>
  intro t ts rest hf hne;rw[stp5]at hf;obtain⟨a,r,rfl,ha,hr⟩:=(Ih hf).cons;obtain⟨u,q,rfl,hu,hq⟩:=hr.cons;rw[hq.nil];have hu:=Cq hu;have ha:=Lq ha;refine Ev.const (fun f=> ?_);(try dsimp only);refine Op ha (by decide) (by decide) ?_ hu;unfold Aw;rw[An ha];rfl
 |cont=>
  intro t ts rest hf hne;rw[stp6]at hf;obtain⟨a,r,rfl,ha,hr⟩:=(Ih hf).cons;obtain⟨u,q,rfl,hu,hq⟩:=hr.cons;rw[hq.nil];have hu:=Cq hu;have ha:=Lq ha;refine Ev.const (fun f=> ?_);(try dsimp only);refine Op ha (by decide) (by decide) ?_ hu;unfold Aw;rw[Af (Pw ha (by decide))];dsimp only;rw[An ha];rfl
 |ret x hx=>
  intro t ts rest hf hne;rw[stp7]at hf;obtain⟨a,r,rfl,ha,hr⟩:=(Ih hf).cons;obtain⟨t1,t2,rfl,h1,h2⟩:=(For.gap hr).app;obtain⟨u,q,rfl,hu,hq⟩:=h2.cons;have hu:=Cq hu;have ha:=Lq ha;rw[show a::(t1++u::q)++rest=a::(t1++u::rest)from by rw[hq.nil];simp];refine Ev.one (Wg hx (rest:=rest) h1 (.inr (.inr (.inr (.inl (Cv hu)))))) (fun f e1=> ?_);(try dsimp only at e1 ⊢);refine Op ha (by decide) (by decide) ?_ hu;unfold Aw
  iterate 2 (rw[Af (Pw ha (by decide))];dsimp only)
  rw[An ha];dsimp only;rw[e1]
 |print x hx=>
  intro t ts rest hf hne;rw[stp8]at hf;obtain⟨a,r,rfl,ha,hr⟩:=(Ih hf).cons;obtain⟨p,r,rfl,hp,hr⟩:=hr.cons;obtain⟨t1,t2,rfl,h1,h2⟩:=hr.app;obtain⟨c,r,rfl,hc,hr⟩:=h2.cons;obtain⟨u,q,rfl,hu,hq⟩:=hr.cons;have hu:=Cq hu;have ha:=Lq ha;have hp:=Cq hp;have hc:=Cq hc;rw[show a::p::(t1++c::u::q)++rest=a::(p::(t1++c::(u::rest)))from by rw[hq.nil];simp];refine Ev.one (Mv hx (rest:=u::rest) hp h1 hc) (fun f e1=> ?_);(try dsimp only at e1 ⊢);refine Op ha (by decide) (by decide) ?_ hu;unfold Aw
  iterate 3 (rw[Af (Pw ha (by decide))];dsimp only)
  rw[An ha];dsimp only;rw[e1]
 |trap x hx=>
  intro t ts rest hf hne;rw[stp9]at hf;obtain⟨a,r,rfl,ha,hr⟩:=(Ih hf).cons;obtain⟨p,r,rfl,hp,hr⟩:=hr.cons;obtain⟨t1,t2,rfl,h1,h2⟩:=hr.app;obtain⟨c,r,rfl,hc,hr⟩:=h2.cons;obtain⟨u,q,rfl,hu,hq⟩:=hr.cons;have hu:=Cq hu;have ha:=Lq ha;have hp:=Cq hp;have hc:=Cq hc;rw[show a::p::(t1++c::u::q)++rest=a::(p::(t1++c::(u::rest)))from by rw[hq.nil];simp];refine Ev.one (Mv hx (rest:=u::rest) hp h1 hc) (fun f e1=> ?_);(try dsimp only at e1 ⊢);refine Op ha (by decide) (by decide) ?_ hu;unfold Aw
  iterate 4 (rw[Af (Pw ha (by decide))];dsimp only)
  rw[An ha];dsimp only;rw[e1]
 |call s l hx=>
  intro t ts rest hf hne;rw[rF]at hf;have hl:∀y,y∈l→WEx y:=by cases hx with|call _ _ _ _ h=>exact h
  obtain⟨a,r,rfl,ha,hr⟩:=(Ih hf).cons;obtain⟨p,r,rfl,hp,hr⟩:=hr.cons;obtain⟨t1,t2,rfl,h1,h2⟩:=hr.app;obtain⟨c,r,rfl,hc,hr⟩:=h2.cons;obtain⟨u,q,rfl,hu,hq⟩:=hr.cons;have hu:=Cq hu;have hp:=Cq hp;have hc:=Cq hc;obtain⟨k1,k2,k3⟩:=Et ha;rw[show a::p::(t1++c::u::q)++rest=a::p::(t1++c::(u::rest))from by rw[hq.nil];simp];refine Ev.one (args_ev hl (rest:=u::rest) h1 hc) (fun f e1=> ?_);(try dsimp only at e1 ⊢);have nk:∀s,isP s a=false:=fun s=>Mm (.inl k1)
  refine Nu (Af (nk _)) (Af (nk _)) ?_ hu;unfold Aw
  iterate 5 (rw[Af (nk _)];dsimp only)
  rw[Kq k1];dsimp only;rw[An hp];dsimp only;rw[e1];dsimp only;rw[k2]
def Ho(x:Bs):List Pc:=[wd [105,110,116],.g [32],nmp x]
def Rl(x:Bs):List Pc:=Ef 1 [wd [105,110,116],.g [32],nmp x,sg [59]]
def Vg(f:Fu):List Pc:=Jq (f.params.map Ho)++([sg [41],.g [32],sg [123],.g [10]]++(f.locals.flatMap Rl++(Fg 1 f.body++Ef 0 [sg [125]])))
def Xd(f:Fu):List Pc:=wd [105,110,116]:: .g [32]::nmp f.name::sg [40]::Vg f
def dQ(a:Ar):List Pc:=Ef 0 [wd [105,110,116],.g [32],nmp a.name,sg [91],nu a.size,sg [93],sg [59]]
def rR(p:Pr):List Pc:=p.arrays.flatMap dQ++p.funcs.flatMap Xd
theorem Pi {α:Type}(f:α→List Pc)(g:α→Bs)(h:∀x,Az (f x)=g x):∀l:List α,Az (l.flatMap f)=l.flatMap g
 |[]=>rfl
 |x::l=>by rw[Zi,Zi,Ap,h,Pi f g h l]
theorem nF(f:Fu):Az (Xd f)=Ip f:=by
 unfold Xd Vg Ip Fl;rw[show wd [105,110,116]::Pc.g [32]::nmp f.name::sg [40]::(Jq (f.params.map Ho)++([sg [41],.g [32],sg [123],.g [10]]++(f.locals.flatMap Rl++(Fg 1 f.body++Ef 0 [sg [125]]))))=[wd [105,110,116],Pc.g [32],nmp f.name,sg [40]]++(Jq (f.params.map Ho)++([sg [41],.g [32],sg [123],.g [10]]++(f.locals.flatMap Rl++(Fg 1 f.body++Ef 0 [sg [125]]))))from rfl];rw[Ap,Ap,Ap,Ap,Ap,dP,Mz,List.map_map];rw[Pi Rl (fun x=>ln 1 [[105,110,116,32],x,[59]]) (fun x=>Fz _ _ _ (by simp [Az,Pc.text]))];rw[Fz 0 [sg [125]] [[125]] rfl];rw[show(Az∘Ho)=Jz from funext fun x=>by simp [Ho,Az,Pc.text,Jz]];simp [Az,Pc.text]
theorem lH(a:Ar):Az (dQ a)=Nx a:=Fz _ _ _ (by simp [Az,Pc.text])
theorem nN(p:Pr):Az (rR p)=Ey p:=by
 unfold rR Ey Ek Fc;rw[Ap,Pi dQ Nx lH,Pi Xd Ip nF]
def WFu(f:Fu):Prop:=Aq f.name=true∧(∀x,x∈f.params→Aq x=true)∧(∀x,x∈f.locals→Aq x=true)∧∀x,x∈f.body→WSt x
theorem wfu_of {f:Fu}(h:Gb f=true):WFu f:=by
 unfold Gb at h;simp only[Zg,List.all_eq_true]at h;obtain⟨⟨⟨⟨h1,h2⟩,h3⟩,h4⟩,h5⟩:=h;exact⟨h1,h2,h3,fun x hx=>gI 40 x (h5 x hx)⟩
theorem Ye:∀(l:List Bs) (a:List Bs) (x:Bs) (ts rest:List Tk) (t:Tk),For ts (Ho x++l.flatMap (fun y=>[sg [44],.g [32]]++Ho y))→isP [41] t=true→
  Ev (fun f=>Kp f a (ts++t::rest)) (.ok (a++x::l,rest))
 |[],a,x,ts,rest,t,hf,ht=>by
  rw[List.flatMap_nil,Ze]at hf;obtain⟨i,r,rfl,hi,hr⟩:=For.cons (show For ts (wd [105,110,116]:: .g [32]::[nmp x])from hf);obtain⟨n,r,rfl,hn,hr⟩:=(For.gap hr).cons;obtain⟨k1,k2,k3⟩:=Et hn;rw[hr.nil];refine Ev.const (fun f=> ?_);(try dsimp only);show Kp (f+1) a (i::n::t::rest)=_
  rw[Kp,Cb (Lq hi)];dsimp only;rw[Kq k1];dsimp only;rw[Af (Pw ht (by decide))];dsimp only;rw[Cb ht];dsimp only;rw[k2]
 |y::l,a,x,ts,rest,t,hf,ht=>by
  rw[Zi]at hf;obtain⟨i,r,rfl,hi,hr⟩:=For.cons (show For ts (wd [105,110,116]:: .g [32]::nmp x::sg [44]:: .g [32]::(Ho y++l.flatMap (fun y=>[sg [44],.g [32]]++Ho y)))from hf);obtain⟨n,r,rfl,hn,hr⟩:=(For.gap hr).cons;obtain⟨c,r,rfl,hc,hr⟩:=hr.cons;obtain⟨k1,k2,k3⟩:=Et hn;have hc:=Cq hc;have ih:=Ye l (a++[x]) y r rest t (For.gap hr) ht;rw[show a++x::y::l=a++[x]++y::l from by simp];refine Ev.one ih (fun f e1=> ?_);(try dsimp only at e1 ⊢);show Kp (f+1) a (i::n::c::(r++t::rest))=_
  rw[Kp,Cb (Lq hi)];dsimp only;rw[Kq k1];dsimp only;rw[An hc];dsimp only;rw[k2];exact e1
theorem Yh:∀(l:List Bs) (a:List Bs) (ts rest:List Tk),For ts (l.flatMap Rl)→Bp [105,110,116] rest=none→
  Ev (fun f=>Hb f a (ts++rest)) (.ok (a++l,rest))
 |[],a,ts,rest,hf,ht=>by
  rw[For.nil (show For ts []from hf),Ze];refine Ev.const (fun f=> ?_);(try dsimp only);show Hb (f+1) a rest=_
  rw[Hb,ht]
 |x::l,a,ts,rest,hf,ht=>by
  rw[Zi]at hf;obtain⟨t1,t2,rfl,h1,h2⟩:=hf.app;obtain⟨i,r,rfl,hi,hr⟩:=(Ih h1).cons;obtain⟨n,r,rfl,hn,hr⟩:=(For.gap hr).cons;obtain⟨c,r,rfl,hc,hr⟩:=hr.cons;rw[hr.nil];obtain⟨k1,k2,k3⟩:=Et hn;have ih:=Yh l (a++[x]) t2 rest h2 ht;rw[show a++x::l=a++[x]++l from by simp];refine Ev.one ih (fun f e1=> ?_);(try dsimp only at e1 ⊢);show Hb (f+1) a (i::n::c::(t2++rest))=_
  rw[Hb,An (Lq hi)];dsimp only;rw[Kq k1];dsimp only;rw[Cb (Cq hc)];dsimp only;rw[k2];exact e1
theorem lP {t:Nat}{l:List St}(hl:∀x,x∈l→WSt x){ts rest:List Tk}{u:Tk}(hf:For ts (Fg t l))(hu:isP [125] u=true):Bp [105,110,116] (ts++u::rest)=none:=by
 cases l with
 |nil=>
  rw[Fg]at hf;rw[hf.nil];exact Af (Pw hu (by decide))
 |cons y l=>
  rw[Fg]at hf;obtain⟨s1,s2,rfl,g1,g2⟩:=hf.app;obtain⟨w,l',e1,n1,n2,n3⟩:=Ql (hl y Zb) t;obtain⟨c,r,rfl,e2⟩:=Ro g1 e1;exact Af (Di (by rw[e2];exact n3))
theorem mI {g:Fu}(hg:WFu g){ts rest:List Tk}(hf:For ts (Vg g)):Ev (fun f=>Ge f g.name (ts++rest)) (.ok (g,rest)):=by
 obtain⟨nm,ps,ls,bd⟩:=g;obtain⟨_,_,_,hb⟩:=hg;dsimp only[Vg]at hf hb ⊢;obtain⟨tp,r,rfl,hp,hr⟩:=hf.app;have hr:For r (sg [41]:: .g [32]::sg [123]:: .g [10]::(ls.flatMap Rl++(Fg 1 bd++Ef 0 [sg [125]]))):=hr;obtain⟨c,r,rfl,hc,hr⟩:=For.cons hr;obtain⟨o,r,rfl,ho,hr⟩:=For.cons (For.gap hr);obtain⟨tl,r,rfl,hl,hr⟩:=(For.gap hr).app;obtain⟨tb,r,rfl,hb2,hr⟩:=hr.app;obtain⟨z,r,rfl,hz,hr⟩:=(Ih hr).cons;rw[hr.nil];have hz:=Cq hz;have hc:=Cq hc;have ho:=Cq ho;obtain⟨n1,e1⟩:=Yh ls [] tl (tb++z::rest) hl (lP hb hb2 hz);obtain⟨n2,e2⟩:=Kn bd (fun x hx=>⟨hb x hx,rW (hb x hx)⟩) [] tb z rest hb2 hz;rw[show tp++c::o::(tl++(tb++[z]))++rest=tp++c::o::(tl++(tb++z::rest))from by simp]
 cases ps with
 |nil=>
  rw[For.nil (show For tp []from hp)];refine⟨max n1 n2,fun f hf=> ?_⟩;have e1:=e1 f (by omega);have e2:=e2 f (by omega);(try dsimp only at e1 e2 ⊢);unfold Ge;rw[show([]:List Tk)++c::o::(tl++(tb++z::rest))=c::o::(tl++(tb++z::rest))from rfl,An hc];dsimp only;rw[Cb ho];dsimp only;rw[e1];dsimp only;rw[e2];rfl
 |cons x l=>
  have hp':For tp (Ho x++l.flatMap (fun y=>[sg [44],.g [32]]++Ho y)):=by
   have e:Jq ((x::l).map Ho)=Ho x++l.flatMap (fun y=>[sg [44],.g [32]]++Ho y):=by
    show Ho x++(l.map Ho).flatMap _=_;rw[List.flatMap_map]
   rw[←e];exact hp
  obtain⟨n3,e3⟩:=Ye l [] x tp (o::(tl++(tb++z::rest))) c hp' hc;have hno:Bp [41] (tp++c::o::(tl++(tb++z::rest)))=none:=by
   obtain⟨i,r,rfl,hi,_⟩:=For.cons (show For tp (wd [105,110,116]:: .g [32]::nmp x::l.flatMap (fun y=>[sg [44],.g [32]]++Ho y))from hp');exact Af (Pw (Lq hi) (by decide))
  refine⟨max n1 (max n2 n3),fun f hf=> ?_⟩;have e1:=e1 f (by omega);have e2:=e2 f (by omega);have e3:=e3 f (by omega);(try dsimp only at e1 e2 e3 ⊢);unfold Ge;rw[hno];dsimp only;rw[e3];dsimp only;rw[Cb ho];dsimp only;rw[e1];dsimp only;rw[e2];rfl
theorem Yn:∀(l:List Fu) (p:Pr) (ts:List Tk) (u:Tk),(∀x,x∈l→WFu x)→For ts (l.flatMap Xd)→u.kind=5→Ev (fun f=>Fo f p (ts++[u])) (.ok ({p with funcs:=p.funcs++l},[u]))
 |[],p,ts,u,hl,hf,hu=>by
  rw[For.nil (show For ts []from hf),Ze];refine Ev.const (fun f=> ?_);(try dsimp only);show Fo (f+1) p [u]=_
  rw[Fo,if_pos (show(([u]:List Tk).head?.map (·.kind)).getD 0=5 from hu)]
 |g::l,p,ts,u,hl,hf,hu=>by
  rw[Zi]at hf;obtain⟨t1,t2,rfl,h1,h2⟩:=hf.app;obtain⟨i,r,rfl,hi,hr⟩:=For.cons (show For t1 (wd [105,110,116]:: .g [32]::nmp g.name::sg [40]::Vg g)from h1);obtain⟨n,r,rfl,hn,hr⟩:=(For.gap hr).cons;obtain⟨o,r,rfl,ho,hr⟩:=hr.cons;obtain⟨k1,k2,k3⟩:=Et hn;obtain⟨j1,_,_⟩:=Et hi;have ho:=Cq ho;have ih:=Yn l {p with funcs:=p.funcs++[g]} t2 u (fun x hx=>hl x (Zc _ hx)) h2 hu;rw[show({p with funcs:=p.funcs++g::l}:Pr)= {({p with funcs:=p.funcs++[g]}:Pr)with funcs:=({p with funcs:=p.funcs++[g]}:Pr).funcs++l}from by simp];obtain⟨n1,e1⟩:=mI (hl g Zb) (rest:=t2++[u]) hr;obtain⟨n2,e2⟩:=ih;refine Ev.succ ⟨max n1 n2,fun f hf=> ?_⟩;have e1:=e1 f (by omega);have e2:=e2 f (by omega);(try dsimp only at e1 e2 ⊢);rw[show i::n::o::r++t2++[u]=i::n::o::(r++(t2++[u]))from by simp];rw[Fo,if_neg (show ¬((i::n::o::(r++(t2++[u]))).head?.map (·.kind)).getD 0=5 from by show ¬i.kind=5;rw[j1];decide),Cb (Lq hi)];dsimp only;rw[Kq k1];dsimp only;rw[show(if p.funcs.isEmpty=true then Bp [91] (o::(r++(t2++[u])))else none)=none from by
   split
   ·exact Af (Pw ho (by decide))
   ·rfl]
  dsimp only;rw[Cb ho];dsimp only;rw[k2,e1];exact e2
theorem fD:∀(m:List Ar) (A:List Ar) (l:List Fu) (ts:List Tk) (u:Tk),(∀x,x∈l→WFu x)→For ts (m.flatMap dQ++l.flatMap Xd)→u.kind=5→Ev (fun f=>Fo f ⟨A,[]⟩ (ts++[u])) (.ok (⟨A++m,l⟩,[u]))
 |[],A,l,ts,u,hl,hf,hu=>by
  rw[Ze];exact Yn l ⟨A,[]⟩ ts u hl hf hu
 |a::m,A,l,ts,u,hl,hf,hu=>by
  rw[Zi,Za]at hf;obtain⟨t1,t2,rfl,h1,h2⟩:=hf.app;obtain⟨i,r,rfl,hi,hr⟩:=(Ih h1).cons;obtain⟨n,r,rfl,hn,hr⟩:=(For.gap hr).cons;obtain⟨o,r,rfl,ho,hr⟩:=hr.cons;obtain⟨s,r,rfl,hs,hr⟩:=hr.cons;obtain⟨c,r,rfl,hc,hr⟩:=hr.cons;obtain⟨e,r,rfl,he,hr⟩:=hr.cons;rw[hr.nil];obtain⟨k1,k2,k3⟩:=Et hn;obtain⟨s1,s2,s3⟩:=Et hs;obtain⟨j1,_,_⟩:=Et hi;have ho:=Cq ho;have ih:=fD m (A++[a]) l t2 u hl h2 hu;rw[show A++a::m=A++[a]++m from by simp];refine Ev.one ih (fun f e2=> ?_);(try dsimp only at e2 ⊢);rw[show [i,n,o,s,c,e]++t2++[u]=i::n::o::s::c::e::(t2++[u])from by simp];rw[Fo,if_neg (show ¬((i::n::o::s::c::e::(t2++[u])).head?.map (·.kind)).getD 0=5 from by show ¬i.kind=5;rw[j1];decide),Cb (Lq hi)];dsimp only;rw[Kq k1];dsimp only;rw[if_pos (show List.isEmpty ([]:List Fu)=true from rfl),An ho];dsimp only;rw[show Ll 3 (s::c::e::(t2++[u]))= .ok (s,c::e::(t2++[u]))from if_pos s1];dsimp only;rw[Cb (Cq hc)];dsimp only;rw[Cb (Cq he)];dsimp only;rw[k2,s3];exact e2
theorem fW {p:Pr}(hp:∀x,x∈p.funcs→WFu x){ts:List Tk}{u:Tk}(hf:For ts (rR p))(hu:u.kind=5):Ev (fun f=>Fo f ⟨[],[]⟩ (ts++[u])) (.ok (p,[u])):=fD p.arrays [] p.funcs ts u hp hf hu
end Go.Proofs.YtcfpfnoldgnloaaGreatDoor

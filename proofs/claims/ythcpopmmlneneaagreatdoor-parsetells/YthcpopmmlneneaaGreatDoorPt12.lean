/-
  Reference 04: expr, tight, args, at any fuel that is enough; inside. Condition: the parser lies in memory.
-/
import Derived.Test.YthcpopmmlneneaaGreatDoorPt08
import Derived.Deep.CutRange
import Derived.Test.YthcpopmmlneneaaGreatDoorPt04
import Derived.Test.YthcpopmmlneneaaGreatDoorPt06
import Derived.Deep.CutBlock
set_option linter.unusedVariables false
set_option linter.unusedSimpArgs false
namespace Go.Proofs.YthcpopmmlneneaaGreatDoor
open Go.RowKit Go.Proofs.Tryz
set_option maxHeartbeats 20000000
set_option maxRecDepth 100000
open Go renaming World→Zm,Value→Zo,Calls→Zp,bodyPost_ret→Zq
open Go.RowKit renaming Below→Zn
open Go.Lib renaming hid→Za
open Calls renaming mono→Zb
open Nat renaming le_refl→Zc,le_trans→Zh
open SFr renaming of_below→Zd
open Go.Proofs.Tryz renaming prog→Ze,results79→Zi
open Ad renaming new→Zf
open Go.RowKit.Below renaming refl→Zg
open Bool renaming and_eq_true→Zj
open IntWalk renaming i64_in→Zk
open List renaming find?_eq_none→Zl
def Gq:List Int:=(List.range 16).map fun i:Nat=>(i:Int)+1
def aM(lv:Int):List Tk→Option (Int ×List Tk)
 |[]=>none
 |t::r=>match Gq.find? fun op=>isP (As op) t && decide (Ao op=lv)with
  |some op=>some (op,r)
  |none=>none
mutual
def rE:Nat→Int→List Tk→PR Ex
 |0,_,l=>.error (Hh l)
 |f+1,lv,l=>if lv=9 then rT f l else match rE f (lv+1) l with
  |.error e=>.error e
  |.ok (x,r)=>rL f lv x r
def rL:Nat→Int→Ex→List Tk→PR Ex
 |0,_,_,l=>.error (Hh l)
 |f+1,lv,x,l=>match aM lv l with
  |none=>.ok (x,l)
  |some (op,r)=>match rE f (lv+1) r with
   |.error e=>.error e
   |.ok (y,r)=>rL f lv (.mk 4 op 0 [] [x,y]) r
def rT:Nat→List Tk→PR Ex
 |0,l=>.error (Hh l)
 |f+1,l=>match Fz l with
  |some (op,r)=>(match rT f r with
   |.error e=>.error e
   |.ok (x,r)=>.ok (.mk 3 op 0 [] [x],r))
  |none=>match Bi [40] l with
   |some r=>(match rE f 1 r with
    |.error e=>.error e
    |.ok (x,r)=>match An [41] r with
     |.error e=>.error e
     |.ok r=>.ok (x,r))
   |none=>match Bi [114,101,97,100] l with
    |some r=>(match An [40] r with
     |.error e=>.error e
     |.ok r=>match An [41] r with
      |.error e=>.error e
      |.ok r=>.ok (.mk 7 0 0 [] [],r))
    |none=>match l with
     |[]=>.error 0
     |t::r=>if t.kind=3 then .ok (.mk 1 0 t.num [] [],r)else
      if t.kind=1 then rN f t.text r else .error t.line
def rN:Nat→Bs→List Tk→PR Ex
 |0,_,l=>.error (Hh l)
 |f+1,s,l=>match Bi [40] l with
  |some r=>(match rA f r with
   |.error e=>.error e
   |.ok (a,r)=>.ok (.mk 5 0 0 s a,r))
  |none=>match Bi [91] l with
   |some r=>(match rE f 1 r with
    |.error e=>.error e
    |.ok (x,r)=>match An [93] r with
     |.error e=>.error e
     |.ok r=>.ok (.mk 6 0 0 s [x],r))
   |none=>.ok (.mk 2 0 0 s [],l)
def rA:Nat→List Tk→PR (List Ex)
 |0,l=>.error (Hh l)
 |f+1,l=>match Bi [41] l with
  |some r=>.ok ([],r)
  |none=>rM f [] l
def rM:Nat→List Ex→List Tk→PR (List Ex)
 |0,_,l=>.error (Hh l)
 |f+1,a,l=>match rE f 1 l with
  |.error e=>.error e
  |.ok (x,r)=>match Bi [44] r with
   |some r=>rM f (a++[x]) r
   |none=>match An [41] r with
    |.error e=>.error e
    |.ok r=>.ok (a++[x],r)
end
theorem Sk(L:List Int){p:Int→Bool}(k:Int)(c:k∈L)(f:∀b,b∈L→p b=true→b=k):L.find? p=if p k=true then some k else none:=by
 cases h:L.find? p with
 |none=>rw[if_neg (Zl.1 h k c)]
 |some b=>
  have a:=List.find?_some h;have d:=List.mem_of_find?_eq_some h;have e:=f b d a;subst e;rw[if_pos a]
theorem mC:∀a,a∈Gq→∀b,b∈Gq→As a=As b→a=b:=by decide
theorem Rx:∀a,a∈Gq→1≤Ao a∧Ao a≤8∧a≠0:=by decide
theorem Ws {s:Bs}{t:Tk}(a:isP s t=true):t.text=s:=by
 unfold isP at a;rw[Zj]at a;exact eq_of_beq a.2
theorem Vx(l:List Tk):(∀lv,Eg lv l=0∧aM lv l=none)∨
  ∃(k:Int) (t:Tk) (d:List Tk),l=t::d∧k∈Gq∧∀lv,Eg lv l=(if lv≤Ao k then k else 0)∧aM lv l=(if Ao k=lv then some (k,d)else none):=by
 cases l with
 |nil=>exact .inl fun lv=>⟨rfl,rfl⟩
 |cons t d=>
  by_cases a:∃k,k∈Gq∧isP (As k) t=true
  ·obtain⟨k,e,f⟩:=a
   have i:∀b,b∈Gq→isP (As b) t=true→b=k:=fun b c a=>mC b c k e ((Ws a).symm.trans (Ws f))
   refine .inr ⟨k,t,d,rfl,e,fun lv=>⟨?_,?_⟩⟩
   ·show(Gq.find? fun op=>isP (As op) t && decide (lv≤Ao op)).getD 0=_
    rw[Sk Gq k e (fun b c a=>i b c (by rw[Zj]at a;exact a.1)),f,Bool.true_and]
    by_cases hl:lv≤Ao k
    ·rw[if_pos (decide_eq_true hl),if_pos hl];rfl
    ·rw[if_neg (by simpa using hl),if_neg hl];rfl
   ·show(match Gq.find? fun op=>isP (As op) t && decide (Ao op=lv)with
     |some op=>some (op,d)
     |none=>none)=_
    rw[Sk Gq k e (fun b c a=>i b c (by rw[Zj]at a;exact a.1)),f,Bool.true_and]
    by_cases hl:Ao k=lv
    ·rw[if_pos (decide_eq_true hl),if_pos hl]
    ·rw[if_neg (by simpa using hl),if_neg hl]
  ·have h:∀q:Int→Bool,(Gq.find? fun op=>isP (As op) t && q op)=none:=fun q=>by
    rw[Zl];intro b c g;rw[Zj]at g;exact a ⟨b,c,g.1⟩
   refine .inl fun lv=>⟨?_,?_⟩
   ·show(Gq.find? fun op=>isP (As op) t && decide (lv≤Ao op)).getD 0=_
    rw[h];rfl
   ·show(match Gq.find? fun op=>isP (As op) t && decide (Ao op=lv)with
     |some op=>some (op,d)
     |none=>none)=_
    rw[h]
theorem bQ:∀(f:Nat) (lv:Int) (x:Ex) (l:List Tk) (y:Ex) (b:List Tk),Gs f lv x l=.ok (y,b)→Eg lv b=0
 |0,_,_,_,_,_,a=>by cases a
 |f+1,lv,x,l,y,b,a=>by
  rw[Gs]at a;split at a
  ·rename_i c
   injection a with a;injection a with _ a;subst a;exact c
  ·split at a
   ·cases a
   ·exact bQ f _ _ _ _ _ a
theorem iM {f:Nat}{lv:Int}{l:List Tk}{y:Ex}{b:List Tk}(a:Bk f lv l=.ok (y,b)):Eg lv b=0:=by
 cases f with
 |zero=>cases a
 |succ f=>
  rw[Bk]at a;split at a
  ·cases a
  ·exact bQ f _ _ _ _ _ a
structure Eq6 (l:List Tk):Prop where
 o0:∀lv x f f',4*l.length+1≤f→4*l.length+1≤f'→Gs f lv x l=Gs f' lv x l
 t:∀f g,4*l.length+1≤f→14*l.length+1≤g→rT g l=Cg f l
 n:∀s f g,4*l.length+1≤f→14*l.length+1≤g→rN g s l=Ei f s l
 c0:∀lv f f',4*l.length+2≤f→4*l.length+2≤f'→Bk f lv l=Bk f' lv l
 e:∀(d:Nat),d≤8→∀lv:Int,lv=9-d→∀f g,4*l.length+2≤f→14*l.length+2+d≤g→rE g lv l=Bk f lv l
 j:∀(d:Nat),d≤7→∀lv:Int,lv=8-d→∀x f f' g,4*l.length+1≤f→4*l.length+1≤f'→14*l.length+1≤g→(match Gs f (lv+1) x l with
  |.error e=>.error e
  |.ok (y,q)=>rL g lv y q)=Gs f' lv x l
 m:∀a f g,4*l.length+3≤f→14*l.length+11≤g→rM g a l=Lo f a l
 a:∀f g,4*l.length+4≤f→14*l.length+12≤g→rA g l=In f l
theorem suc {n f:Nat}(a:n+1≤f):∃k,f=k+1∧n≤k:=⟨f-1,by omega,by omega⟩
theorem Hj{lv:Int}{x:Ex}{l:List Tk}(a:Eg lv l=0){f:Nat}(b:1≤f):Gs f lv x l=.ok (x,l):=by
 obtain⟨f,rfl,_⟩:=suc b;rw[Gs,if_pos a]
theorem eq6(l:List Tk):Eq6 l:=by
 have p:∀E:List Tk,E.length<l.length→Eq6 E:=fun E h=>eq6 E
 have O:∀lv x f c,4*l.length+1≤f→4*l.length+1≤c→Gs f lv x l=Gs c lv x l:=by
  intro lv x f c i r;obtain⟨f,rfl,kf⟩:=suc i;obtain⟨c,rfl,H⟩:=suc r;rcases Vx l with h|⟨k,u,b,rfl,B,h⟩
  ·rw[Hj (h lv).1 (by omega),Hj (h lv).1 (by omega)]
  ·by_cases hl:lv≤Ao k
   ·have C:Eg lv (u::b)=k:=by rw[(h lv).1,if_pos hl]
    have z:=(Rx k B).2.2;rw[List.length_cons]at i r;rw[Gs,Gs,C,if_neg z,if_neg z,List.drop_one,List.tail_cons,(p b (by simp)).c0 (Ao k+1) f c (by omega) (by omega)]
    cases hc:Bk c (Ao k+1) b with
    |error e=>rfl
    |ok q=>
     obtain⟨y,q⟩:=q;have J:=(Cw _).1 _ _ _ _ hc;exact(p q (by simp;omega)).o0 lv _ f c (by omega) (by omega)
   ·have C:Eg lv (u::b)=0:=by rw[(h lv).1,if_neg hl]
    rw[Hj C (by omega),Hj C (by omega)]
 have n:∀s f g,4*l.length+1≤f→14*l.length+1≤g→rN g s l=Ei f s l:=by
  intro s f g i m;obtain⟨f,rfl,kf⟩:=suc i;obtain⟨g,rfl,w⟩:=suc m;rw[rN,Ei]
  cases h1:Bi [40] l with
  |some b=>
   have o:=Bn h1;dsimp only;rw[(p b o).a f g (by omega) (by omega)]
   all_goals rfl
  |none=>
   dsimp only
   cases v:Bi [91] l with
   |some b=>
    have o:=Bn v;dsimp only;rw[(p b o).e 8 (by omega) 1 (by decide) f g (by omega) (by omega)]
    all_goals rfl
   |none=>rfl
 have t:∀f g,4*l.length+1≤f→14*l.length+1≤g→rT g l=Cg f l:=by
  intro f g i m;obtain⟨f,rfl,kf⟩:=suc i;obtain⟨g,rfl,w⟩:=suc m;unfold rT Cg
  cases h1:Fz l with
  |some q=>
   obtain⟨op,b⟩:=q;have o:=Vn h1;dsimp only;rw[(p b o).t f g (by omega) (by omega)]
   all_goals rfl
  |none=>
   dsimp only
   cases v:Bi [40] l with
   |some b=>
    have o:=Bn v;dsimp only;rw[(p b o).e 8 (by omega) 1 (by decide) f g (by omega) (by omega)]
    all_goals rfl
   |none=>
    dsimp only
    cases h3:Bi [114,101,97,100] l with
    |some b=>rfl
    |none=>
     dsimp only
     cases l with
     |nil=>rfl
     |cons u b=>
      rw[List.length_cons]at i m;dsimp only;rw[(p b (by simp)).n u.text f g (by omega) (by omega)]
      all_goals rfl
 have P:∀f c,4*l.length+1≤f→4*l.length+1≤c→Cg f l=Cg c l:=fun f c i r=>(t f (14*l.length+1) i (Zc _)).symm.trans (t c (14*l.length+1) r (Zc _))
 have M:∀lv f c,4*l.length+2≤f→4*l.length+2≤c→Bk f lv l=Bk c lv l:=by
  intro lv f c i r;obtain⟨f,rfl,kf⟩:=suc i;obtain⟨c,rfl,H⟩:=suc r;rw[Bk,Bk,P f c (by omega) (by omega)]
  cases ht:Cg c l with
  |error e=>rfl
  |ok q=>
   obtain⟨x,b⟩:=q;have o:=(Cw _).2.2.1 _ _ _ ht;exact(p b o).o0 lv x f c (by omega) (by omega)
 have e:∀(d:Nat),d≤8→∀lv:Int,lv=9-d→∀f g,4*l.length+2≤f→14*l.length+2+d≤g→rE g lv l=Bk f lv l:=by
  intro d
  induction d with
  |zero=>
   intro _ lv D f g i m;obtain rfl:lv=9:=by omega
   obtain⟨f,rfl,kf⟩:=suc i;obtain⟨g,rfl,w⟩:=suc m;rw[rE,if_pos rfl,Bk,t f g (by omega) (by omega)]
   cases ht:Cg f l with
   |error e=>rfl
   |ok q=>
    obtain⟨x,b⟩:=q;dsimp only;refine(Hj ?_ (by omega)).symm;rcases Vx b with h|⟨k,t,L,rfl,B,h⟩
    ·exact(h 9).1
    ·rw[(h 9).1,if_neg (by have:=(Rx k B).2.1;omega)]
  |succ d ihd=>
   intro G lv D f g i m;obtain⟨g,rfl,w⟩:=suc (n:=14*l.length+2+d) (by omega);rw[rE,if_neg (by omega),ihd (by omega) (lv+1) (by omega) f g (by omega) (by omega)];obtain⟨f,rfl,kf⟩:=suc i;rw[Bk,Bk]
   cases ht:Cg f l with
   |error e=>rfl
   |ok q=>
    obtain⟨x,b⟩:=q;have o:=(Cw _).2.2.1 _ _ _ ht;dsimp only;exact(p b o).j d (by omega) lv (by omega) x f f g (by omega) (by omega) (by omega)
 have j:∀(d:Nat),d≤7→∀lv:Int,lv=8-d→∀x f c g,4*l.length+1≤f→4*l.length+1≤c→14*l.length+1≤g→(match Gs f (lv+1) x l with
   |.error e=>.error e
   |.ok (y,q)=>rL g lv y q)=Gs c lv x l:=by
  intro d G lv D x f c g i r m;rcases Vx l with h|⟨k,u,b,rfl,B,h⟩
  ·rw[Hj (h (lv+1)).1 (by omega),Hj (h lv).1 (by omega)]
   obtain⟨g,rfl,w⟩:=suc m;dsimp only;rw[rL,(h lv).2]
  ·have z:=(Rx k B).2.2
   rw[List.length_cons]at i r m;have o:b.length<(u::b).length:=by simp
   by_cases h1:lv+1≤Ao k
   ·have F:Eg (lv+1) (u::b)=k:=by rw[(h (lv+1)).1,if_pos h1]
    have A:Eg lv (u::b)=k:=by rw[(h lv).1,if_pos (by omega)]
    obtain⟨f,rfl,kf⟩:=suc (n:=4*(b.length+1)) i;obtain⟨c,rfl,H⟩:=suc (n:=4*(b.length+1)) r;rw[Gs,Gs,F,A,if_neg z,if_neg z,List.drop_one,List.tail_cons,(p b o).c0 (Ao k+1) f c (by omega) (by omega)]
    cases hc:Bk c (Ao k+1) b with
    |error e=>rfl
    |ok q=>
     obtain⟨y,q⟩:=q;have J:=(Cw _).1 _ _ _ _ hc;dsimp only;exact(p q (by simp;omega)).j d G lv D _ f c g (by omega) (by omega) (by omega)
   ·have F:Eg (lv+1) (u::b)=0:=by rw[(h (lv+1)).1,if_neg h1]
    rw[Hj F (by omega)];dsimp only;obtain⟨g,rfl,w⟩:=suc (n:=14*(b.length+1)) m
    by_cases v:Ao k=lv
    ·have A:Eg lv (u::b)=k:=by rw[(h lv).1,if_pos (by omega)]
     obtain⟨c,rfl,H⟩:=suc (n:=4*(b.length+1)) r;rw[rL,(h lv).2,if_pos v,Gs,A,if_neg z,List.drop_one,List.tail_cons,v];dsimp only;rw[(p b o).e d (by omega) (lv+1) (by omega) c g (by omega) (by omega)]
     cases hc:Bk c (lv+1) b with
     |error e=>rfl
     |ok q=>
      obtain⟨y,q⟩:=q;have J:=(Cw _).1 _ _ _ _ hc;have N:=iM hc;have I:=(p q (by simp;omega)).j d G lv D (.mk 4 k 0 [] [x,y]) c c g (by omega) (by omega) (by omega);rw[Hj N (by omega)]at I;exact I
    ·have A:Eg lv (u::b)=0:=by rw[(h lv).1,if_neg (by omega)]
     rw[Hj A (by omega),rL,(h lv).2,if_neg v]
 have K:∀a f g,4*l.length+3≤f→14*l.length+11≤g→rM g a l=Lo f a l:=by
  intro a f g i m;obtain⟨f,rfl,kf⟩:=suc i;obtain⟨g,rfl,w⟩:=suc m;rw[rM,Lo,e 8 (by omega) 1 (by decide) f g (by omega) (by omega)]
  cases hc:Bk f 1 l with
  |error e=>rfl
  |ok q=>
   obtain⟨x,b⟩:=q;have o:=(Cw _).1 _ _ _ _ hc;dsimp only
   cases h1:Bi [44] b with
   |some L=>
    have v:=Bn h1;dsimp only;exact(p L (by omega)).m _ f g (by omega) (by omega)
   |none=>rfl
 refine⟨O,t,n,M,e,j,K,?_⟩;intro f g i m;obtain⟨f,rfl,kf⟩:=suc i;obtain⟨g,rfl,w⟩:=suc m;rw[rA,In,K [] f g (by omega) (by omega)]
 all_goals rfl
termination_by l.length
abbrev PS:=Bool ×List Tk
def Cp(s:Bs):PS→Bool
 |(true,_)=>false
 |(false,[])=>false
 |(false,t::_)=>isP s t
def Bg(st:PS):PS:=(st.1,st.2.tail)
def Ap(s:Bs)(st:PS):PS:=if Cp s st=true then Bg st else(true,st.2)
def Py(k:Int):PS→Bool
 |(true,_)=>false
 |(false,[])=>false
 |(false,t::_)=>decide (t.kind=k)
def Ub(st:PS):Tk:=st.2.head?.getD ⟨0,[],0,0⟩
def Bl(st:PS):Bs ×PS:=if Py 1 st=true then((Ub st).text,Bg st)else([],(true,st.2))
def Jv(st:PS):Int ×PS:=if Py 3 st=true then((Ub st).num,Bg st)else(0,(true,st.2))
def sgT(lv:Int)(st:PS):Option Int:=Gq.find? fun op=>Cp (As op) st && decide (Ao op=lv)
def nilE:Ex:=.mk 0 0 0 [] []
mutual
def xT:Nat→Int→PS→Ex ×PS
 |0,_,st=>(nilE,(true,st.2))
 |f+1,lv,st=>if lv=9 then tT f st else lT f lv (xT f (lv+1) st).1 (xT f (lv+1) st).2
def lT:Nat→Int→Ex→PS→Ex ×PS
 |0,_,x,st=>(x,(true,st.2))
 |f+1,lv,x,st=>match sgT lv st with
  |none=>(x,st)
  |some op=>lT f lv (.mk 4 op 0 [] [x,(xT f (lv+1) (Bg st)).1]) (xT f (lv+1) (Bg st)).2
def tT:Nat→PS→Ex ×PS
 |0,st=>(nilE,(true,st.2))
 |f+1,st=>if Cp (As 17) st=true then(.mk 3 17 0 [] [(tT f (Bg st)).1],(tT f (Bg st)).2)
  else if Cp (As 18) st=true then(.mk 3 18 0 [] [(tT f (Bg st)).1],(tT f (Bg st)).2)
  else if Cp (As 19) st=true then(.mk 3 19 0 [] [(tT f (Bg st)).1],(tT f (Bg st)).2)
  else if Cp [40] st=true then((xT f 1 (Bg st)).1,Ap [41] (xT f 1 (Bg st)).2)
  else if Cp [114,101,97,100] st=true then(.mk 7 0 0 [] [],Ap [41] (Ap [40] (Bg st)))
  else if Py 3 st=true then(.mk 1 0 (Jv st).1 [] [],(Jv st).2)
  else nT f (Bl st).1 (Bl st).2
def nT:Nat→Bs→PS→Ex ×PS
 |0,_,st=>(nilE,(true,st.2))
 |f+1,s,st=>if Cp [40] st=true then(.mk 5 0 0 s (aT f (Bg st)).1,(aT f (Bg st)).2)
  else if Cp [91] st=true then(.mk 6 0 0 s [(xT f 1 (Bg st)).1],Ap [93] (xT f 1 (Bg st)).2)
  else(.mk 2 0 0 s [],st)
def aT:Nat→PS→List Ex ×PS
 |0,st=>([],(true,st.2))
 |f+1,st=>if Cp [41] st=true then([],Bg st)else if st.1=true then([],st)else mT f [] st
def mT:Nat→List Ex→PS→List Ex ×PS
 |0,a,st=>(a,(true,st.2))
 |f+1,a,st=>if Cp [44] (xT f 1 st).2=true then mT f (a++[(xT f 1 st).1]) (Bg (xT f 1 st).2)else(a++[(xT f 1 st).1],Ap [41] (xT f 1 st).2)
end
def Rel {α:Type}(q:α ×PS):PR α→Prop
 |.ok (x,l)=>q=(x,(false,l))
 |.error n=>q.2.1=true∧Hh q.2.2=n
theorem Dq {s:Bs}{st:PS}(a:st.1=true):Cp s st=false:=by
 obtain⟨b,l⟩:=st;have a:b=true:=a;subst a;rfl
theorem Ch {s:Bs}{st:PS}(a:st.1=true):Ap s st=st:=by
 obtain⟨b,l⟩:=st;have a:b=true:=a;subst a;rfl
theorem Wt {k:Int}{st:PS}(a:st.1=true):Py k st=false:=by
 obtain⟨b,l⟩:=st;have a:b=true:=a;subst a;rfl
theorem Ms {st:PS}(a:st.1=true):Bl st=([],st):=by
 unfold Bl;rw[Wt a];obtain⟨b,l⟩:=st;have a:b=true:=a;subst a;rfl
theorem nB {st:PS}(a:st.1=true):Jv st=(0,st):=by
 unfold Jv;rw[Wt a];obtain⟨b,l⟩:=st;have a:b=true:=a;subst a;rfl
theorem sg_bad {lv:Int}{st:PS}(a:st.1=true):sgT lv st=none:=by
 unfold sgT;rw[Zl];intro x _ hx;rw[Dq a]at hx
 cases hx
theorem Jq {st:PS}(a:st.1=true):((true,st.2):PS)=st:=by
 obtain⟨b,l⟩:=st;have a:b=true:=a;subst a;rfl
theorem Bj {s:Bs}{l b:List Tk}(a:Bi s l=some b):Cp s (false,l)=true∧Bg (false,l)=(false,b):=by
 cases l with
 |nil=>cases a
 |cons t q=>
  have a:(if isP s t=true then some q else none)=some b:=a;split at a
  ·rename_i c;injection a with a;subst a;exact⟨c,rfl⟩
  ·cases a
theorem Ct {s:Bs}{l:List Tk}(a:Bi s l=none):Cp s (false,l)=false:=by
 cases l with
 |nil=>rfl
 |cons t q=>
  have a:(if isP s t=true then some q else none)=none:=a;split at a
  ·cases a
  ·rename_i b;show isP s t=false;simpa using b
theorem Ph {s:Bs}{l b:List Tk}(a:An s l=.ok b):Ap s (false,l)=(false,b):=by
 unfold An at a
 cases ht:Bi s l with
 |none=>rw[ht]at a;cases a
 |some q=>
  rw[ht]at a;injection a with a;subst a;obtain⟨c,d⟩:=Bj ht;unfold Ap;rw[if_pos c,d]
theorem Gp {s:Bs}{l:List Tk}{n:Int}(a:An s l=.error n):Ap s (false,l)=(true,l)∧Hh l=n:=by
 unfold An at a
 cases ht:Bi s l with
 |some q=>rw[ht]at a;cases a
 |none=>
  rw[ht]at a;injection a with a;unfold Ap;rw[Ct ht];exact⟨rfl,a⟩
theorem Rd(l:List Tk):Rel (Bl (false,l)) (Ew l):=by
 unfold Ew Ks
 cases l with
 |nil=>exact⟨rfl,rfl⟩
 |cons t r=>
  unfold Bl;show Rel (if decide (t.kind=1)=true then _ else _) _
  dsimp only
  by_cases h:t.kind=1
  ·rw[if_pos (decide_eq_true h),if_pos h];rfl
  ·rw[if_neg (by simpa using h),if_neg h];exact⟨rfl,rfl⟩
theorem num_rel(l:List Tk):Rel (Jv (false,l)) (match Ks 3 l with|.ok (t,r)=>.ok (t.num,r)|.error e=>.error e):=by
 unfold Ks
 cases l with
 |nil=>exact⟨rfl,rfl⟩
 |cons t r=>
  unfold Jv;show Rel (if decide (t.kind=3)=true then _ else _) _
  dsimp only
  by_cases h:t.kind=3
  ·rw[if_pos (decide_eq_true h),if_pos h];rfl
  ·rw[if_neg (by simpa using h),if_neg h];exact⟨rfl,rfl⟩
theorem sg_sign(lv:Int)(l:List Tk):(sgT lv (false,l)=none∧aM lv l=none)∨∃op a,sgT lv (false,l)=some op∧aM lv l=some (op,a)∧Bg (false,l)=(false,a):=by
 cases l with
 |nil=>
  left
  refine⟨?_,rfl⟩;unfold sgT;rw[Zl];intro x _ hx;cases hx
 |cons t a=>
  have e:sgT lv (false,t::a)=Gq.find? fun op=>isP (As op) t && decide (Ao op=lv):=rfl
  have b:aM lv (t::a)=match Gq.find? fun op=>isP (As op) t && decide (Ao op=lv)with
   |some op=>some (op,a)
   |none=>none:=rfl
  rw[e,b]
  cases h:Gq.find? fun op=>isP (As op) t && decide (Ao op=lv)with
  |none=>exact .inl ⟨rfl,rfl⟩
  |some op=>exact .inr ⟨op,a,rfl,rfl,rfl⟩
theorem Rr:∀f:Nat,(∀lv st,st.1=true→(xT f lv st).2=st)∧(∀lv x st,st.1=true→(lT f lv x st).2=st)∧(∀st,st.1=true→(tT f st).2=st)∧
  (∀s st,st.1=true→(nT f s st).2=st)∧(∀st,st.1=true→(aT f st).2=st)∧(∀a st,st.1=true→(mT f a st).2=st)
 |0=>⟨fun _ _ b=>Jq b,fun _ _ _ b=>Jq b,fun _ b=>Jq b,fun _ _ b=>Jq b,fun _ b=>Jq b,fun _ _ b=>Jq b⟩
 |f+1=>by
  obtain⟨c,d,it,e,g,h⟩:=Rr f;refine⟨?_,?_,?_,?_,?_,?_⟩
  ·intro lv st b
   rw[xT];split
   ·exact it st b
   ·rw[c (lv+1) st b];exact d lv _ st b
  ·intro lv x st b
   rw[lT,sg_bad b]
  ·intro st b
   rw[tT];simp only[Dq b,Wt b,Ms b];exact e _ st b
  ·intro s st b
   rw[nT];simp only[Dq b];rfl
  ·intro st b
   rw[aT];simp only[Dq b,b];rfl
  ·intro a st b
   rw[mT,c 1 st b];simp only[Dq b,Ch b];rfl
theorem rZ:∀f:Nat,(∀lv l,Rel (xT f lv (false,l)) (rE f lv l))∧(∀lv x l,Rel (lT f lv x (false,l)) (rL f lv x l))∧(∀l,Rel (tT f (false,l)) (rT f l))∧
  (∀s l,Rel (nT f s (false,l)) (rN f s l))∧(∀l,Rel (aT f (false,l)) (rA f l))∧(∀a l,Rel (mT f a (false,l)) (rM f a l))
 |0=>⟨fun _ _=>⟨rfl,rfl⟩,fun _ _ _=>⟨rfl,rfl⟩,fun _=>⟨rfl,rfl⟩,fun _ _=>⟨rfl,rfl⟩,fun _=>⟨rfl,rfl⟩,fun _ _=>⟨rfl,rfl⟩⟩
 |f+1=>by
  obtain⟨o,B,it,E,D,C⟩:=rZ f;obtain⟨I,r,H,v,F,G⟩:=Rr f;refine⟨?_,?_,?_,?_,?_,?_⟩
  ·intro lv l
   rw[xT,rE]
   by_cases h9:lv=9
   ·rw[if_pos h9,if_pos h9];exact it l
   ·rw[if_neg h9,if_neg h9]
    have c:=o (lv+1) l
    cases hr:rE f (lv+1) l with
    |error n=>
     rw[hr]at c;obtain⟨i,j⟩:=c;have h:=r lv (xT f (lv+1) (false,l)).1 _ i;exact⟨by rw[h];exact i,by rw[h];exact j⟩
    |ok q=>
     obtain⟨x,b⟩:=q;rw[hr]at c;have c:xT f (lv+1) (false,l)=(x,(false,b)):=c;rw[c];exact B lv x b
  ·intro lv x l
   rw[lT,rL];rcases sg_sign lv l with⟨i,j⟩|⟨op,b,i,j,k⟩
   ·rw[i,j];rfl
   ·rw[i,j,k]
    dsimp only;have c:=o (lv+1) b
    cases hr:rE f (lv+1) b with
    |error n=>
     rw[hr]at c;obtain⟨g,d⟩:=c;have h:=r lv (.mk 4 op 0 [] [x,(xT f (lv+1) (false,b)).1]) _ g;exact⟨by rw[h];exact g,by rw[h];exact d⟩
    |ok q=>
     obtain⟨y,q⟩:=q;rw[hr]at c;have c:xT f (lv+1) (false,b)=(y,(false,q)):=c;rw[c];exact B lv _ q
  ·intro l
   have p:∀op b,Rel ((.mk 3 op 0 [] [(tT f (false,b)).1],(tT f (false,b)).2):Ex ×PS) (match rT f b with
     |.error e=>.error e
     |.ok (x,b)=>.ok (.mk 3 op 0 [] [x],b)):=by
    intro op b;have c:=it b
    cases hr:rT f b with
    |error n=>rw[hr]at c;exact c
    |ok q=>
     obtain⟨x,q⟩:=q;rw[hr]at c;have c:tT f (false,b)=(x,(false,q)):=c;rw[c];rfl
   unfold tT rT Fz
   cases i:Bi (As 17) l with
   |some b=>rw[if_pos (Bj i).1,(Bj i).2];exact p 17 b
   |none=>
    rw[if_neg (by rw[Ct i];decide)]
    cases j:Bi (As 18) l with
    |some b=>rw[if_pos (Bj j).1,(Bj j).2];exact p 18 b
    |none=>
     rw[if_neg (by rw[Ct j];decide)]
     cases k:Bi (As 19) l with
     |some b=>rw[if_pos (Bj k).1,(Bj k).2];exact p 19 b
     |none=>
      rw[if_neg (by rw[Ct k];decide)];dsimp only
      cases g:Bi [40] l with
      |some b=>
       rw[if_pos (Bj g).1,(Bj g).2];dsimp only;have c:=o 1 b
       cases hr:rE f 1 b with
       |error n=>
        rw[hr]at c;obtain⟨d,m⟩:=c;exact⟨by rw[Ch d];exact d,by rw[Ch d];exact m⟩
       |ok q=>
        obtain⟨x,q⟩:=q;rw[hr]at c;have c:xT f 1 (false,b)=(x,(false,q)):=c;rw[c];dsimp only
        cases hw:An [41] q with
        |error n=>rw[(Gp hw).1];exact⟨rfl,(Gp hw).2⟩
        |ok u=>rw[Ph hw];rfl
      |none=>
       rw[if_neg (by rw[Ct g];decide)];dsimp only
       cases d:Bi [114,101,97,100] l with
       |some b=>
        rw[if_pos (Bj d).1,(Bj d).2];dsimp only
        cases hw:An [40] b with
        |error n=>
         rw[(Gp hw).1];exact⟨by rw[Ch rfl],by rw[Ch rfl];exact(Gp hw).2⟩
        |ok u=>
         rw[Ph hw];dsimp only
         cases hz:An [41] u with
         |error n=>rw[(Gp hz).1];exact⟨rfl,(Gp hz).2⟩
         |ok z=>rw[Ph hz];rfl
       |none=>
        rw[if_neg (by rw[Ct d];decide)];dsimp only
        cases l with
        |nil=>
         rw[if_neg (by decide)];have h:=v ([]:Bs) (true,[]) rfl;have e:Bl (false,[])=([],(true,[])):=rfl;rw[e];exact⟨by rw[h],by rw[h];rfl⟩
        |cons t b=>
         dsimp only;have w:Py 3 (false,t::b)=decide (t.kind=3):=rfl;rw[w]
         by_cases hk:t.kind=3
         ·rw[if_pos (decide_eq_true hk),if_pos hk]
          have e:Jv (false,t::b)=(t.num,(false,b)):=by
           unfold Jv;rw[w,if_pos (decide_eq_true hk)];rfl
          rw[e];rfl
         ·rw[if_neg (by simpa using hk),if_neg hk]
          have A:Py 1 (false,t::b)=decide (t.kind=1):=rfl
          by_cases hk1:t.kind=1
          ·have e:Bl (false,t::b)=(t.text,(false,b)):=by
            unfold Bl;rw[A,if_pos (decide_eq_true hk1)];rfl
           rw[e,if_pos hk1];exact E t.text b
          ·have e:Bl (false,t::b)=([],(true,t::b)):=by
            unfold Bl;rw[A,if_neg (by simpa using hk1)]
           rw[e,if_neg hk1];have h:=v ([]:Bs) (true,t::b) rfl;exact⟨by rw[h],by rw[h];rfl⟩
  ·intro s l
   rw[nT,rN]
   cases g:Bi [40] l with
   |some b=>
    rw[if_pos (Bj g).1,(Bj g).2];dsimp only;have c:=D b
    cases hr:rA f b with
    |error n=>rw[hr]at c;exact c
    |ok q=>
     obtain⟨x,q⟩:=q;rw[hr]at c;have c:aT f (false,b)=(x,(false,q)):=c;rw[c];rfl
   |none=>
    rw[if_neg (by rw[Ct g];decide)];dsimp only
    cases d:Bi [91] l with
    |some b=>
     rw[if_pos (Bj d).1,(Bj d).2];dsimp only;have c:=o 1 b
     cases hr:rE f 1 b with
     |error n=>
      rw[hr]at c;obtain⟨d,m⟩:=c;exact⟨by rw[Ch d];exact d,by rw[Ch d];exact m⟩
     |ok q=>
      obtain⟨x,q⟩:=q;rw[hr]at c;have c:xT f 1 (false,b)=(x,(false,q)):=c;rw[c];dsimp only
      cases hw:An [93] q with
      |error n=>rw[(Gp hw).1];exact⟨rfl,(Gp hw).2⟩
      |ok u=>rw[Ph hw];rfl
    |none=>
     rw[if_neg (by rw[Ct d];decide)];rfl
  ·intro l
   rw[aT,rA]
   cases g:Bi [41] l with
   |some b=>rw[if_pos (Bj g).1,(Bj g).2];rfl
   |none=>
    rw[if_neg (by rw[Ct g];decide),if_neg (show ¬(false=true)by decide)];exact C [] l
  ·intro a l
   rw[mT,rM];have c:=o 1 l
   cases hr:rE f 1 l with
   |error n=>
    rw[hr]at c;obtain⟨d,m⟩:=c;rw[if_neg (by rw[Dq d];decide),Ch d];exact⟨d,m⟩
   |ok q=>
    obtain⟨x,q⟩:=q;rw[hr]at c;have c:xT f 1 (false,l)=(x,(false,q)):=c;rw[c];dsimp only
    cases g:Bi [44] q with
    |some b=>rw[if_pos (Bj g).1,(Bj g).2];exact C _ b
    |none=>
     rw[if_neg (by rw[Ct g];decide)];dsimp only
     cases hw:An [41] q with
     |error n=>rw[(Gp hw).1];exact⟨rfl,(Gp hw).2⟩
     |ok u=>rw[Ph hw];rfl
theorem aG(f:Nat)(l:List Tk)(a:14*l.length+10≤f):Rel (xT f 1 (false,l)) (Bk f 1 l):=by
 rw[←(eq6 l).e 8 (by omega) 1 (by decide) f f (by omega) (by omega)];exact(rZ f).1 1 l
theorem a_law(f:Nat)(l:List Tk)(b:14*l.length+12≤f):Rel (aT f (false,l)) (In f l):=by
 rw[←(eq6 l).a f f (by omega) (by omega)];exact(rZ f).2.2.2.2.1 l
def Jo(f:Nat)(st:PS):Ex ×PS:=((xT f 1 (Ap [40] st)).1,Ap [41] (xT f 1 (Ap [40] st)).2)
def nmT(f:Nat)(st:PS):St ×PS:=
 if Cp [40] (Bl st).2=true then(.mk 10 [] [.mk 5 0 0 (Bl st).1 (aT f (Bg (Bl st).2)).1] [] [],(aT f (Bg (Bl st).2)).2)
 else if Cp [91] (Bl st).2=true then
  (.mk 2 (Bl st).1 [(xT f 1 (Bg (Bl st).2)).1,(xT f 1 (Ap [61] (Ap [93] (xT f 1 (Bg (Bl st).2)).2))).1] [] [],(xT f 1 (Ap [61] (Ap [93] (xT f 1 (Bg (Bl st).2)).2))).2)
 else(.mk 1 (Bl st).1 [(xT f 1 (Ap [61] (Bl st).2)).1] [] [],(xT f 1 (Ap [61] (Bl st).2)).2)
def siT(f:Nat)(st:PS):St ×PS:=
 if Cp [98,114,101,97,107] st=true then(.mk 5 [] [] [] [],Bg st)
 else if Cp [99,111,110,116,105,110,117,101] st=true then(.mk 6 [] [] [] [],Bg st)
 else if Cp [114,101,116,117,114,110] st=true then(.mk 7 [] [(xT f 1 (Bg st)).1] [] [],(xT f 1 (Bg st)).2)
 else if Cp [112,114,105,110,116] st=true then(.mk 8 [] [(Jo f (Bg st)).1] [] [],(Jo f (Bg st)).2)
 else if Cp [116,114,97,112] st=true then(.mk 9 [] [(Jo f (Bg st)).1] [] [],(Jo f (Bg st)).2)
 else nmT f st
def nilS:St:=.mk 0 [] [] [] []
mutual
def stT:Nat→PS→St ×PS
 |0,st=>(nilS,(true,st.2))
 |f+1,st=>if Cp [105,102] st=true then
   (if Cp [101,108,115,101] (ssT f [] (Ap [123] (Jo f (Bg st)).2)).2=true then
    (.mk 3 [] [(Jo f (Bg st)).1] (ssT f [] (Ap [123] (Jo f (Bg st)).2)).1 (ssT f [] (Ap [123] (Bg (ssT f [] (Ap [123] (Jo f (Bg st)).2)).2))).1,(ssT f [] (Ap [123] (Bg (ssT f [] (Ap [123] (Jo f (Bg st)).2)).2))).2)
   else(.mk 3 [] [(Jo f (Bg st)).1] (ssT f [] (Ap [123] (Jo f (Bg st)).2)).1 [],(ssT f [] (Ap [123] (Jo f (Bg st)).2)).2))
  else if Cp [119,104,105,108,101] st=true then
   (.mk 4 [] [(Jo f (Bg st)).1] (ssT f [] (Ap [123] (Jo f (Bg st)).2)).1 [],(ssT f [] (Ap [123] (Jo f (Bg st)).2)).2)
  else((siT f st).1,Ap [59] (siT f st).2)
def ssT:Nat→List St→PS→List St ×PS
 |0,a,st=>(a,(true,st.2))
 |f+1,a,st=>if Cp [125] st=true then(a,Bg st)else if st.1=true then(a,st)else ssT f (a++[(stT f st).1]) (stT f st).2
end
def paT:Nat→List Bs→PS→List Bs ×PS
 |0,a,st=>(a,(true,st.2))
 |f+1,a,st=>if st.1=true then(a,st)else
  if Cp [44] (Bl (Ap [105,110,116] st)).2=true then paT f (a++[(Bl (Ap [105,110,116] st)).1]) (Bg (Bl (Ap [105,110,116] st)).2)
  else(a++[(Bl (Ap [105,110,116] st)).1],Ap [41] (Bl (Ap [105,110,116] st)).2)
def loT:Nat→List Bs→PS→List Bs ×PS
 |0,a,st=>(a,(true,st.2))
 |f+1,a,st=>if Cp [105,110,116] st=true then loT f (a++[(Bl (Bg st)).1]) (Ap [59] (Bl (Bg st)).2)else(a,st)
def Mx(f:Nat)(st:PS):List Bs ×PS:=if Cp [41] st=true then([],Bg st)else paT f [] st
def fnT(f:Nat)(s:Bs)(st:PS):Fu ×PS:=
 (⟨s,(Mx f (Ap [40] st)).1,(loT f [] (Ap [123] (Mx f (Ap [40] st)).2)).1,(ssT f [] (loT f [] (Ap [123] (Mx f (Ap [40] st)).2)).2).1⟩,(ssT f [] (loT f [] (Ap [123] (Mx f (Ap [40] st)).2)).2).2)
def prT:Nat→Pr→PS→Pr ×PS
 |0,p,st=>(p,(true,st.2))
 |f+1,p,st=>if st.1=true∨(Ub st).kind=5 then(p,st)else
  if p.funcs.isEmpty=true∧Cp [91] (Bl (Ap [105,110,116] st)).2=true then
   prT f {p with arrays:=p.arrays++[⟨(Bl (Ap [105,110,116] st)).1,(Jv (Bg (Bl (Ap [105,110,116] st)).2)).1⟩]} (Ap [59] (Ap [93] (Jv (Bg (Bl (Ap [105,110,116] st)).2)).2))
  else prT f {p with funcs:=p.funcs++[(fnT f (Bl (Ap [105,110,116] st)).1 (Bl (Ap [105,110,116] st)).2).1]} (fnT f (Bl (Ap [105,110,116] st)).1 (Bl (Ap [105,110,116] st)).2).2
theorem nm_bad {f:Nat}{st:PS}(a:st.1=true):(nmT f st).2=st:=by
 unfold nmT;rw[Ms a];simp only[Dq a,Ch a];exact(Rr f).1 1 st a
theorem si_bad {f:Nat}{st:PS}(a:st.1=true):(siT f st).2=st:=by
 unfold siT;simp only[Dq a];exact nm_bad a
theorem aY:∀f:Nat,(∀st,st.1=true→(stT f st).2=st)∧(∀a st,st.1=true→(ssT f a st).2=st)
 |0=>⟨fun _ b=>Jq b,fun _ _ b=>Jq b⟩
 |f+1=>by
  refine⟨fun st b=>?_,fun a st b=>?_⟩
  ·rw[stT]
   simp only[Dq b];show Ap [59] (siT f st).2=st
   rw[si_bad b,Ch b]
  ·rw[ssT]
   simp only[Dq b,b];rfl
theorem pa_bad {f:Nat}{a:List Bs}{st:PS}(b:st.1=true):(paT f a st).2=st:=by
 cases f with
 |zero=>exact Jq b
 |succ f=>rw[paT,if_pos b]
theorem Su {f:Nat}{a:List Bs}{st:PS}(b:st.1=true):(loT f a st).2=st:=by
 cases f with
 |zero=>exact Jq b
 |succ f=>rw[loT];simp only[Dq b];rfl
theorem mY {f:Nat}{st:PS}(a:st.1=true):(Mx f st).2=st:=by
 unfold Mx;simp only[Dq a];exact pa_bad a
theorem jN {f:Nat}{s:Bs}{st:PS}(a:st.1=true):(fnT f s st).2=st:=by
 unfold fnT;dsimp only;rw[Ch a,mY a,Ch a,Su a,(aY f).2 [] st a]
theorem Qq {f:Nat}{p:Pr}{st:PS}(a:st.1=true):(prT f p st).2=st:=by
 cases f with
 |zero=>exact Jq a
 |succ f=>rw[prT,if_pos (.inl a)]
theorem Ds {α:Type}{q:α ×PS}{st:PS}{n:Int}(b:st.1=true)(c:Hh st.2=n)(a:q.2=st):Rel q (.error n):=⟨by rw[a];exact b,by rw[a];exact c⟩
theorem Ek {s:Bs}{l:List Tk}:(∃a,An s l=.ok a∧Ap s (false,l)=(false,a)∧a.length<l.length)∨∃n,An s l=.error n∧(Ap s (false,l)).1=true∧Hh (Ap s (false,l)).2=n:=by
 cases h:An s l with
 |ok a=>exact .inl ⟨a,rfl,Ph h,Bp h⟩
 |error n=>exact .inr ⟨n,rfl,by rw[(Gp h).1],by rw[(Gp h).1];exact(Gp h).2⟩
theorem Ck {α:Type}{q:α ×PS}{a:PR α}(b:Rel q a):(∃x l,a=.ok (x,l)∧q=(x,(false,l)))∨∃n,a=.error n∧q.2.1=true∧Hh q.2.2=n:=by
 cases a with
 |ok p=>obtain⟨x,l⟩:=p;exact .inl ⟨x,l,rfl,b⟩
 |error n=>exact .inr ⟨n,rfl,b.1,b.2⟩
theorem Us(f:Nat)(l:List Tk)(t:14*l.length+10≤f):Rel (Jo f (false,l)) (Cu f l):=by
 unfold Jo Cu;rcases Ek (s:=[40]) (l:=l)with⟨r,b,h,v⟩|⟨n,b,a,k⟩
 ·rw[b,h]
  dsimp only;rcases Ck (aG f r (by omega))with⟨x,q,c,i⟩|⟨n,c,e,m⟩
  ·rw[c,i]
   dsimp only;rcases Ek (s:=[41]) (l:=q)with⟨u,d,j,_⟩|⟨n,d,o,p⟩
   ·rw[d,j];rfl
   ·rw[d];exact⟨o,p⟩
  ·rw[c];exact⟨by rw[Ch e];exact e,by rw[Ch e];exact m⟩
 ·rw[b]
  have g:=(Rr f).1 1 _ a;exact⟨by rw[g,Ch a];exact a,by rw[g,Ch a];exact k⟩
theorem nm_law(f:Nat)(l:List Tk)(K:14*l.length+12≤f):Rel (nmT f (false,l)) (match Ew l with
 |.error e=>.error e
 |.ok (s,l)=>match Bi [40] l with
 |some r=>(match In f r with
  |.error e=>.error e
  |.ok (a,r)=>.ok (.mk 10 [] [.mk 5 0 0 s a] [] [],r))
 |none=>match Bi [91] l with
 |some r=>(match Bk f 1 r with
  |.error e=>.error e
  |.ok (x,r)=>match An [93] r with
   |.error e=>.error e
   |.ok r=>match An [61] r with
    |.error e=>.error e
    |.ok r=>match Bk f 1 r with
     |.error e=>.error e
     |.ok (y,r)=>.ok (.mk 2 s [x,y] [] [],r))
 |none=>match An [61] l with
  |.error e=>.error e
  |.ok r=>match Bk f 1 r with
   |.error e=>.error e
   |.ok (x,r)=>.ok (.mk 1 s [x] [] [],r)):=by
 rcases Ck (Rd l)with⟨s,q,k,E⟩|⟨n,k,b,h⟩
 ·rw[k]
  unfold nmT;rw[E];have L:=Gu k;dsimp only
  cases b:Bi [40] q with
  |some r=>
   have H:=Bn b;rw[if_pos (Bj b).1,(Bj b).2];dsimp only;rcases Ck (a_law f r (by omega))with⟨x,u,c,m⟩|⟨n,c,i,w⟩
   ·rw[c,m];rfl
   ·rw[c];exact⟨i,w⟩
  |none=>
   rw[if_neg (by rw[Ct b];decide)];dsimp only
   cases h:Bi [91] q with
   |some r=>
    have H:=Bn h;rw[if_pos (Bj h).1,(Bj h).2];dsimp only;rcases Ck (aG f r (by omega))with⟨x,u,c,m⟩|⟨n,c,i,w⟩
    ·have M:=(Cw f).1 _ _ _ _ c
     rw[c,m];dsimp only;rcases Ek (s:=[93]) (l:=u)with⟨v,o,F,N⟩|⟨n,o,z,G⟩
     ·rw[o,F]
      dsimp only;rcases Ek (s:=[61]) (l:=v)with⟨D,d,p,I⟩|⟨n,d,j,A⟩
      ·rw[d,p]
       dsimp only;rcases Ck (aG f D (by omega))with⟨y,J,g,t⟩|⟨n,g,B,C⟩
       ·rw[g,t];rfl
       ·rw[g];exact⟨B,C⟩
      ·rw[d];exact Ds j A ((Rr f).1 1 _ j)
     ·rw[o]
      rw[Ch z];exact Ds z G ((Rr f).1 1 _ z)
    ·rw[c]
     rw[Ch i,Ch i];exact Ds i w ((Rr f).1 1 _ i)
   |none=>
    rw[if_neg (by rw[Ct h];decide)];dsimp only;rcases Ek (s:=[61]) (l:=q)with⟨D,d,p,I⟩|⟨n,d,j,A⟩
    ·rw[d,p]
     dsimp only;rcases Ck (aG f D (by omega))with⟨y,J,g,t⟩|⟨n,g,B,C⟩
     ·rw[g,t];rfl
     ·rw[g];exact⟨B,C⟩
    ·rw[d];exact Ds j A ((Rr f).1 1 _ j)
 ·rw[k]
  dsimp only;unfold nmT;rw[if_neg (by rw[Dq b];decide),if_neg (by rw[Dq b];decide),Ch b];exact Ds b h ((Rr f).1 1 _ b)
theorem si_law(f:Nat)(l:List Tk)(g:14*l.length+12≤f):Rel (siT f (false,l)) (Bd f l):=by
 unfold siT Bd
 cases h1:Bi [98,114,101,97,107] l with
 |some r=>rw[if_pos (Bj h1).1,(Bj h1).2];rfl
 |none=>
  rw[if_neg (by rw[Ct h1];decide)];dsimp only
  cases h2:Bi [99,111,110,116,105,110,117,101] l with
  |some r=>rw[if_pos (Bj h2).1,(Bj h2).2];rfl
  |none=>
   rw[if_neg (by rw[Ct h2];decide)];dsimp only
   cases b:Bi [114,101,116,117,114,110] l with
   |some r=>
    have e:=Bn b;rw[if_pos (Bj b).1,(Bj b).2];dsimp only;rcases Ck (aG f r (by omega))with⟨x,u,a,d⟩|⟨n,a,b,c⟩
    ·rw[a,d];rfl
    ·rw[a];exact⟨b,c⟩
   |none=>
    rw[if_neg (by rw[Ct b];decide)];dsimp only
    cases c:Bi [112,114,105,110,116] l with
    |some r=>
     have e:=Bn c;rw[if_pos (Bj c).1,(Bj c).2];dsimp only;rcases Ck (Us f r (by omega))with⟨x,u,a,d⟩|⟨n,a,b,c⟩
     ·rw[a,d];rfl
     ·rw[a];exact⟨b,c⟩
    |none=>
     rw[if_neg (by rw[Ct c];decide)];dsimp only
     cases h5:Bi [116,114,97,112] l with
     |some r=>
      have e:=Bn h5;rw[if_pos (Bj h5).1,(Bj h5).2];dsimp only;rcases Ck (Us f r (by omega))with⟨x,u,a,d⟩|⟨n,a,b,c⟩
      ·rw[a,d];rfl
      ·rw[a];exact⟨b,c⟩
     |none=>
      rw[if_neg (by rw[Ct h5];decide)];exact nm_law f l g
structure Tg (w:Zm)(p tb cap i:Nat)(L:List Tk)(b:Bool):Prop where
 own:Ad w p [.slice (some ⟨tb,0,none⟩) L.length cap,.int .i64 (i:Int),.bool b] 85
 row:Ko w tb 0 L
 hcap:L.length≤cap
 fit:L.length≤1000000
 lt:tb<p
 ends:Iy (L.drop i)
 nums:∀t,t∈L→I64 t.num
def Rs(w:Zm)(p a cap:Nat)(L:List Tk)(st:PS):Prop:= ∃i,Tg w p a cap i L st.1∧st.2=L.drop i
theorem Ko.nth {w:Zm}{b:Nat}:∀ {L:List Tk} {a i:Nat} {t:Tk},Ko w b a L→L[i]? =some t→w.cell? ⟨b,a+i*4,none⟩=some (.int .i64 t.kind)∧w.cell? ⟨b,a+i*4+1,none⟩=some (.string (Aa t.text))∧w.cell? ⟨b,a+i*4+2,none⟩=some (.int .i64 t.num)∧w.cell? ⟨b,a+i*4+3,none⟩=some (.int .i64 t.line)
 |[],_,_,_,_,h=>by simp at h
 |u::L,a,0,t,hr,h=>by
  simp at h;subst h;rw[Nat.zero_mul,Nat.add_zero];exact⟨hr.1,hr.2.1,hr.2.2.1,hr.2.2.2.1⟩
 |u::L,a,i+1,t,hr,h=>by
  have:=Ko.nth hr.2.2.2.2 (i:=i) (t:=t) (by simpa using h);rw[show a+4+i*4=a+(i+1)*4 by omega]at this;exact this
theorem Tg.old {w w':Zm}{p d cap i:Nat}{L:List Tk}{b:Bool}(a:Tg w p d cap i L b)(c:Zn w.heap.size w w'):Tg w' p d cap i L b:=
 ⟨a.own.old c,a.row.keep (Be c),a.hcap,a.fit,a.lt,a.ends,a.nums⟩
theorem Rs.old {w w':Zm}{p b cap:Nat}{L:List Tk}{st:PS}(a:Rs w p b cap L st)(c:Zn w.heap.size w w'):Rs w' p b cap L st:=by
 obtain⟨i,a,e⟩:=a;exact⟨i,a.old c,e⟩
theorem Tg.other {w:Zm}{p c cap i:Nat}{L:List Tk}{b:Bool}(a:Tg w p c cap i L b){k:Nat}(d:p<k)(j:Nat)(v:Zo):Tg (w.setCell ⟨k,j,none⟩ v) p c cap i L b:=
 ⟨a.own.other (Nat.ne_of_lt d) j v,a.row.keep (Al w (by have:=a.lt;show ¬k=c;omega) j v),a.hcap,a.fit,a.lt,a.ends,a.nums⟩
theorem Rs.other {w:Zm}{p b cap:Nat}{L:List Tk}{st:PS}(a:Rs w p b cap L st){k:Nat}(c:p<k)(j:Nat)(v:Zo):Rs (w.setCell ⟨k,j,none⟩ v) p b cap L st:=by
 obtain⟨i,a,e⟩:=a;exact⟨i,a.other c j v,e⟩
theorem Rs.lt {w:Zm}{p b cap:Nat}{L:List Tk}{st:PS}(a:Rs w p b cap L st):p<w.heap.size:=by
 obtain⟨i,a,_⟩:=a;exact a.own.lt
theorem Tg.next {w:Zm}{p j cap i:Nat}{L:List Tk}{b:Bool}(a:Tg w p j cap i L b):∃t c,L.drop i=t::c∧c=L.drop (i+1)∧L[i]? =some t∧i<L.length:=by
 obtain⟨t,c,e⟩:=a.ends.ne;have d:i<L.length:=by
  rcases Nat.lt_or_ge i L.length with a|a
  ·exact a
  ·rw[List.drop_eq_nil_of_le a]at e;cases e
 have f:=List.drop_eq_getElem_cons d;rw[e]at f;injection f with g h
 exact⟨t,c,e,h,by rw[List.getElem?_eq_getElem d,g],d⟩
theorem Tg.eat {w:Zm}{p d cap i:Nat}{L:List Tk}{b:Bool}(a:Tg w p d cap i L b){t:Tk}{j:List Tk}(e:L.drop i=t::j)(c:t.kind≠5):
  Rs (w.setCell ⟨p,1,none⟩ (.int .i64 ((i:Int)+1))) p d cap L (b,j)∧SFr p w (w.setCell ⟨p,1,none⟩ (.int .i64 ((i:Int)+1))):=by
 obtain⟨o,n,f,g,_,_⟩:=a.next;rw[e]at f;injection f with m l
 subst l;have h:=a.ends;rw[e]at h;refine⟨⟨i+1,⟨?_,a.row.keep (Al w (by have:=a.lt;show ¬p=d;omega) 1 _),a.hcap,a.fit,a.lt,?_,a.nums⟩,g⟩,⟨rfl,rfl,rfl,by simp [World.setCell],fun k _ c=>Below.heap_setCell _ _ _ _ c⟩⟩
 ·have:=a.own.set 1 (ι ((i:Int)+1))
  rwa[show((i:Int)+1)=((i+1:Nat):Int)by omega]at this ⊢
 ·rw[←g];exact h.tail c
theorem Tg.bad {w:Zm}{p c cap i:Nat}{L:List Tk}{b:Bool}(a:Tg w p c cap i L b):
  Rs (w.setCell ⟨p,2,none⟩ (.bool true)) p c cap L (true,L.drop i)∧SFr p w (w.setCell ⟨p,2,none⟩ (.bool true)):=
 ⟨⟨i,⟨a.own.set 2 _,a.row.keep (Al w (by have:=a.lt;show ¬p=c;omega) 2 _),a.hcap,a.fit,a.lt,a.ends,a.nums⟩,rfl⟩,⟨rfl,rfl,rfl,by simp [World.setCell],fun k _ d=>Below.heap_setCell _ _ _ _ d⟩⟩
theorem rpSee(p k cap:Nat)(L:List Tk)(s:Bs)(st:PS)(w:Zm)(a:Rs w p k cap L st):
  Zp Ze 113 #[.pointer (some ⟨p,0,none⟩),.string (Aa s)] w fun e w'=>e=.returned (.bool (Cp s st))∧Zn w.heap.size w w':=by
 obtain⟨b,l⟩:=st;obtain⟨i,a,e⟩:=a;have e:l=L.drop i:=e;obtain⟨t,j,f,m,g,E⟩:=a.next;have r:l=t::j:=e.trans f;subst r;have h:Zn w.heap.size w (w.alloc (.cells #[ι t.kind,σ t.text,ι t.num,ι t.line] 87)).drew:=(bA).drew;have c:=Za h;obtain⟨v,x,y,z⟩:=a.row.nth g;rw[Nat.zero_add]at v x y z;obtain ⟨B, C⟩ := τ2 a.own;have D:w.cell? ⟨p,2,none⟩=some (.bool b):=a.own.at 2 _ rfl;have u:=a.own.lt;have H:k<w.heap.size:=Nat.lt_trans a.lt u;have F:(i:Int)<(L.length:Int):=by omega
 have G:(0:Int)≤(i:Int):=by omega
 clear a e f m g h;generalize L.length=n at*;go_enter func113,ntmps113;go_upto_region 1 with(fail);go_cut [5]from 5 to 15 (fun q A=>q= π w.heap.size∧A=(w.alloc (.cells #[ι t.kind,σ t.text,ι t.num,ι t.line] 87)).drew)
 case first=>
  go_region_law (fail)
  all_goals
   go_wp2;go_meet;exact⟨rfl,rfl⟩
 case rest=>
 obtain⟨rfl,rfl⟩:=hcut
 cases b with
 |true=>
  go_wp2;go_ret
  exact⟨rfl,c.o⟩
 |false=>
  clear e;have d:Hid (Cp s (false,t::j)=((t.kind==2||t.kind==4) && t.text==s)):=rfl
  cases k2:(t.kind==2)
  ·cases k4:(t.kind==4)
   ·go_wp2
    go_ret
    exact⟨by simp [d.o,k2,k4],c.o⟩
   ·have I:t.kind≠2:=by simpa using k2
    go_wp2;go_ret
    exact⟨by simp [d.o,k2,k4],c.o⟩
  ·go_wp2
   go_ret
   exact⟨by simp [d.o,k2],c.o⟩
theorem sF {s:Bs}{b:Bool}{t:Tk}{c:List Tk}(a:Cp s (b,t::c)=true):b=false∧t.kind≠5:=by
 cases b with
 |true=>cases a
 |false=>exact⟨rfl,Wf a⟩
theorem Rp(p j cap:Nat)(L:List Tk)(s:Bs)(st:PS)(w:Zm)(h:Rs w p j cap L st):
  Zp Ze 70 #[.pointer (some ⟨p,0,none⟩),.string (Aa s)] w fun e w'=>e=.returned (.bool (Cp s st))∧SFr p w w'∧Rs w' p j cap L (if Cp s st=true then Bg st else st):=by
 obtain⟨d,m⟩:=Y2 (rpSee p j cap L s st w h) h;clear h
 cases hs:Cp s st with
 |false=>
  rw[hs]at d;rw[if_neg (by decide)];clear hs;go_enter func70,ntmps70;go_wp2_with fail;refine d.o.mono ?_;rintro e x ⟨rfl,c⟩;obtain⟨f,n⟩:=Y2 (Zd (s:=p) c) (m.o.old c);clear c;go_wp2;go_ret
  exact⟨rfl,f.o,n.o⟩
 |true=>
  rw[hs]at d;rw[if_pos rfl];have q:=Za hs;clear hs;go_enter func70,ntmps70;go_wp2_with fail;refine d.o.mono ?_;rintro e x ⟨rfl,c⟩;have f:=Za (Zd (s:=p) c);obtain⟨b,l⟩:=st;obtain⟨i,a,e⟩:=m.o.old c;have e:l=L.drop i:=e;obtain⟨t,v,g,_,_,A⟩:=a.next;have u:l=t::v:=e.trans g;subst u;obtain⟨rfl,r⟩:=sF q.o;have k:=Za (a.eat g r);have y:=a.own.at 1 _ rfl;have D:=a.own.fz 1;have B:=a.own.lt;have z:=a.fit;have C:IntKind.i64.wrap ((i:Int)+1)=(i:Int)+1:=Zk _ (by omega);clear c a e g;go_wp2;go_ret
  exact⟨rfl,f.o.trans k.o.2,k.o.1⟩
theorem Nj(p g cap:Nat)(L:List Tk)(s:Bs)(st:PS)(w:Zm)(j:Rs w p g cap L st):
  Zp Ze 68 #[.pointer (some ⟨p,0,none⟩),.string (Aa s)] w fun e w'=>e=.returned (.tuple #[])∧SFr p w w'∧Rs w' p g cap L (Ap s st):=by
 have c:=Za (Rp p g cap L s st w j);clear j;unfold Ap
 cases hs:Cp s st with
 |true=>
  rw[hs,if_pos rfl]at c;rw[if_pos rfl];clear hs;go_enter func68,ntmps68;go_wp2_with fail;refine c.o.mono ?_;rintro e m ⟨rfl,b,d⟩;obtain⟨f,l⟩:=Y2 b d;clear b d;go_wp2
  go_end0
  exact⟨rfl,f.o,l.o⟩
 |false=>
  rw[hs,if_neg (by decide)]at c;rw[if_neg (by decide)];clear hs;go_enter func68,ntmps68;go_wp2_with fail;refine c.o.mono ?_;rintro e m ⟨rfl,b,d⟩;obtain⟨i,a,e⟩:=d;have h:=Za a.bad;have n:=a.own.at 2 _ rfl;have r:=a.own.fz 2;have q:=a.own.lt;obtain⟨f,k⟩:=Y2 b e;clear b a e;go_wp2
  go_end0
  exact⟨rfl,f.o.trans h.o.2,by rw[k.o];exact h.o.1⟩
theorem cB(p r cap:Nat)(L:List Tk)(st:PS)(w:Zm)(a:Rs w p r cap L st):
  Zp Ze 69 #[.pointer (some ⟨p,0,none⟩)] w fun e w'=>e=.returned (.string (Aa (Bl st).1))∧SFr p w w'∧Rs w' p r cap L (Bl st).2:=by
 obtain⟨b,l⟩:=st;obtain⟨i,a,e⟩:=a;have e:l=L.drop i:=e;subst e;obtain⟨t,O,A,H,B,J⟩:=a.next;have k:Zn w.heap.size w (w.alloc (.cells #[ι t.kind,σ t.text,ι t.num,ι t.line] 87)).drew:=(bA).drew;obtain⟨j,d⟩:=Y2 (Zd (s:=p) k) (a.old k);have v:Hid (Ad (w.alloc (.cells #[ι t.kind,σ t.text,ι t.num,ι t.line] 87)).drew w.heap.size [ι t.kind,σ t.text,ι t.num,ι t.line] 87):=(Zf w [ι t.kind,σ t.text,ι t.num,ι t.line] 87).old (Zg _ _).drew;obtain⟨C,D,E,F⟩:=a.row.nth B;rw[Nat.zero_add]at C D E F;obtain ⟨x, y⟩ := τ2 a.own;have z:w.cell? ⟨p,2,none⟩=some (.bool b):=a.own.at 2 _ rfl;have m:=a.own.lt;have N:r<w.heap.size:=Nat.lt_trans a.lt m;have I:=a.fit;have G:Hid (p≠w.heap.size):=(by omega:p≠w.heap.size);have K:(i:Int)<(L.length:Int):=by omega
 have V:(0:Int)≤(i:Int):=by omega
 have X:IntKind.i64.wrap ((i:Int)+1)=(i:Int)+1:=Zk _ (by omega);obtain⟨f,h⟩:=Y2 d.o.bad A;clear a B H A k;obtain⟨n,M⟩:∃n,L.length=n:=⟨_,rfl⟩;rw[M]at x K I J;go_enter func69,ntmps69;go_upto_region 1 with(fail);go_cut [3]from 3 to 13 (fun q Q=>q= π w.heap.size∧Q=(w.alloc (.cells #[ι t.kind,σ t.text,ι t.num,ι t.line] 87)).drew)
 case first=>
  go_region_law (fail)
  all_goals
   go_wp2;go_meet;exact⟨rfl,rfl⟩
 case rest=>
 obtain⟨rfl,rfl⟩:=hcut;clear C D E F x y z m N;generalize (w.alloc (.cells #[ι t.kind,σ t.text,ι t.num,ι t.line] 87)).drew=P at*;obtain ⟨R, S, T⟩ := τ3 v.out;have U:=v.out.lt;have y:=d.o.own.at 1 _ rfl;have z:P.cell? ⟨p,2,none⟩=some (.bool b):=d.o.own.at 2 _ rfl;have Y:=d.o.own.fz 1;have Z:=d.o.own.fz 2;have m:=d.o.own.lt;have W:p≠w.heap.size:=G.o
 cases b with
 |true=>
  have c:Hid (Bl (true,L.drop i)=([],(true,L.drop i))):=Ms rfl;go_wp2;go_ret
  exact⟨by rw[c.out];rfl,j.o.trans f.o.2,by rw[c.out];exact f.o.1⟩
 |false=>
  have g:Py 1 (false,L.drop i)=decide (t.kind=1):=by rw[h.out];rfl
  by_cases hk:t.kind=1
  ·have c:Hid (Bl (false,L.drop i)=(t.text,(false,O))):=by
    show Bl _=_
    unfold Bl;rw[g,if_pos (decide_eq_true hk),h.out];rfl
   have u:=Za (d.o.eat h.out (by rw[hk];decide));clear g;go_wp2;go_ret
   exact⟨by rw[c.out];rfl,j.o.trans u.o.2,by rw[c.out];exact u.o.1⟩
  ·have c:Hid (Bl (false,L.drop i)=([],(true,L.drop i))):=by
    show Bl _=_
    unfold Bl;rw[g,if_neg (by simpa using hk)]
   clear g;go_wp2;go_ret
   exact⟨by rw[c.out];rfl,j.o.trans f.o.2,by rw[c.out];exact f.o.1⟩
theorem fX(p r cap:Nat)(L:List Tk)(st:PS)(w:Zm)(a:Rs w p r cap L st):
  Zp Ze 72 #[.pointer (some ⟨p,0,none⟩)] w fun e w'=>e=.returned (.int .i64 (Jv st).1)∧SFr p w w'∧Rs w' p r cap L (Jv st).2:=by
 obtain⟨b,l⟩:=st;obtain⟨i,a,e⟩:=a;have e:l=L.drop i:=e;subst e;obtain⟨t,O,A,H,B,J⟩:=a.next;have k:Zn w.heap.size w (w.alloc (.cells #[ι t.kind,σ t.text,ι t.num,ι t.line] 87)).drew:=(bA).drew;obtain⟨j,d⟩:=Y2 (Zd (s:=p) k) (a.old k);have v:Hid (Ad (w.alloc (.cells #[ι t.kind,σ t.text,ι t.num,ι t.line] 87)).drew w.heap.size [ι t.kind,σ t.text,ι t.num,ι t.line] 87):=(Zf w [ι t.kind,σ t.text,ι t.num,ι t.line] 87).old (Zg _ _).drew;obtain⟨C,D,E,F⟩:=a.row.nth B;rw[Nat.zero_add]at C D E F;obtain ⟨x, y⟩ := τ2 a.own;have z:w.cell? ⟨p,2,none⟩=some (.bool b):=a.own.at 2 _ rfl;have m:=a.own.lt;have N:r<w.heap.size:=Nat.lt_trans a.lt m;have I:=a.fit;have G:Hid (p≠w.heap.size):=(by omega:p≠w.heap.size);have K:(i:Int)<(L.length:Int):=by omega
 have V:(0:Int)≤(i:Int):=by omega
 have X:IntKind.i64.wrap ((i:Int)+1)=(i:Int)+1:=Zk _ (by omega);obtain⟨f,h⟩:=Y2 d.o.bad A;clear a B H A k;obtain⟨n,M⟩:∃n,L.length=n:=⟨_,rfl⟩;rw[M]at x K I J;go_enter func72,ntmps72;go_upto_region 1 with(fail);go_cut [3]from 3 to 13 (fun q Q=>q= π w.heap.size∧Q=(w.alloc (.cells #[ι t.kind,σ t.text,ι t.num,ι t.line] 87)).drew)
 case first=>
  go_region_law (fail)
  all_goals
   go_wp2;go_meet;exact⟨rfl,rfl⟩
 case rest=>
 obtain⟨rfl,rfl⟩:=hcut;clear C D E F x y z m N;generalize (w.alloc (.cells #[ι t.kind,σ t.text,ι t.num,ι t.line] 87)).drew=P at*;obtain ⟨R, S, T⟩ := τ3 v.out;have U:=v.out.lt;have y:=d.o.own.at 1 _ rfl;have z:P.cell? ⟨p,2,none⟩=some (.bool b):=d.o.own.at 2 _ rfl;have Y:=d.o.own.fz 1;have Z:=d.o.own.fz 2;have m:=d.o.own.lt;have W:p≠w.heap.size:=G.o
 cases b with
 |true=>
  have c:Hid (Jv (true,L.drop i)=(0,(true,L.drop i))):=nB rfl;go_wp2;go_ret
  exact⟨by rw[c.out];rfl,j.o.trans f.o.2,by rw[c.out];exact f.o.1⟩
 |false=>
  have g:Py 3 (false,L.drop i)=decide (t.kind=3):=by rw[h.out];rfl
  by_cases hk:t.kind=3
  ·have c:Hid (Jv (false,L.drop i)=(t.num,(false,O))):=by
    show Jv _=_
    unfold Jv;rw[g,if_pos (decide_eq_true hk),h.out];rfl
   have u:=Za (d.o.eat h.out (by rw[hk];decide));clear g;go_wp2;go_ret
   exact⟨by rw[c.out];rfl,j.o.trans u.o.2,by rw[c.out];exact u.o.1⟩
  ·have c:Hid (Jv (false,L.drop i)=(0,(true,L.drop i))):=by
    show Jv _=_
    unfold Jv;rw[g,if_neg (by simpa using hk)]
   clear g;go_wp2;go_ret
   exact⟨by rw[c.out];rfl,j.o.trans f.o.2,by rw[c.out];exact f.o.1⟩
theorem vL:∀k:Nat,k<19→([.string ⟨#[43]⟩,.string ⟨#[45]⟩,.string ⟨#[42]⟩,.string ⟨#[47]⟩,.string ⟨#[37]⟩,.string ⟨#[38]⟩,.string ⟨#[124]⟩,.string ⟨#[94]⟩,.string ⟨#[60,60]⟩,.string ⟨#[62,62]⟩,.string ⟨#[60]⟩,.string ⟨#[60,61]⟩,.string ⟨#[62]⟩,.string ⟨#[62,61]⟩,.string ⟨#[61,61]⟩,.string ⟨#[33,61]⟩,.string ⟨#[45]⟩,.string ⟨#[33]⟩,.string ⟨#[126]⟩]:List Zo)[k]? =some (.string (Aa (As ((k:Int)+1)))):=by
 intro k a;have:k=0∨k=1∨k=2∨k=3∨k=4∨k=5∨k=6∨k=7∨k=8∨k=9∨k=10∨k=11∨k=12∨k=13∨k=14∨k=15∨k=16∨k=17∨k=18:=by omega
 rcases this with rfl|rfl|rfl|rfl|rfl|rfl|rfl|rfl|rfl|rfl|rfl|rfl|rfl|rfl|rfl|rfl|rfl|rfl|rfl<;>rfl
theorem rH:∀k:Nat,k<16→([.int .i64 7,.int .i64 7,.int .i64 8,.int .i64 8,.int .i64 8,.int .i64 3,.int .i64 1,.int .i64 2,.int .i64 6,.int .i64 6,.int .i64 5,.int .i64 5,.int .i64 5,.int .i64 5,.int .i64 4,.int .i64 4]:List Zo)[k]? =some (.int .i64 (Ao ((k:Int)+1))):=by
 intro k a;have:k=0∨k=1∨k=2∨k=3∨k=4∨k=5∨k=6∨k=7∨k=8∨k=9∨k=10∨k=11∨k=12∨k=13∨k=14∨k=15:=by omega
 rcases this with rfl|rfl|rfl|rfl|rfl|rfl|rfl|rfl|rfl|rfl|rfl|rfl|rfl|rfl|rfl|rfl<;>rfl
theorem vZ(d:Int)(f:d<1∨19<d):As d=[]:=by
 have c:∀j:Int,1≤j→j≤19→d≠j:=fun j a b e=>by omega
 unfold As;rw[if_neg (c 1 (by decide) (by decide)),if_neg (c 2 (by decide) (by decide)),if_neg (c 3 (by decide) (by decide)),if_neg (c 4 (by decide) (by decide)),if_neg (c 5 (by decide) (by decide)),if_neg (c 6 (by decide) (by decide)),if_neg (c 7 (by decide) (by decide)),if_neg (c 8 (by decide) (by decide)),if_neg (c 9 (by decide) (by decide)),if_neg (c 10 (by decide) (by decide)),if_neg (c 11 (by decide) (by decide)),if_neg (c 12 (by decide) (by decide)),if_neg (c 13 (by decide) (by decide)),if_neg (c 14 (by decide) (by decide)),if_neg (c 15 (by decide) (by decide)),if_neg (c 16 (by decide) (by decide)),if_neg (c 17 (by decide) (by decide)),if_neg (c 18 (by decide) (by decide)),if_neg (c 19 (by decide) (by decide))]
theorem oK(d:Int)(f:d<1∨16<d):Ao d=0:=by
 have c:∀j:Int,1≤j→j≤16→d≠j:=fun j a b e=>by omega
 unfold Ao;rw[if_neg (c 1 (by decide) (by decide)),if_neg (c 2 (by decide) (by decide)),if_neg (c 3 (by decide) (by decide)),if_neg (c 4 (by decide) (by decide)),if_neg (c 5 (by decide) (by decide)),if_neg (c 6 (by decide) (by decide)),if_neg (c 7 (by decide) (by decide)),if_neg (c 8 (by decide) (by decide)),if_neg (c 9 (by decide) (by decide)),if_neg (c 10 (by decide) (by decide)),if_neg (c 11 (by decide) (by decide)),if_neg (c 12 (by decide) (by decide)),if_neg (c 13 (by decide) (by decide)),if_neg (c 14 (by decide) (by decide)),if_neg (c 15 (by decide) (by decide)),if_neg (c 16 (by decide) (by decide))]
def SgnIs(a:Int)(e:Ending):Prop:= ∃b,e=.returned (.tuple #[.string (Aa (As a)),.bool b])
theorem bP(a:Int)(w:Zm):
  Zp Ze 117 #[.int .i64 a] w fun e w'=>SgnIs a e∧Zn w.heap.size w w':=by
 by_cases b:a<1∨19<a
 ·have c:=Za (vZ a b)
  rcases b with b|b
  ·go_enter func117,ntmps117
   go_wp2
   go_ret2
   exact⟨⟨_,by rw[c.o];rfl⟩,Zg _ _⟩
  ·have m:¬a<1:=by omega
   go_enter func117,ntmps117;go_wp2
   go_ret2
   exact⟨⟨_,by rw[c.o];rfl⟩,Zg _ _⟩
 ·obtain⟨k,rfl⟩:∃k:Nat,a=(k:Int)+1:=⟨(a-1).toNat,by omega⟩
  have l:k<19:=by omega
  obtain⟨h,g⟩:=Y2 (Zf w [.string ⟨#[43]⟩,.string ⟨#[45]⟩,.string ⟨#[42]⟩,.string ⟨#[47]⟩,.string ⟨#[37]⟩,.string ⟨#[38]⟩,.string ⟨#[124]⟩,.string ⟨#[94]⟩,.string ⟨#[60,60]⟩,.string ⟨#[62,62]⟩,.string ⟨#[60]⟩,.string ⟨#[60,61]⟩,.string ⟨#[62]⟩,.string ⟨#[62,61]⟩,.string ⟨#[61,61]⟩,.string ⟨#[33,61]⟩,.string ⟨#[45]⟩,.string ⟨#[33]⟩,.string ⟨#[126]⟩] 9) ((Zg w.heap.size w).alloc (Zc _) (.cells ([.string ⟨#[43]⟩,.string ⟨#[45]⟩,.string ⟨#[42]⟩,.string ⟨#[47]⟩,.string ⟨#[37]⟩,.string ⟨#[38]⟩,.string ⟨#[124]⟩,.string ⟨#[94]⟩,.string ⟨#[60,60]⟩,.string ⟨#[62,62]⟩,.string ⟨#[60]⟩,.string ⟨#[60,61]⟩,.string ⟨#[62]⟩,.string ⟨#[62,61]⟩,.string ⟨#[61,61]⟩,.string ⟨#[33,61]⟩,.string ⟨#[45]⟩,.string ⟨#[33]⟩,.string ⟨#[126]⟩]:List Zo).toArray 9));have i:=h.o.at k _ (vL k l);have q:(k:Int)<19:=by omega
  have o:(k:Int)+1≤19:=by omega
  have p:(1:Int)≤(k:Int)+1:=by omega
  obtain⟨S,f⟩:∃S,As ((k:Int)+1)=S:=⟨_,rfl⟩;rw[f]at i;have c:=Za f;clear f;obtain⟨d,j⟩:∃d,w.alloc (.cells ([.string ⟨#[43]⟩,.string ⟨#[45]⟩,.string ⟨#[42]⟩,.string ⟨#[47]⟩,.string ⟨#[37]⟩,.string ⟨#[38]⟩,.string ⟨#[124]⟩,.string ⟨#[94]⟩,.string ⟨#[60,60]⟩,.string ⟨#[62,62]⟩,.string ⟨#[60]⟩,.string ⟨#[60,61]⟩,.string ⟨#[62]⟩,.string ⟨#[62,61]⟩,.string ⟨#[61,61]⟩,.string ⟨#[33,61]⟩,.string ⟨#[45]⟩,.string ⟨#[33]⟩,.string ⟨#[126]⟩]:List Zo).toArray 9)=d:=⟨_,rfl⟩;have n:w.alloc (.cells #[.string ⟨#[43]⟩,.string ⟨#[45]⟩,.string ⟨#[42]⟩,.string ⟨#[47]⟩,.string ⟨#[37]⟩,.string ⟨#[38]⟩,.string ⟨#[124]⟩,.string ⟨#[94]⟩,.string ⟨#[60,60]⟩,.string ⟨#[62,62]⟩,.string ⟨#[60]⟩,.string ⟨#[60,61]⟩,.string ⟨#[62]⟩,.string ⟨#[62,61]⟩,.string ⟨#[61,61]⟩,.string ⟨#[33,61]⟩,.string ⟨#[45]⟩,.string ⟨#[33]⟩,.string ⟨#[126]⟩] 9)=d:=j;rw[j]at i g;clear h b;go_enter func117,ntmps117;go_wp2
  go_ret2
  exact⟨⟨_,by rw[c.o];rfl⟩,g.o⟩
theorem lU(a:Int)(w:Zm):
  Zp Ze 119 #[.int .i64 a] w fun e w'=>e=.returned (.int .i64 (Ao a))∧Zn w.heap.size w w':=by
 by_cases b:a<1∨16<a
 ·rw[oK a b]
  rcases b with b|b
  ·go_enter func119,ntmps119
   go_wp2;go_ret
   exact⟨rfl,Zg _ _⟩
  ·have j:¬a<1:=by omega
   go_enter func119,ntmps119;go_wp2;go_ret
   exact⟨rfl,Zg _ _⟩
 ·obtain⟨k,rfl⟩:∃k:Nat,a=(k:Int)+1:=⟨(a-1).toNat,by omega⟩
  have i:k<16:=by omega
  obtain⟨f,d⟩:=Y2 (Zf w [ι 7,ι 7,ι 8,ι 8,ι 8,ι 3,ι 1,ι 2,ι 6,ι 6,ι 5,ι 5,ι 5,ι 5,ι 4,ι 4] 3) ((Zg w.heap.size w).alloc (Zc _) (.cells ([ι 7,ι 7,ι 8,ι 8,ι 8,ι 3,ι 1,ι 2,ι 6,ι 6,ι 5,ι 5,ι 5,ι 5,ι 4,ι 4]:List Zo).toArray 3));have h:=f.o.at k _ (rH k i);have o:(k:Int)<16:=by omega
  have m:(k:Int)+1≤16:=by omega
  have n:(1:Int)≤(k:Int)+1:=by omega
  generalize Ao ((k:Int)+1)=S at*;obtain⟨c,g⟩:∃c,w.alloc (.cells ([ι 7,ι 7,ι 8,ι 8,ι 8,ι 3,ι 1,ι 2,ι 6,ι 6,ι 5,ι 5,ι 5,ι 5,ι 4,ι 4]:List Zo).toArray 3)=c:=⟨_,rfl⟩;have l:w.alloc (.cells #[ι 7,ι 7,ι 8,ι 8,ι 8,ι 3,ι 1,ι 2,ι 6,ι 6,ι 5,ι 5,ι 5,ι 5,ι 4,ι 4] 3)=c:=g;rw[g]at h d;clear f b;go_enter func119,ntmps119;go_wp2;go_ret
  exact⟨rfl,d.o⟩
theorem gJ {s:Bs}{st:PS}(a:Cp s st=true):(Ub st).text=s:=by
 obtain⟨b,l⟩:=st
 cases b with
 |true=>cases a
 |false=>
  cases l with
  |nil=>cases a
  |cons t r=>exact Ws a
theorem sg_some {lv k:Int}{st:PS}(d:k∈Gq)(a:Cp (As k) st=true)(f:Ao k=lv):sgT lv st=some k:=by
 unfold sgT;rw[Sk Gq k d (fun b e c=>by
  rw[Zj]at c;exact mC b e k d ((gJ c.1).symm.trans (gJ a))),if_pos (by rw[a,Bool.true_and];exact decide_eq_true f)]
theorem sg_none {lv:Int}{st:PS}(b:∀k,k∈Gq→(Cp (As k) st && decide (Ao k=lv))=false):sgT lv st=none:=by
 unfold sgT;rw[Zl];intro k c a;rw[b k c]at a
 cases a
theorem ops_mem(n:Nat)(a:1≤n)(b:n≤16):(n:Int)∈Gq:=by
 unfold Gq;rw[List.mem_map];exact⟨n-1,List.mem_range.2 (by omega),by omega⟩
theorem mQ:∀k,k∈Gq→1≤k:=by decide
theorem ops_le:∀k,k∈Gq→k≤16:=by decide
def sgV(lv:Int)(st:PS):Int:=(sgT lv st).getD 0
def sgS(lv:Int)(st:PS):PS:=if(sgT lv st).isSome=true then Bg st else st
theorem rpSign(p c cap:Nat)(L:List Tk)(lv:Int)(st:PS)(w:Zm)(C:Rs w p c cap L st):
  Zp Ze 80 #[.pointer (some ⟨p,0,none⟩),.int .i64 lv] w fun e w'=>e=.returned (.int .i64 (sgV lv st))∧SFr p w w'∧Rs w' p c cap L (sgS lv st):=by
 obtain⟨K,O,J,G⟩:=Y4 C (fun v d=>bP v d) (fun v d=>lU v d) (fun s d (i:Rs d p c cap L st)=>Rp p c cap L s st d i);clear C;go_enter func80,ntmps80;go_wp2
 go_loopw [5,6,7,8] (fun a _ _ _ F=> ∃n:Nat,a= ι (n:Int)∧1≤n∧n≤17∧(∀k:Int,k∈Gq→k<n→(Cp (As k) st && decide (Ao k=lv))=false)∧SFr p w F∧Rs F p c cap L st) (fun a _ _ _ _=>17-(intOf a).toNat)
 case atStart=>exact⟨1,rfl,by omega,by omega,fun k b i=>by have:=Rx k b;have T:=(mQ k b);omega,SFr.refl _ _,K.o⟩
 case round=>
  obtain⟨n,rfl,i,S,D,j,m⟩:=hrel;obtain⟨y,x,z⟩:=Y3 D j m;clear D j m
  by_cases h16:n≤16
  ·have V:(n:Int)≤16:=by omega
   have W:IntKind.i64.wrap ((n:Int)+1)=(n:Int)+1:=Zk _ (by omega);have P:=Za (ops_mem n i h16);go_wp2_with fail;refine Zb (O.o _ _) ?_;rintro e d ⟨⟨R,rfl⟩,t⟩;obtain⟨H,M⟩:=Y2 (x.o.trans (Zd t)) (z.o.old t);clear t;go_wp2_with fail;refine Zb (J.o _ _) ?_;rintro e w2 ⟨rfl,u⟩;obtain⟨q,A⟩:=Y2 (H.o.trans (Zd u)) (M.o.old u);clear u;have E:∀f,(Cp (As n) st && decide (Ao n=lv))=false→SFr p w f→Rs f p c cap L st→∃o:Nat,Value.int .i64 ((n:Int)+1)= ι (o:Int)∧1≤o∧o≤17∧(∀k:Int,k∈Gq→k<o→(Cp (As k) st && decide (Ao k=lv))=false)∧SFr p w f∧Rs f p c cap L st:=by
    intro f Q j m;refine⟨n+1,by rw[Int.natCast_add];rfl,by omega,by omega,fun k b U=>?_,j,m⟩
    by_cases hkn:k<n
    ·exact y.o k b hkn
    ·obtain rfl:k=(n:Int):=by omega
     exact Q
   have B:=Za E;clear E
   by_cases hlv:Ao n=lv
   ·go_wp2_with fail
    refine Zb (G.o _ _ A.o) ?_;rintro e f ⟨rfl,l,g⟩
    cases hs:Cp (As n) st with
    |true=>
     rw[hs,if_pos rfl]at g;obtain⟨h,I,N⟩:=Y3 (sg_some P.out hs hlv) (q.o.trans l) g;clear l g;go_wp2;go_ret
     exact⟨by unfold sgV;rw[h.o];rfl,I.o,by unfold sgS;rw[h.o];exact N.o⟩
    |false=>
     rw[hs,if_neg (by decide)]at g;have r:=Za (B.out f (by rw[hs];rfl) (q.o.trans l) g);clear l g;go_wp2;go_roundw
     case rel=>exact r.o
     case measure=>simp [intOf];omega
   ·have r:=Za (B.out w2 (by rw[decide_eq_false hlv,Bool.and_false]) q.o A.o)
    go_wp2;go_roundw
    case rel=>exact r.o
    case measure=>simp [intOf];omega
  ·obtain rfl:n=17:=by omega
   have h:=Za (sg_none (lv:=lv) (st:=st) (fun k b=>y.o k b (by have:=ops_le k b;omega)));go_wp2;go_ret
   exact⟨by unfold sgV;rw[h.o];rfl,x.o,by unfold sgS;rw[h.o];exact z.o⟩
theorem Ea(st:PS):(Bg st).2.length≤st.2.length:=by
 show st.2.tail.length≤_
 rw[List.length_tail];omega
theorem Dw {s:Bs}{st:PS}(a:Cp s st=true):(Bg st).2.length<st.2.length:=by
 obtain⟨b,l⟩:=st
 cases b with
 |true=>cases a
 |false=>
  cases l with
  |nil=>cases a
  |cons t r=>show r.length<r.length+1;omega
theorem Ce(s:Bs)(st:PS):(Ap s st).2.length≤st.2.length:=by
 unfold Ap;split
 ·exact Ea st
 ·exact Zc _
theorem Ka(st:PS):(Bl st).2.2.length≤st.2.length:=by
 unfold Bl;split
 ·exact Ea st
 ·exact Zc _
theorem mW(st:PS):(Jv st).2.2.length≤st.2.length:=by
 unfold Jv;split
 ·exact Ea st
 ·exact Zc _
theorem nP {lv op:Int}{st:PS}(a:sgT lv st=some op):(Bg st).2.length<st.2.length∧st.1=false:=by
 have:=List.find?_some a;rw[Zj]at this;refine⟨Dw this.1,?_⟩
 cases hb:st.1 with
 |false=>rfl
 |true=>rw[Dq hb]at this;cases this.1
theorem Ot:∀f:Nat,(∀lv st,(xT f lv st).2.2.length≤st.2.length)∧(∀lv x st,(lT f lv x st).2.2.length≤st.2.length)∧(∀st,(tT f st).2.2.length≤st.2.length)∧
  (∀s st,(nT f s st).2.2.length≤st.2.length)∧(∀st,(aT f st).2.2.length≤st.2.length)∧(∀a st,(mT f a st).2.2.length≤st.2.length)
 |0=>⟨fun _ _=>Zc _,fun _ _ _=>Zc _,fun _=>Zc _,fun _ _=>Zc _,fun _=>Zc _,fun _ _=>Zc _⟩
 |f+1=>by
  obtain⟨b,h,it,l,k,i⟩:=Ot f;refine⟨?_,?_,?_,?_,?_,?_⟩
  ·intro lv st
   rw[xT];split
   ·exact it st
   ·exact Zh (h _ _ _) (b _ _)
  ·intro lv x st
   rw[lT];split
   ·exact Zc _
   ·exact Zh (h _ _ _) (Zh (b _ _) (Ea st))
  ·intro st
   rw[tT];have e:=Ea st;have c:=it (Bg st);have d:=b 1 (Bg st);have g:=Ce [41] (xT f 1 (Bg st)).2;have j:=Ce [41] (Ap [40] (Bg st));have m:=Ce [40] (Bg st);have n:=mW st;have o:=l (Bl st).1 (Bl st).2;have p:=Ka st
   repeat' split
   all_goals((try dsimp only);omega)
  ·intro s st
   rw[nT];have e:=Ea st;have c:=k (Bg st);have d:=b 1 (Bg st);have g:=Ce [93] (xT f 1 (Bg st)).2
   repeat' split
   all_goals((try dsimp only);omega)
  ·intro st
   rw[aT];have e:=Ea st;have c:=i [] st
   repeat' split
   all_goals((try dsimp only);omega)
  ·intro a st
   rw[mT];have c:=b 1 st;have d:=Ea (xT f 1 st).2;have g:=i (a++[(xT f 1 st).1]) (Bg (xT f 1 st).2);have j:=Ce [41] (xT f 1 st).2
   repeat' split
   all_goals((try dsimp only);omega)
def xD(w:Zm)(p a cap:Nat)(L:List Tk)(q:Ex ×PS)(e:Ending)(w':Zm):Prop:=SFr p w w'∧Rs w' p a cap L q.2∧∃s,e=.returned (exV q.1 s)∧Ag (w.heap.size≤ ·) w' q.1.args s∧I64 q.1.n
def RxC(f:Nat):Prop:= ∀(d:Nat),d≤8→∀(lv:Int),lv=9-d→∀st w p a cap L,14*st.2.length+2+d≤f→Rs w p a cap L st→Zp Ze 34 #[.pointer (some ⟨p,0,none⟩),.int .i64 lv] w (xD w p a cap L (xT f lv st))
def RtC(f:Nat):Prop:= ∀st w p a cap L,14*st.2.length+1≤f→Rs w p a cap L st→Zp Ze 79 #[.pointer (some ⟨p,0,none⟩)] w (xD w p a cap L (tT f st))
theorem Rs.sfr5 {w:Zm}{p h cap:Nat}{L:List Tk}{st:PS}(i:Rs w p h cap L st){b:Nat}(a:p<b)(c d e f g:Zo):Rs (((((w.setCell ⟨b,0,none⟩ c).setCell ⟨b,1,none⟩ d).setCell ⟨b,2,none⟩ e).setCell ⟨b,3,none⟩ f).setCell ⟨b,4,none⟩ g) p h cap L st:=
 ((((i.other a 0 c).other a 1 d).other a 2 e).other a 3 f).other a 4 g
theorem Qm {w a:Zm}{p c cap:Nat}{L:List Tk}{st:PS}{x:Ex}{s:Zo}(o:p<w.heap.size)(d:SFr p w a)(e:Rs a p c cap L st)(f:Ag (w.heap.size+1≤ ·) a x.args s)(m:I64 x.n){g h i j k:Zo}:
  xD w p c cap L (x,st) (.returned (exV x s)) (((((a.setCell ⟨w.heap.size,0,none⟩ g).setCell ⟨w.heap.size,1,none⟩ h).setCell ⟨w.heap.size,2,none⟩ i).setCell ⟨w.heap.size,3,none⟩ j).setCell ⟨w.heap.size,4,none⟩ k):=
 ⟨sfr5 d (Zc _) _ _ _ _ _,e.sfr5 o _ _ _ _ _,_,rfl,(f.keep (Ha a (by show ¬w.heap.size+1≤w.heap.size;omega) _ _ _ _ _)).mono (fun b l=>by have:w.heap.size+1≤b:=l;omega),m⟩
structure RxI (w:Zm)(p tb cap be:Nat)(L:List Tk)(lv:Int)(f:Nat)(R:Ex ×PS)(g:Nat)(x:Ex)(s:Zo)(st s0:PS)(wr:Zm):Prop where
 sfr:SFr p w wr
 ps:Rs wr p tb cap L s0
 own:Ad wr w.heap.size [.int .i64 0,.int .i64 0,.int .i64 0,.string ⟨#[]⟩,.slice none 0 0] 35
 e:Ad wr be [.int .i64 x.kind,.int .i64 x.op,.int .i64 x.n,.string (Aa x.name),s] 35
 tree:Ag (fun b=>w.heap.size+1≤b∧b≠be) wr x.args s
 n:I64 x.n
 fuel:14*st.2.length+1≤g
 le:g≤f
 res:lT g lv x st=R
theorem RxI.step {w:Zm}{p h cap d:Nat}{L:List Tk}{lv:Int}{f:Nat}{i:Ex ×PS}{g:Nat}{x:Ex}{s:Zo}{st m j:PS}{wr w':Zm}(a:RxI w p h cap d L lv f i g x s st m wr)(q:p<w.heap.size)(o:w.heap.size<d)(c:SFr p wr w')(l:Rs w' p h cap L j):RxI w p h cap d L lv f i g x s st j w':=
 ⟨a.sfr.trans c,l,a.own.sfr c (by omega),a.e.sfr c (by omega),a.tree.keep (c.keepsD (fun b k=>by have:=k.1;omega)),a.n,a.fuel,a.le,a.res⟩
theorem rx_next {w:Zm}{p m cap a:Nat}{L:List Tk}{lv:Int}{f:Nat}{k:Ex ×PS}{g:Nat}{x y:Ex}{s u:Zo}{op:Int}{st:PS}{d:Zm}(K:p<w.heap.size)(I:w.heap.size<a)(o:SFr p w d)(r:Rs d p m cap L st)
  (q:Ad d w.heap.size [.int .i64 0,.int .i64 0,.int .i64 0,.string ⟨#[]⟩,.slice none 0 0] 35) (l:Ad d a [.int .i64 x.kind,.int .i64 x.op,.int .i64 x.n,.string (Aa x.name),s] 35)
  (t:Ag (fun b=>w.heap.size+1≤b∧b≠a) d x.args s) (C:I64 x.n) (v:Ag (fun b=>w.heap.size+1≤b∧b≠a) d y.args u) (B:I64 y.n) (z:14*st.2.length+1≤g) (A:g≤f) (E:lT g lv (.mk 4 op 0 [] [x,y]) st=k):
  RxI w p m cap a L lv f k g (.mk 4 op 0 [] [x,y]) (.slice (some ⟨d.heap.size,0,none⟩) 2 2) st st ((((((d.setCell ⟨a,0,none⟩ (.int .i64 4)).setCell ⟨a,1,none⟩ (.int .i64 op)).setCell ⟨a,2,none⟩ (.int .i64 0)).setCell ⟨a,3,none⟩ (.string ⟨#[]⟩)).setCell ⟨a,4,none⟩ (.slice (some ⟨d.heap.size,0,none⟩) 2 2)).alloc
   (.cells #[.int .i64 x.kind,.int .i64 x.op,.int .i64 x.n,.string (Aa x.name),s,.int .i64 y.kind,.int .i64 y.op,.int .i64 y.n,.string (Aa y.name),u] 35)):=by
 have J:=l.lt;have G:=t.keep (Ha d (show ¬(w.heap.size+1≤a∧a≠a)from fun i=>i.2 rfl) (ι 4) (ι op) (ι 0) (ε) (κ d.heap.size 2 2));have H:=v.keep (Ha d (show ¬(w.heap.size+1≤a∧a≠a)from fun i=>i.2 rfl) (ι 4) (ι op) (ι 0) (ε) (κ d.heap.size 2 2));have F:=Hi d a (ι 4) (ι op) (ι 0) (ε) (κ d.heap.size 2 2);refine⟨(sfr5 o (by omega) _ _ _ _ _).trans (Zd (bA)),(r.sfr5 (by omega) _ _ _ _ _).old (bA),?_,(Ho l _ _ _ _ _).alloc _,?_,Eo,z,A,E⟩
 ·refine Ad.alloc ?_ _
  have e:∀(h:Zm) (j:Nat) (c:Zo),(h.setCell ⟨a,j,none⟩ c).heap[w.heap.size]? =h.heap[w.heap.size]? :=fun h j c=>Below.heap_setCell _ _ _ _ (by show w.heap.size≠a;omega)
  show _=_
  rw[e,e,e,e,e];exact q
 ·have:=Ag.two (D:=fun b=>w.heap.size+1≤b∧b≠a) x y s u (b:=d.heap.size) ⟨by omega,by omega⟩ (by
   have:=Dv.new (((((d.setCell ⟨a,0,none⟩ (ι 4)).setCell ⟨a,1,none⟩ (ι op)).setCell ⟨a,2,none⟩ (ι 0)).setCell ⟨a,3,none⟩ (ε)).setCell ⟨a,4,none⟩ (κ d.heap.size 2 2)) (Ba x s++Ba y u) 35;rw[F]at this;exact this) (G.old (bA)) C (H.old (bA)) B
  exact this
def Ju(p:Nat)(L:List Tk)(w:Zm):Nat:=match w.cell? ⟨p,1,none⟩with
 |some (.int _ i)=>L.length-i.toNat
 |_=>0
theorem Jt {w:Zm}{p b cap:Nat}{L:List Tk}{st:PS}(a:Rs w p b cap L st):Ju p L w=st.2.length:=by
 obtain⟨i,a,e⟩:=a;unfold Ju;rw[a.own.at 1 _ rfl,e,List.length_drop];simp
theorem rx_step(f:Nat)(ao:RtC f)(ae:∀g,g≤f→RxC g):RxC (f+1):=by
 intro d aQ lv aS st w p F cap L aR O;have H:=Za O.lt;have aB:Hid (w.heap.size≠p):=by show _≠_;have:=O.lt;omega
 have ap:Zn w.heap.size w (w.alloc (ζ)):=bA;have af:Hid (SFr p w (w.alloc (ζ))):=Zd ap;obtain⟨N,ag⟩:=Y2 (Zf w η 35) (O.old ap);clear ap
 by_cases h9:lv=9
 ·subst h9
  have hx:xT (f+1) 9 st=tT f st:=by rw[xT,if_pos rfl]
  rw[hx];have r:=fun c i=>ao st c p F cap L (by omega) i
  obtain⟨⟨x,h⟩,D⟩:∃Q,tT f st=Q:=⟨_,rfl⟩;rw[D]at r ⊢;have J:=Za r;clear r D;clear ao ae aR O hx aS aQ;go_enter func34,ntmps34;go_wp2_with fail;refine Zb (J.o _ ag.o) ?_;rintro e c ⟨l,j,s,rfl,hx,t⟩;dsimp only at j hx t;obtain⟨B,C,rfl⟩:=hx.shape;obtain⟨aa,Y,W,Z,I⟩:=Y5 (hx.mono (D':=(w.heap.size+1≤ ·)) (fun b q=>Zh (show w.heap.size+1≤_ from N.o.lt) q)) t (af.o.trans l) j (N.o.sfr l aB.o);clear l j hx t;obtain⟨⟨bl,bm,bn,bo,bp⟩,bq,br,bs,bt,bu⟩:=Ai I.o;have bv:=I.o.lt;go_wp2_with fail;obtain⟨⟨aj,ak,al,am,an⟩,_⟩:=Ai (Ho I.o (ι x.kind) (ι x.op) (ι x.n) (σ x.name) (ρ B x.args C));exact Zq (v:=.agg #[ι x.kind,ι x.op,ι x.n,σ x.name,ρ B x.args C]) (by simp [results,results34,go_sem,aj,ak,al,am,an]) rfl (Qm (x:=x) H.o W.o Z.o aa.o Y.o)
 ·obtain⟨d,rfl⟩:∃k,d=k+1:=⟨d-1,by omega⟩
  have ar:lv+1=9-(d:Int):=by omega
  have hx:xT (f+1) lv st=lT f lv (xT f (lv+1) st).1 (xT f (lv+1) st).2:=by rw[xT,if_neg h9]
  rw[hx];have r:=fun c i=>ae f (Zc _) d (by omega) (lv+1) ar st c p F cap L (by omega) i
  have E:=(Ot f).1 (lv+1) st;obtain⟨⟨x,U⟩,D⟩:∃Q,xT f (lv+1) st=Q:=⟨_,rfl⟩;rw[D]at r E ⊢;dsimp only at E ⊢;have J:=Za r;have ac:14*U.2.length+1≤f:=by omega
  obtain⟨K,P⟩:∃K,lT f lv x U=K:=⟨_,rfl⟩;rw[P];obtain⟨aC,X⟩:=Y2 P ac;have bd:Hid (∀g,g≤f→∀h c,14*h.2.length+2+d≤g→Rs c p F cap L h→_):=fun g bg h c q i=>ae g bg d (by omega) (lv+1) ar h c p F cap L q i
  have aD:Hid (∀h c,Rs c p F cap L h→_):=fun h c i=>rpSign p F cap L lv h c i
  have bF:IntKind.i64.wrap (lv+1)=lv+1:=Zk _ (by omega);have aV:Hid (d≤7):=(by omega:d≤7);clear r ac E P D hx aS ar ao ae aR O aQ;go_enter func34,ntmps34;go_wp2_with fail;refine Zb (J.o _ ag.o) ?_;rintro e c ⟨l,j,s,rfl,hx,t⟩;dsimp only at j hx t;obtain⟨B,C,rfl⟩:=hx.shape;obtain⟨aa,Y,W,Z,I⟩:=Y5 (hx.mono (D':=(w.heap.size+1≤ ·)) (fun b q=>Zh (show w.heap.size+1≤_ from N.o.lt) q)).strong t (af.o.trans l) j (N.o.sfr l aB.o);clear l j hx t;go_upto_region 4 with(fail);have u:Zn c.heap.size c (c.alloc (ξ x (ρ B x.args C))):=bA;have av:=Za (Zf c (χ x (ρ B x.args C)) 35);have a:Hid (RxI w p F cap c.heap.size L lv f K f x (ρ B x.args C) U U (c.alloc (ξ x (ρ B x.args C)))):=
   ⟨W.o.trans (Zd u),Z.o.old u,I.o.old u,av.o,(aa.o.old u).mono (fun b q=>⟨q.1,by have:=q.2;omega⟩),Y.o,X.o,Zc _,aC.o⟩
  have T:w.heap.size<c.heap.size:=I.o.lt;have G:=Za T;clear u T;generalize c.alloc (ξ x (ρ B x.args C))=be at*;obtain⟨ab,T⟩:∃ab,c.heap.size=ab:=⟨_,rfl⟩;rw[T]at a G ⊢;clear T av aa W Z I X aC J Y af N ag;go_wp2_with fail;refine Zb (aD.o _ _ a.o.ps) ?_;rintro e bG ⟨rfl,l,j⟩;have ax:=Za (a.o.step H.o G.o l j);clear l j a;go_wp2
  go_loopw [6,7] (fun au _ wr=> ∃(g:Nat) (x:Ex) (s:Zo) (st:PS),au= ι (sgV lv st)∧Hid (RxI w p F cap ab L lv f K g x s st (sgS lv st) wr)) (fun au _ wr=>2*Ju p L wr+(if 0<intOf au then 1 else 0))
  case atStart=>exact⟨f,x,_,U,rfl,ax⟩
  case round=>
   obtain⟨g,y,s,h,rfl,a⟩:=hrel;clear ax;obtain⟨aU,sc,rfl⟩:=a.o.tree.shape;obtain⟨⟨aE,aF,aG,aH,aI⟩,aJ,aK,aL,aM,aN⟩:=Ai a.o.e;have aO:=a.o.e.lt;obtain⟨m,bh⟩:∃m,g=m+1:=⟨g-1,by have:=a.o.fuel;omega⟩;subst bh
   cases hsg:sgT lv h with
   |none=>
    have S:sgV lv h=0:=by unfold sgV;rw[hsg];rfl
    have R:sgS lv h=h:=by unfold sgS;rw[hsg];rfl
    have P:(y,h)=K:=by
     have i:=a.o.res;rw[lT,hsg]at i;exact i
    rw[S];rw[R]at a;subst P;obtain⟨⟨bl,bm,bn,bo,bp⟩,bq,br,bs,bt,bu⟩:=Ai a.o.own;have bv:=a.o.own.lt;clear hsg S R;go_wp2_with fail;obtain⟨⟨aj,ak,al,am,an⟩,_⟩:=Ai (Ho a.o.own (ι y.kind) (ι y.op) (ι y.n) (σ y.name) (ρ aU y.args sc));exact Zq (v:=.agg #[ι y.kind,ι y.op,ι y.n,σ y.name,ρ aU y.args sc]) (by simp [results,results34,go_sem,aj,ak,al,am,an]) rfl (Qm (x:=y) H.o a.o.sfr a.o.ps (a.o.tree.mono (fun b q=>q.1)) a.o.n)
   |some op=>
    have S:sgV lv h=op:=by unfold sgV;rw[hsg];rfl
    have R:sgS lv h=Bg h:=by unfold sgS;rw[hsg];rfl
    have bj:0<op:=by have:=mQ op (List.mem_of_find?_eq_some hsg);omega
    have bi:=(nP hsg).1;have ad:lT m lv (.mk 4 op 0 [] [y,(xT m (lv+1) (Bg h)).1]) (xT m (lv+1) (Bg h)).2=K:=by
     have i:=a.o.res;rw[lT,hsg]at i;exact i
    have ac:=a.o.fuel;have aq:m≤f:=by have:=a.o.le;omega
    have r:=fun c i=>bd.out m aq (Bg h) c (by have:=aV.o;omega) i
    have E:=(Ot m).1 (lv+1) (Bg h);obtain⟨⟨M,z⟩,D⟩:∃Q,xT m (lv+1) (Bg h)=Q:=⟨_,rfl⟩;rw[D]at r E ad;dsimp only at E ad;have J:=Za r;have X:Hid (14*z.2.length+1≤m):=(by omega:14*z.2.length+1≤m);obtain⟨aW,ba⟩:=Y2 aq ad;rw[S];rw[R]at a;have aT:=Jt a.o.ps;obtain⟨aY,aX⟩:=Y2 aT E;clear hsg S R bi ad ac aq r E D aT;go_wp2_with fail;refine Zb (J.o _ a.o.ps) ?_;rintro e V ⟨l,j,s,rfl,hx,t⟩;dsimp only at j hx t;obtain⟨ah,ai,rfl⟩:=hx.shape;obtain⟨ay,bb,aZ⟩:=Y3 (a.o.step H.o G.o l j) (hx.mono (D':=fun b=>w.heap.size+1≤b∧b≠ab) (fun b q=>by have i:wr.heap.size≤b:=q;have aP:=a.o.e.lt;have bf:=G.o;exact⟨by omega,by omega⟩)) t;clear l j hx t aE aF aG aH aI aJ aK aL aM aN aO;go_upto_region 8 with(fail);have u:Zn V.heap.size V (V.alloc (ξ M (ρ ah M.args ai))):=bA;obtain⟨A,bc,aw⟩:=Y3 (ay.o.step H.o G.o (Zd u) (ay.o.ps.old u)) (bb.o.old u) (Zf V (χ M (ρ ah M.args ai)) 35);clear u;generalize V.alloc (ξ M (ρ ah M.args ai))=be at*;obtain⟨⟨aE,aF,aG,aH,aI⟩,aJ,aK,aL,aM,aN⟩:=Ai A.o.e
    obtain⟨⟨bw,bx,bz,bB,bC⟩,_⟩:=Ai aw.o;have aO:=A.o.e.lt;have bD:=aw.o.lt;have az:=Za (rx_next (op:=op) H.o G.o A.o.sfr A.o.ps A.o.own A.o.e A.o.tree A.o.n bc.o aZ.o X.o aW.o ba.o);go_wp2_with fail;refine Zb (aD.o _ _ az.o.ps) ?_;rintro e bk ⟨rfl,l,j⟩;have aA:=Za (az.o.step H.o G.o l j);clear l j;go_wp2;go_roundw
    case rel=>exact⟨m,_,_,z,rfl,aA⟩
    case measure=>
     have i:=Jt aA.o.ps;have aP:=aY.o;have bf:=aX.o;show 2*Ju p L bk+(if 0<sgV lv z then 1 else 0)<2*Ju p L wr+(if 0<op then 1 else 0)
     rw[i,aP,if_pos bj]
     cases hq:sgT lv z with
     |none=>
      have:sgS lv z=z:=by unfold sgS;rw[hq];rfl
      rw[this,if_neg (by unfold sgV;rw[hq];decide)];omega
     |some o=>
      have:sgS lv z=Bg z:=by unfold sgS;rw[hq];rfl
      have bE:=(nP hq).1;rw[this];split<;>omega
def AEnd(w:Zm)(p a cap:Nat)(L:List Tk)(q:List Ex ×PS)(e:Ending)(w':Zm):Prop:=SFr p w w'∧Rs w' p a cap L q.2∧∃v,e=.returned v∧Ag (w.heap.size≤ ·) w' q.1 v
def RaC(f:Nat):Prop:= ∀st w p a cap L,14*st.2.length+12≤f→Rs w p a cap L st→Zp Ze 118 #[.pointer (some ⟨p,0,none⟩)] w (AEnd w p a cap L (aT f st))
theorem mI {w a:Zm}{p i cap:Nat}{L:List Tk}{st:PS}{x y:Ex}{s:Zo}(r:p<w.heap.size)(j:SFr p w a)(k:Rs a p i cap L st)(l:Ag (w.heap.size+1≤ ·) a x.args s)(q:I64 x.n)(v:w.heap.size<a.heap.size)(t:y.args=[x])(u:I64 y.n){c d e f g:Zo}:
  xD w p i cap L (y,st) (.returned (exV y (.slice (some ⟨a.heap.size,0,none⟩) 1 1))) ((((((a.setCell ⟨w.heap.size,0,none⟩ c).setCell ⟨w.heap.size,1,none⟩ d).setCell ⟨w.heap.size,2,none⟩ e).setCell ⟨w.heap.size,3,none⟩ f).setCell ⟨w.heap.size,4,none⟩ g).alloc (.cells #[.int .i64 x.kind,.int .i64 x.op,.int .i64 x.n,.string (Aa x.name),s] 35)):=by
 have m:=l.keep (Ha a (show ¬w.heap.size+1≤w.heap.size by omega) c d e f g);have h:=Oa m q (by rw[Hi];omega);rw[Hi]at h;refine⟨(sfr5 j (Zc _) c d e f g).trans (Zd (bA)),(k.sfr5 r c d e f g).old (bA),_,rfl,?_,u⟩;rw[t];exact h.mono (fun b o=>by have:w.heap.size+1≤b:=o;omega)
theorem Rs.num {w:Zm}{p d cap:Nat}{L:List Tk}{st:PS}(a:Rs w p d cap L st):I64 (Jv st).1:=by
 obtain⟨i,a,e⟩:=a;unfold Jv;split
 ·obtain⟨t,f,b,_,c,_⟩:=a.next
  have:Ub st=t:=by unfold Ub;rw[e,b];rfl
  rw[this];exact a.nums t (List.mem_of_getElem? c)
 ·exact Eo
theorem tT_one {f:Nat}{st:PS}{n:Int}(c:n=17∨n=18∨n=19)(b:∀k:Int,17≤k→k<n→Cp (As k) st=false)(a:Cp (As n) st=true):tT (f+1) st=(.mk 3 n 0 [] [(tT f (Bg st)).1],(tT f (Bg st)).2):=by
 rw[tT];rcases c with rfl|rfl|rfl
 ·rw[if_pos a]
 ·rw[if_neg (by rw[b 17 (by decide) (by decide)];decide),if_pos a]
 ·rw[if_neg (by rw[b 17 (by decide) (by decide)];decide),if_neg (by rw[b 18 (by decide) (by decide)];decide),if_pos a]
theorem rt_step(f:Nat)(bz:RtC f)(bB:RxC f)(bC:∀g,f=g+1→RxC g)(M:∀g,f=g+1→RaC g):RtC (f+1):=by
 intro st w p E cap L aW aU;have aa:=Za aU.lt;have r:Hid (w.heap.size≠p):=by show _≠_;have:=aU.lt;omega
 have bi:Zn w.heap.size w (w.alloc (ζ)):=bA;have aX:Hid (SFr p w (w.alloc (ζ))):=Zd bi;obtain⟨bc,ba⟩:=Y2 (Zf w η 35) (aU.old bi);clear bi;obtain⟨ai,bh⟩:∃ai,tT (f+1) st=ai:=⟨_,rfl⟩;rw[bh];obtain⟨aI,aL,cb,cc,cd,bO,ca,ay⟩:=Y8 bh aW bz bB bC M (fun cp A=>bP cp A) (fun s u A (j:Rs A p E cap L u)=>Rp p E cap L s u A j);clear bh aW bz bB bC M aU;go_enter func79,ntmps79
 go_upto_block 0 with(fail);go_cut [] (fun U=>SFr p w U∧Ad U w.heap.size η 35∧Rs U p E cap L st∧Cp (As 17) st=false∧Cp (As 18) st=false∧Cp (As 19) st=false)
 case first=>
  go_wp2
  go_loopw [3,4,5,6,7] (fun a _ _ _ _ U=> ∃n:Nat,a= ι (n:Int)∧17≤n∧n≤20∧(∀k:Int,17≤k→k<n→Cp (As k) st=false)∧SFr p w U∧Ad U w.heap.size η 35∧Rs U p E cap L st) (fun a _ _ _ _ _=>20-(intOf a).toNat)
  case atStart=>exact⟨17,rfl,by omega,by omega,fun k j cD=>by omega,aX.o,bc.o,ba.o⟩
  case round=>
   obtain⟨n,rfl,j,cC,bF,c,ae,d⟩:=hrel;obtain⟨aD,az,aG,aN⟩:=Y4 bF c ae d;clear bF c ae d aX bc ba
   by_cases h19:n≤19
   ·have cI:(n:Int)≤19:=by omega
    have cK:IntKind.i64.wrap ((n:Int)+1)=(n:Int)+1:=Zk _ (by omega);go_wp2_with fail;refine Zb (ca.o _ _) ?_;rintro e w2 ⟨⟨cx,rfl⟩,aV⟩;obtain⟨af,ac,aE⟩:=Y3 (az.o.trans (Zd aV)) (aG.o.old aV) (aN.o.old aV);clear aV;go_wp2_with fail;refine Zb (ay.o _ _ _ aE.o) ?_;rintro e o ⟨rfl,c,d⟩
    cases hs:Cp (As n) st with
    |true=>
     rw[hs,if_pos rfl]at d;have h:=(tT_one (f:=f) (by omega) aD.o hs).symm.trans aI.o;have bE:14*(Bg st).2.length+1≤f:=by have:=Dw hs;have:=aL.o;omega
     have m:=fun A j=>cb.o (Bg st) A p E cap L bE j
     obtain⟨⟨x,u⟩,R⟩:∃Q,tT f (Bg st)=Q:=⟨_,rfl⟩;rw[R]at m h;dsimp only at h;subst h;have O:=Za m;clear m R bE hs;obtain⟨V,P,K⟩:=Y3 (af.o.trans c) (ac.o.sfr c r.o) d;clear c d;go_wp2_with fail;refine Zb (O.o _ K.o) ?_;rintro e N ⟨c,d,s,rfl,hx,T⟩;dsimp only at d hx T;obtain⟨C,D,rfl⟩:=hx.shape;obtain⟨be,aC⟩:=Y2 (hx.mono (D':=(w.heap.size+1≤ ·)) (fun b S=>Zh (show w.heap.size+1≤_ from P.o.lt) S)) T;clear hx T;obtain⟨ab,ad,X⟩:=Y3 (V.o.trans c) (P.o.sfr c r.o) d;clear c d;go_upto_region 8 with(fail);have B:Zn N.heap.size N (N.alloc (ξ x (ρ C x.args D))):=bA;obtain⟨W,z,Z,bf,aB⟩:=Y5 (ab.o.trans (Zd B)) (ad.o.old B) (X.o.old B) (be.o.old B) (Zf N (χ x (ρ C x.args D)) 35);clear B;generalize N.alloc (ξ x (ρ C x.args D))=ag at*;obtain⟨⟨bs,bt,bu,bv,bw⟩,_⟩:=Ai aB.o;have bx:=aB.o.lt;obtain⟨⟨al,am,an,ao,ap⟩,aq,ar,au,av,aw⟩:=Ai z.o;have ax:=z.o.lt;go_wp2_with fail;obtain⟨⟨F,G,H,I,J⟩,_⟩:=Ai ((Ho z.o (ι 3) (ι n) (ι 0) (ε) (κ ag.heap.size 1 1)).alloc (ξ x (ρ C x.args D)))
     exact Zq (v:=.agg #[ι 3,ι n,ι 0,ε,κ ag.heap.size 1 1]) (by simp [results,Zi,go_sem,F,G,H,I,J]) rfl (mI (x:=x) (y:=.mk 3 n 0 [] [x]) aa.o W.o Z.o bf.o aC.o z.o.lt rfl Eo)
    |false=>
     rw[hs,if_neg (by decide)]at d;obtain⟨V,P,K⟩:=Y3 (af.o.trans c) (ac.o.sfr c r.o) d;clear c d;have bZ:=Za hs;clear hs;go_wp2;go_roundw
     case rel=>exact⟨n+1,by rw[Int.natCast_add];rfl,by omega,by omega,fun k aj cH=>by
      by_cases hkn:k<n
      ·exact aD.o k aj hkn
      ·obtain rfl:k=(n:Int):=by omega
       exact bZ.o,V.o,P.o,K.o⟩
     case measure=>simp [intOf];omega
   ·obtain rfl:n=20:=by omega
    go_wp2;go_meet;exact⟨az.o,aG.o,aN.o,aD.o 17 (by decide) (by decide),aD.o 18 (by decide) (by decide),aD.o 19 (by decide) (by decide)⟩
 case rest=>
 obtain⟨c,ae,d,bG,bH,bI⟩:=hcut;obtain⟨az,aG,aN,aP,aQ,aR,aM⟩:=Y7 c ae d bG bH bI (fun s u A (j:Rs A p E cap L u)=>Nj p E cap L s u A j);clear c ae d bG bH bI aX bc ba;obtain⟨A,cn⟩:∃A,wc=A:=⟨_,rfl⟩;subst cn;go_wp2_with fail;refine Zb (ay.o [40] st _ aN.o) ?_;rintro e w2 ⟨rfl,c,d⟩
 cases h40:Cp [40] st with
 |true=>
  rw[h40,if_pos rfl]at d;obtain⟨af,ac,aE⟩:=Y3 (az.o.trans c) (aG.o.sfr c r.o) d;clear c d;have h:((xT f 1 (Bg st)).1,Ap [41] (xT f 1 (Bg st)).2)=ai:=by
   have j:=aI.o;rw[tT,if_neg (by rw[aP.out];decide),if_neg (by rw[aQ.out];decide),if_neg (by rw[aR.out];decide),if_pos h40]at j;exact j
  have m:=fun A j=>cc.o 8 (by decide) 1 (by decide) (Bg st) A p E cap L (by have:=Dw h40;have:=aL.o;omega) j
  obtain⟨⟨x,u⟩,R⟩:∃Q,xT f 1 (Bg st)=Q:=⟨_,rfl⟩;rw[R]at m h;dsimp only at h;have O:=Za m;clear m R;go_wp2_with fail;refine Zb (O.o _ aE.o) ?_;rintro e o ⟨c,d,s,rfl,hx,T⟩;dsimp only at d hx T;obtain⟨C,D,rfl⟩:=hx.shape;obtain⟨cf,aC⟩:=Y2 (hx.mono (D':=(w.heap.size+1≤ ·)) (fun b S=>Zh (show w.heap.size+1≤_ from ac.o.lt) S)) T;clear hx T;obtain⟨V,P,K⟩:=Y3 (af.o.trans c) (ac.o.sfr c r.o) d;clear c d;subst h;clear h40;go_upto_region 12 with(fail);have B:Zn o.heap.size o (o.alloc (ξ x (ρ C x.args D))):=bA;obtain⟨ab,ad,X,be,bT⟩:=Y5 (V.o.trans (Zd B)) (P.o.old B) (K.o.old B) (cf.o.old B) (Zf o (χ x (ρ C x.args D)) 35);clear B;generalize o.alloc (ξ x (ρ C x.args D))=N at*;have aY:Hid (o.heap.size≠p):=by show _≠_;have:=K.o.lt;omega
  go_wp2_with fail;refine Zb (aM.o [41] u N X.o) ?_;rintro e ag ⟨rfl,c,d⟩;obtain⟨bf,aB,W,z,Z⟩:=Y5 (be.o.keep (c.keepsD (fun b S=>by have:=aa.o;have j:w.heap.size+1≤b:=S;omega))) (bT.o.sfr c aY.o) (ab.o.trans c) (ad.o.sfr c r.o) d;clear c d;obtain⟨⟨bs,bt,bu,bv,bw⟩,_⟩:=Ai aB.o;have bx:=aB.o.lt;obtain⟨⟨al,am,an,ao,ap⟩,aq,ar,au,av,aw⟩:=Ai z.o;have ax:=z.o.lt;go_wp2_with fail;obtain⟨⟨F,G,H,I,J⟩,_⟩:=Ai (Ho z.o (ι x.kind) (ι x.op) (ι x.n) (σ x.name) (ρ C x.args D));exact Zq (v:=.agg #[ι x.kind,ι x.op,ι x.n,σ x.name,ρ C x.args D]) (by simp [results,Zi,go_sem,F,G,H,I,J]) rfl (Qm (x:=x) aa.o W.o Z.o bf.o aC.o)
 |false=>
  rw[h40,if_neg (by decide)]at d;obtain⟨af,ac,aE⟩:=Y3 (az.o.trans c) (aG.o.sfr c r.o) d;clear c d;have bg:=Za h40;clear h40;go_wp2_with fail;refine Zb (ay.o [114,101,97,100] st w2 aE.o) ?_;rintro e o ⟨rfl,c,d⟩
  cases hrd:Cp [114,101,97,100] st with
  |true=>
   rw[hrd,if_pos rfl]at d;obtain⟨V,P,K⟩:=Y3 (af.o.trans c) (ac.o.sfr c r.o) d;clear c d;have h:((.mk 7 0 0 [] [],Ap [41] (Ap [40] (Bg st))):Ex ×PS)=ai:=by
    have j:=aI.o;rw[tT,if_neg (by rw[aP.out];decide),if_neg (by rw[aQ.out];decide),if_neg (by rw[aR.out];decide),if_neg (by rw[bg.out];decide),if_pos hrd]at j;exact j
   subst h;clear hrd;go_wp2_with fail;refine Zb (aM.o [40] (Bg st) o K.o) ?_;rintro e N ⟨rfl,c,d⟩;obtain⟨ab,ad,X⟩:=Y3 (V.o.trans c) (P.o.sfr c r.o) d;clear c d;go_wp2_with fail;refine Zb (aM.o [41] (Ap [40] (Bg st)) N X.o) ?_;rintro e ag ⟨rfl,c,d⟩;obtain⟨W,z,Z⟩:=Y3 (ab.o.trans c) (ad.o.sfr c r.o) d;clear c d;obtain⟨⟨al,am,an,ao,ap⟩,aq,ar,au,av,aw⟩:=Ai z.o;have ax:=z.o.lt;go_wp2_with fail;obtain⟨⟨F,G,H,I,J⟩,_⟩:=Ai (Ho z.o (ι 7) (ι 0) (ι 0) (ε) (ν));exact Zq (v:=.agg #[ι 7,ι 0,ι 0,ε,ν]) (by simp [results,Zi,go_sem,F,G,H,I,J]) rfl (Qm (x:=.mk 7 0 0 [] []) (s:= ν) aa.o W.o Z.o Ag.zero Eo)
  |false=>
   rw[hrd,if_neg (by decide)]at d;obtain⟨V,P,K⟩:=Y3 (af.o.trans c) (ac.o.sfr c r.o) d;clear c d;have bq:=Za hrd;clear hrd;go_upto_region 19 with(fail);go_cut [68]from 50 to 68 (fun q U=>q=.bool (Py 3 st)∧SFr p w U∧Ad U w.heap.size η 35∧Rs U p E cap L st)
   case first=>
    have bD:∀n,Zn o.heap.size o (o.drewN n):=fun n=>⟨(Zg o.heap.size o).os,(Zg o.heap.size o).tape,(Zg o.heap.size o).output,(Zg o.heap.size o).size,(Zg o.heap.size o).block⟩
    have ah:=Za bD;obtain⟨b,l⟩:=st;obtain⟨i,M,e⟩:=K.o;have e:l=L.drop i:=e;obtain⟨t,bJ,aS,cj,br,cE⟩:=M.next;have aW:l=t::bJ:=e.trans aS;subst aW;obtain⟨cq,cr,cs,ct⟩:=M.row.nth br;rw[Nat.zero_add]at cq cr cs ct;obtain ⟨cy, cz⟩ := τ2 M.own;have cA:o.cell? ⟨p,2,none⟩=some (.bool b):=M.own.at 2 _ rfl;have cl:=M.own.lt;have cJ:E<o.heap.size:=Nat.lt_trans M.lt cl;have cF:(i:Int)<(L.length:Int):=by omega
    have cG:(0:Int)≤(i:Int):=by omega
    clear e aS cj br bD M
    cases b with
    |true=>
     go_big_quiet (fail)
     go_wp2;go_meet;exact⟨rfl,V.o.trans (Zd (s:=p) (ah.o _)),P.o.old (ah.o _),K.o.old (ah.o _)⟩
    |false=>
     go_big_quiet (fail)
     go_wp2;go_meet;exact⟨rfl,V.o.trans (Zd (s:=p) (ah.o _)),P.o.old (ah.o _),K.o.old (ah.o _)⟩
   case rest=>
   obtain⟨rfl,c,ae,d⟩:=hcut;obtain⟨ab,ad,X⟩:=Y3 c ae d;clear c ae d;obtain⟨N,co⟩:∃N,wc=N:=⟨_,rfl⟩;subst co
   cases aj:Py 3 st with
   |true=>
    have h:((.mk 1 0 (Jv st).1 [] [],(Jv st).2):Ex ×PS)=ai:=by
     have j:=aI.o;rw[tT,if_neg (by rw[aP.out];decide),if_neg (by rw[aQ.out];decide),if_neg (by rw[aR.out];decide),if_neg (by rw[bg.out];decide),if_neg (by rw[bq.out];decide),if_pos aj]at j;exact j
    have aZ:=Za X.o.num;obtain⟨⟨bk,u⟩,aJ⟩:∃q,Jv st=q:=⟨_,rfl⟩;have m:=fX p E cap L st wc X.o;rw[aJ]at h m aZ;dsimp only at h m aZ;subst h;have O:=Za m;clear m aJ aj;go_wp2_with fail;refine Zb O.o ?_;rintro e ag ⟨rfl,c,d⟩;obtain⟨W,z,Z⟩:=Y3 (ab.o.trans c) (ad.o.sfr c r.o) d;clear c d;obtain⟨⟨al,am,an,ao,ap⟩,aq,ar,au,av,aw⟩:=Ai z.o;have ax:=z.o.lt;go_wp2_with fail;obtain⟨⟨F,G,H,I,J⟩,_⟩:=Ai (Ho z.o (ι 1) (ι 0) (ι bk) (ε) (ν));exact Zq (v:=.agg #[ι 1,ι 0,ι bk,ε,ν]) (by simp [results,Zi,go_sem,F,G,H,I,J]) rfl (Qm (x:=.mk 1 0 bk [] []) (s:= ν) aa.o W.o Z.o Ag.zero aZ.o)
   |false=>
    have h:nT f (Bl st).1 (Bl st).2=ai:=by
     have j:=aI.o;rw[tT,if_neg (by rw[aP.out];decide),if_neg (by rw[aQ.out];decide),if_neg (by rw[aR.out];decide),if_neg (by rw[bg.out];decide),if_neg (by rw[bq.out];decide),if_neg (by rw[aj];decide)]at j;exact j
    have bj:=Ka st;have m:=cB p E cap L st wc X.o;obtain⟨⟨s,u⟩,aJ⟩:∃q,Bl st=q:=⟨_,rfl⟩;rw[aJ]at h m bj;dsimp only at h m bj;have O:=Za m;have cm:1≤st.2.length:=by
     obtain⟨i,M,e⟩:=X.o;obtain⟨t,bJ,aS,_⟩:=M.next;rw[e,aS];simp
    obtain⟨g,ck⟩:∃g,f=g+1:=⟨f-1,by have:=aL.o;omega⟩;subst ck;have bd:=Za h;have bm:Hid (14*u.2.length≤g+1):=(by have:=aL.o;omega:14*u.2.length≤g+1);clear m aJ aj h bj cm;go_wp2_with fail;refine Zb O.o ?_;rintro e ag ⟨rfl,c,d⟩;obtain⟨W,z,Z⟩:=Y3 (ab.o.trans c) (ad.o.sfr c r.o) d;clear c d;go_wp2_with fail;refine Zb (ay.o [40] u ag Z.o) ?_;rintro e cu ⟨rfl,c,d⟩
    cases hop:Cp [40] u with
    |true=>
     rw[hop,if_pos rfl]at d;obtain⟨aK,aH,bb⟩:=Y3 (W.o.trans c) (z.o.sfr c r.o) d;clear c d;have h:=bd.o;rw[nT,if_pos hop]at h;have m:=fun A j=>bO.o g rfl (Bg u) A p E cap L (by have:=Dw hop;have:=bm.o;omega) j
     obtain⟨⟨bl,bK⟩,R⟩:∃Q,aT g (Bg u)=Q:=⟨_,rfl⟩;rw[R]at m h;dsimp only at h;subst h;have O:=Za m;clear m R hop;go_wp2_with fail;refine Zb (O.o _ bb.o) ?_;rintro e cv ⟨c,d,v,rfl,hx⟩;dsimp only at d hx;obtain⟨bL,bM,rfl⟩:=hx.shape;have cg:=Za (hx.mono (D':=(w.heap.size+1≤ ·)) (fun b S=>Zh (show w.heap.size+1≤_ from aH.o.lt) S));clear hx;obtain⟨aA,Y,aF⟩:=Y3 (aK.o.trans c) (aH.o.sfr c r.o) d;clear c d;obtain⟨⟨al,am,an,ao,ap⟩,aq,ar,au,av,aw⟩:=Ai Y.o;have ax:=Y.o.lt;go_wp2_with fail;obtain⟨⟨F,G,H,I,J⟩,_⟩:=Ai (Ho Y.o (ι 5) (ι 0) (ι 0) (σ s) (ρ bL bl bM));exact Zq (v:=.agg #[ι 5,ι 0,ι 0,σ s,ρ bL bl bM]) (by simp [results,Zi,go_sem,F,G,H,I,J]) rfl (Qm (x:=.mk 5 0 0 s bl) aa.o aA.o aF.o cg.o Eo)
    |false=>
     rw[hop,if_neg (by decide)]at d;obtain⟨aK,aH,bb⟩:=Y3 (W.o.trans c) (z.o.sfr c r.o) d;clear c d;have bp:=Za hop;clear hop;go_wp2_with fail;refine Zb (ay.o [91] u cu bb.o) ?_;rintro e cv ⟨rfl,c,d⟩
     cases hbr:Cp [91] u with
     |true=>
      rw[hbr,if_pos rfl]at d;obtain⟨aA,Y,aF⟩:=Y3 (aK.o.trans c) (aH.o.sfr c r.o) d;clear c d;have h:=bd.o;rw[nT,if_neg (by rw[bp.out];decide),if_pos hbr]at h;have m:=fun A j=>cd.o g rfl 8 (by decide) 1 (by decide) (Bg u) A p E cap L (by have:=Dw hbr;have:=bm.o;omega) j
      obtain⟨⟨x,bK⟩,R⟩:∃Q,xT g 1 (Bg u)=Q:=⟨_,rfl⟩;rw[R]at m h;dsimp only at h;have O:=Za m;clear m R;go_wp2_with fail;refine Zb (O.o _ aF.o) ?_;rintro e ak ⟨c,d,s,rfl,hx,T⟩;dsimp only at d hx T;obtain⟨C,D,rfl⟩:=hx.shape;obtain⟨ch,aC⟩:=Y2 (hx.mono (D':=(w.heap.size+1≤ ·)) (fun b S=>Zh (show w.heap.size+1≤_ from Y.o.lt) S)) T;clear hx T;obtain⟨bR,bX,bo⟩:=Y3 (aA.o.trans c) (Y.o.sfr c r.o) d;clear c d;subst h;clear hbr;go_upto_region 28 with(fail);have B:Zn ak.heap.size ak (ak.alloc (ξ x (ρ C x.args D))):=bA;obtain⟨bS,bY,bW,ci,bU⟩:=Y5 (bR.o.trans (Zd B)) (bX.o.old B) (bo.o.old B) (ch.o.old B) (Zf ak (χ x (ρ C x.args D)) 35);clear B;generalize ak.alloc (ξ x (ρ C x.args D))=cw at*;have aY:Hid (ak.heap.size≠p):=by show _≠_;have:=bo.o.lt;omega
      go_wp2_with fail;refine Zb (aM.o [93] bK cw bW.o) ?_;rintro e bN ⟨rfl,c,d⟩;obtain⟨ce,bn,bQ,aO,bV⟩:=Y5 (ci.o.keep (c.keepsD (fun b S=>by have:=aa.o;have j:w.heap.size+1≤b:=S;omega))) (bU.o.sfr c aY.o) (bS.o.trans c) (bY.o.sfr c r.o) d;clear c d;obtain⟨⟨bs,bt,bu,bv,bw⟩,_⟩:=Ai bn.o;have bx:=bn.o.lt;obtain⟨⟨al,am,an,ao,ap⟩,aq,ar,au,av,aw⟩:=Ai aO.o;have ax:=aO.o.lt;go_wp2_with fail;obtain⟨⟨F,G,H,I,J⟩,_⟩:=Ai ((Ho aO.o (ι 6) (ι 0) (ι 0) (σ s) (κ bN.heap.size 1 1)).alloc (ξ x (ρ C x.args D)));exact Zq (v:=.agg #[ι 6,ι 0,ι 0,σ s,κ bN.heap.size 1 1]) (by simp [results,Zi,go_sem,F,G,H,I,J]) rfl (mI (x:=x) (y:=.mk 6 0 0 s [x]) aa.o bQ.o bV.o ce.o aC.o aO.o.lt rfl Eo)
     |false=>
      rw[hbr,if_neg (by decide)]at d;obtain⟨aA,Y,aF⟩:=Y3 (aK.o.trans c) (aH.o.sfr c r.o) d;clear c d;have h:=bd.o;rw[nT,if_neg (by rw[bp.out];decide),if_neg (by rw[hbr];decide)]at h;subst h;clear hbr;obtain⟨⟨al,am,an,ao,ap⟩,aq,ar,au,av,aw⟩:=Ai Y.o;have ax:=Y.o.lt;go_wp2_with fail;obtain⟨⟨F,G,H,I,J⟩,_⟩:=Ai (Ho Y.o (ι 2) (ι 0) (ι 0) (σ s) (ν));exact Zq (v:=.agg #[ι 2,ι 0,ι 0,σ s,ν]) (by simp [results,Zi,go_sem,F,G,H,I,J]) rfl (Qm (x:=.mk 2 0 0 s []) (s:= ν) aa.o aA.o aF.o Ag.zero Eo)
theorem Rs.low {w w':Zm}{p d cap:Nat}{L:List Tk}{st:PS}(c:Rs w p d cap L st)(g:∀k,k≤p→w'.heap[k]? =w.heap[k]?):Rs w' p d cap L st:=by
 obtain⟨i,c,e⟩:=c;have l:=c.lt;exact⟨i,⟨c.own.low (g p (Zc _)),c.row.keep (fun b j y f h=>by
  have f:b=d:=f;rw[World.cell?_of_block (a:=⟨b,j,none⟩) (g b (by omega))];exact h),c.hcap,c.fit,c.lt,c.ends,c.nums⟩,e⟩
theorem ra_step(f:Nat)(aK:∀g,g≤f→RxC g):RaC (f+1):=by
 intro st w p D cap L aP m;have R:=Za m.lt;have aN:st.2.length≤1000000:=by
  obtain⟨i,z,e⟩:=m;rw[e,List.length_drop];have:=z.fit;omega
 have ao:=Za aN;obtain⟨T,ad⟩:∃T,aT (f+1) st=T:=⟨_,rfl⟩;rw[ad];obtain⟨bk,aq,bl,bh,ak,bd⟩:=Y6 ad aP aK m (fun s q y (j:Rs y p D cap L q)=>Rp p D cap L s q y j) (fun s q y (j:Rs y p D cap L q)=>Nj p D cap L s q y j);obtain⟨bI,bC,bF,bG,bH⟩:=info_parts Mo;clear ad aP aK m aN;go_enter func118,ntmps118;go_wp2_with fail;refine Zb (ak.o [41] st _ bh.o) ?_;rintro e y ⟨rfl,l,d⟩;have ap:Hid (∃(c:List (Ex ×Zo)) (A:Option Addr) (B:Nat) (n:PS) (g:Nat),Value.slice none 0 0=.slice A c.length B∧(if Cp [41] st=true∨n.1=true then(c.map (·.1),n)else mT g (c.map (·.1)) n)=T∧14*n.2.length+11≤g∧g≤f∧c.length+n.2.length≤1000000∧SFr p w y∧Rs y p D cap L n∧Br y w.heap.size c (.slice A c.length B)):=by
  have j:=bk.o;rw[aT]at j
  cases h41:Cp [41] st with
  |true=>
   rw[h41,if_pos rfl]at d;rw[h41,if_pos rfl]at j;have:=Ea st;exact⟨[],none,0,Bg st,f,rfl,by rw[if_pos (.inl rfl)];exact j,by have:=aq.o;omega,Zc _,by have:=ao.o;simp;omega,l,d,Br.zero _ _⟩
  |false=>
   rw[h41,if_neg (by decide)]at d;rw[h41,if_neg (by decide)]at j;refine⟨[],none,0,st,f,rfl,?_,by have:=aq.o;omega,Zc _,by have:=ao.o;simpa using this,l,d,Br.zero _ _⟩
   by_cases r:st.1=true
   ·rw[if_pos (.inr r)];rw[if_pos r]at j;exact j
   ·rw[if_neg (by rintro(m|m);cases m;exact r m)];rw[if_neg r]at j;exact j
 clear l d;generalize Cp [41] st=bn at*;go_wp2
 go_loopw [3,4,5,6] (fun a e _ _ K=> ∃(b:Bool) (c:List (Ex ×Zo)) (A:Option Addr) (B:Nat) (n:PS) (g:Nat),a=.slice A c.length B∧e=.bool b∧(if b=true∨n.1=true then(c.map (·.1),n)else mT g (c.map (·.1)) n)=T∧14*n.2.length+11≤g∧g≤f∧(c.length≤1000001∧(b=false→c.length+n.2.length≤1000000))∧SFr p w K∧Rs K p D cap L n∧Br K w.heap.size c (.slice A c.length B)) (fun _ e _ _ K=>match e with|.bool true=>0|_=>Ju p L K+1)
 case atStart=>
  obtain⟨c,A,B,n,g,j,ac,aI,bu,bv,bw,bx,bz⟩:=ap.o;exact⟨bn,c,A,B,n,g,j,rfl,ac,aI,bu,⟨by omega,fun _=>bv⟩,bw,bx,bz⟩
 case round=>
  obtain⟨b,c,A,B,n,g,rfl,rfl,h,bB,bM,ah,l,d,aU⟩:=hrel;obtain⟨M,G,F,S,bc⟩:=Y5 l d aU h (Jt d);clear l d aU h ap;obtain⟨bD,aX⟩:=ah
  cases b with
  |true=>
   have h:=S.o;rw[if_pos (.inl rfl)]at h;subst h;go_wp2;go_ret
   exact⟨M.o,G.o,_,rfl,F.o.exs (show c.length≤140737488355328 by omega)⟩
  |false=>
   have ah:=aX rfl;clear bD aX;obtain⟨bm,U⟩:=n
   cases bm with
   |true=>
    have h:=S.o;rw[if_pos (.inr rfl)]at h;subst h;obtain⟨i,z,ag⟩:=G.o;have aF:wr.cell? ⟨p,2,none⟩=some (.bool true):=z.own.at 2 _ rfl;have aW:=z.own.lt;clear z ag;go_wp2;go_ret
    exact⟨M.o,G.o,_,rfl,F.o.exs (show c.length≤140737488355328 by omega)⟩
   |false=>
    obtain⟨g,rfl⟩:∃k,g=k+1:=⟨g-1,by omega⟩;have h:=S.o;rw[if_neg (by rintro(m|m)<;>cases m),mT]at h;have C:=(Ot g).1 1 (false,U);dsimp only at bB C ah;have ae:=fun y j=>bl.o g (by omega) 8 (by decide) 1 (by decide) (false,U) y p D cap L (by show 14*U.length+2+8≤g;omega) j
    obtain⟨⟨x,q⟩,aJ⟩:∃Q,xT g 1 (false,U)=Q:=⟨_,rfl⟩;rw[aJ]at ae h C;dsimp only at h C;obtain⟨aZ,aB,ar⟩:=Y3 ae h C;obtain⟨i,z,ag⟩:=G.o;have aF:wr.cell? ⟨p,2,none⟩=some (.bool false):=z.own.at 2 _ rfl;have aW:=z.own.lt;clear ae aJ h C z ag S;go_wp2_with fail;refine Zb (aZ.o _ G.o) ?_;rintro e w2 ⟨l,d,s,rfl,hx,af⟩;dsimp only at d hx af;obtain⟨t,u,rfl⟩:=hx.shape;obtain⟨al,az,aw,aE,be⟩:=Y5 (M.o.trans l) d (F.o.keep (fun k v r=>l.block k v (by have:=R.o;omega))) hx.strong af;have bE:wr.heap.size≤w2.heap.size:=l.size;have bQ:w.heap.size≤wr.heap.size:=M.o.size;clear l d hx af aF aW;go_upto_region 5 with(fail);have H:Zn w2.heap.size w2 (w2.alloc (ξ x (.slice t x.args.length u))):=bA;obtain⟨am,aA,ax,aC,W⟩:=Y5 (al.o.trans (Zd H)) (az.o.old H) (aw.o.keep (fun k v _=>H.block k v)) (aE.o.old H) (Zf w2 (χ x (.slice t x.args.length u)) 35);clear H;generalize w2.alloc (ξ x (.slice t x.args.length u))=J at*;have I:Zn J.heap.size J (J.alloc (ξ x (.slice t x.args.length u))):=bA
    obtain⟨V,Z,Y,aD,av⟩:=Y5 (am.o.trans (Zd I)) (aA.o.old I) (ax.o.keep (fun k v _=>I.block k v)) (aC.o.old I) (Dv.new J (Ba x (.slice t x.args.length u)) 35);obtain⟨⟨bo,bp,bq,br,bs⟩,_⟩:=Ai W.o;have bt:=W.o.lt;clear I;have ab:Hid (c.length≤1000000):=(by omega:c.length≤1000000);have bL:Hid (w.heap.size≤w2.heap.size):=(by omega:w.heap.size≤w2.heap.size);go_wp2_with (at_builtin;(refine wpList_append_lies (P:=Ze) _ rfl _ _ 33 rfl w.heap.size 35 bI _ 5 64 underlying33 bC bF bG bH rfl (by decide) (.slice A c.length B) c.length (Dl c) rfl (by exact Y.o.1) ⟨J.heap.size,0,none⟩ 1 1 (Ba x (.slice t x.args.length u)) rfl rfl (Fr av.o) (Lw x) (by decide) (by have:=ab.o;unfold maxLen;omega) (by have:=ab.o;omega) V.o.size _ rfl ?_;intro aH aG bJ aV aO aL bN;obtain⟨aj,N,ai⟩:=Y3 aV aO aL;clear aV aO aL));have bP:wr.heap.size≤w2.heap.size:=bE;obtain⟨bg,bb,bj⟩:=Y3 (Y.o.snoc x (.slice t x.args.length u) (aD.o.mono (fun b r=>⟨by have j:wr.heap.size≤b:=r.1;omega,fun e=>by have j:wr.heap.size≤b:=r.1;have:=(F.o.ge e).2;omega⟩)) be.o aj.o N.o ai.o) (V.o.grow N.o (fun k e=>(F.o.ge e).1)) (Z.o.low (w':=bJ) (fun k v=>N.o.block k (Nat.lt_of_le_of_lt v Z.o.lt) (fun e=>by have:=(F.o.ge e.symm).1;have:=R.o;omega)))
    have aQ:(c++[(x,Value.slice t x.args.length u)]).length=c.length+1:=by simp
    have aS:(c++[(x,Value.slice t x.args.length u)]).map (·.1)=c.map (·.1)++[x]:=by simp
    obtain⟨E,au⟩:=Y2 aQ aS;clear al am V az aA Z aw ax Y aE aC aD av W bo bp bq br bs bt aj N ai aQ aS;refine Zb (ak.o [44] q _ bj.o) ?_;rintro e bK ⟨rfl,l,d⟩;obtain⟨ay,an⟩:=Y2 (bg.o.keep (fun k v r=>l.block k v (by have:=R.o;omega))) (bb.o.trans l)
    cases h44:Cp [44] q with
    |true=>
     rw[h44,if_pos rfl]at d;have h:=aB.o;rw[h44,if_pos rfl]at h;have aR:=Dw h44;have aM:(Bg q).1=false:=by
      cases r:q.1 with
      |false=>exact r
      |true=>rw[Dq r]at h44;cases h44
     have O:=Za d;have C:=ar.o;clear l d h44;obtain⟨aY,X,aa⟩:=Y3 aM aR h;clear aM aR h;go_wp2;go_roundw
     case rel=>exact⟨false,c++[(x,.slice t x.args.length u)],some ⟨aH,0,none⟩,aG,Bg q,g,by rw[E.o],rfl,by rw[if_neg (by rintro(m|m);cases m;rw[aY.o]at m;cases m),au.o];exact aa.o,by have:=X.o;omega,by omega,by rw[E.o];have:=X.o;exact⟨by omega,fun _=>by omega⟩,an.o,O.o,by rw[E.o];exact ay.o⟩
     case measure=>
      have j:=Jt O.o;have ac:=bc.o;have aI:=X.o;show Ju p L bK+1<Ju p L wr+1
      rw[j,ac];omega
    |false=>
     rw[h44,if_neg (by decide)]at d;have h:=aB.o;rw[h44,if_neg (by decide)]at h;obtain⟨O,aa⟩:=Y2 d h;have bO:=Ce [41] q;have C:=ar.o;clear l d h44 h;go_wp2_with fail;refine Zb (bd.o [41] q _ O.o) ?_;rintro e bR ⟨rfl,l,d⟩;obtain⟨bf,ba,bi⟩:=Y3 (ay.o.keep (fun k v r=>l.block k v (by have:=R.o;omega))) (an.o.trans l) d;clear l d;go_wp2;go_roundw
     case rel=>exact⟨true,c++[(x,.slice t x.args.length u)],some ⟨aH,0,none⟩,aG,Ap [41] q,14*(Ap [41] q).2.length+11,by rw[E.o],rfl,by rw[if_pos (.inl rfl),au.o];exact aa.o,Zc _,by have:=Ce [41] q;omega,by rw[E.o];exact⟨by have:=ab.o;omega,fun m=>by cases m⟩,ba.o,bi.o,by rw[E.o];exact bf.o⟩
     case measure=>show 0<Ju p L wr+1;omega
theorem sS(f:Nat):RxC f∧RtC f∧RaC f:=by
 induction f using Nat.strongRecOn with
 |_ f ih=>
  cases f with
  |zero=>exact⟨fun d _ lv _ st w p e cap L c=>by omega,fun st w p e cap L c=>by omega,fun st w p e cap L c=>by omega⟩
  |succ f=>
   have a:=ih f (by omega);exact⟨rx_step f a.2.1 (fun g b=>(ih g (by omega)).1),rt_step f a.2.1 a.1 (fun g b=>(ih g (by omega)).1) (fun g b=>(ih g (by omega)).2.2),ra_step f (fun g b=>(ih g (by omega)).1)⟩
theorem bY(f:Nat)(st:PS)(w:Zm)(p a cap:Nat)(L:List Tk)(c:14*st.2.length+10≤f)(b:Rs w p a cap L st):
  Zp Ze 34 #[.pointer (some ⟨p,0,none⟩),.int .i64 1] w (xD w p a cap L (xT f 1 st)):=(sS f).1 8 (by decide) 1 (by decide) st w p a cap L (by omega) b
theorem xW(f:Nat)(st:PS)(w:Zm)(p d cap:Nat)(L:List Tk)(a:14*st.2.length+10≤f)(l:Rs w p d cap L st):
  Zp Ze 189 #[.pointer (some ⟨p,0,none⟩)] w (AEnd w p d cap L ([(Jo f st).1],(Jo f st).2)):=by
 obtain⟨S,K⟩:=Y2 l.lt (Nj p d cap L [40] st w l);have W:=Ce [40] st;have n:=fun g j=>bY f (Ap [40] st) g p d cap L (by omega) j
 have C:Jo f st=((xT f 1 (Ap [40] st)).1,Ap [41] (xT f 1 (Ap [40] st)).2):=rfl;rw[C];obtain⟨⟨x,D⟩,A⟩:∃Q,xT f 1 (Ap [40] st)=Q:=⟨_,rfl⟩;rw[A]at n ⊢;obtain⟨E,M⟩:=Y2 n (fun g (j:Rs g p d cap L D)=>Nj p d cap L [41] D g j);clear n A C W a l;go_enter func189,ntmps189;go_wp2_with fail;refine Zb K.o ?_;rintro e g ⟨rfl,a,c⟩;obtain⟨u,O⟩:=Y2 a c;clear a c;go_wp2_with fail;refine Zb (E.o _ O.o) ?_;rintro e w2 ⟨a,c,s,rfl,hx,q⟩;dsimp only at c hx q;obtain⟨h,i,rfl⟩:=hx.shape;obtain⟨G,z,T,N⟩:=Y4 (u.o.trans a) c (hx.mono (D':=(w.heap.size≤ ·)) (fun b m=>Zh u.o.size m)) q;clear a c hx q;go_upto_region 2 with(fail);have k:Zn w2.heap.size w2 (w2.alloc (ξ x (ρ h x.args i))):=bA;obtain⟨H,P,U,I⟩:=Y4 (G.o.trans (Zd k)) (z.o.old k) (T.o.old k) (Zf w2 (χ x (ρ h x.args i)) 35);have J:Hid (w2.heap.size≠p):=by show _≠_;have:=z.o.lt;omega
 clear k;generalize w2.alloc (ξ x (ρ h x.args i))=ad at*;go_wp2_with fail;refine Zb (M.o _ P.o) ?_;rintro e r ⟨rfl,a,c⟩;obtain⟨v,R,V,y⟩:=Y4 (H.o.trans a) c (U.o.keep (a.keepsD (fun b m=>by have:=S.o;have j:w.heap.size≤b:=m;omega))) (I.o.sfr a J.o);clear a c;obtain⟨⟨X,Y,Z,aa,ab⟩,_⟩:=Ai y.o;have ac:=y.o.lt;have B:Zn r.heap.size r (r.alloc (ξ x (ρ h x.args i))):=bA;obtain⟨t,F⟩:=Y2 B (Oa V.o N.o v.o.size);clear B;go_wp2;go_ret
 exact⟨v.o.trans (Zd t.o),R.o.old t.o,_,rfl,F.o⟩
end Go.Proofs.YthcpopmmlneneaaGreatDoor

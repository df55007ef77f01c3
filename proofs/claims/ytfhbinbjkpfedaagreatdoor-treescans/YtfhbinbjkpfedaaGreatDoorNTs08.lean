/-
  stmt and inside: statements' lines. Conditions: the statements may be; the text takes at most 2^47 bytes; the library's table of powers is there.
-/
import Derived.Test.YtfhbinbjkpfedaaGreatDoorNTs07
set_option linter.unusedVariables false
set_option linter.unusedSimpArgs false
namespace Go.Proofs.YtfhbinbjkpfedaaGreatDoor
open Go.RowKit Go.Proofs.Tryz
set_option maxHeartbeats 20000000
set_option maxRecDepth 100000
open Go.Lib renaming hid→Za
open Go.Proofs.Tryz renaming prog→Zb,func52→Zj,ntmps52→Zk
open PFr renaming alloc→Zc,of_below→Zf
open List renaming getElem_cons_zero→Zd,getElem_cons_succ→Ze,getElem?_eq_getElem→Zl,any_eq_not_all_not→Zm,all_eq_true→Zp,flatMap_append→Zq,take_succ_eq_append_getElem→Zs
open Nat renaming le_refl→Zg
open Below renaming refl→Zh
open Int renaming reduceEq→Zi
open World renaming cell?_alloc_lt→Zn,block_lt_of_cell?→Zr
open Bool renaming and_eq_true→Zo
theorem jP(e:Ex)(a:Option Addr)(cap:Nat)(w:World):
  Calls Zb 94 #[exV e (.slice a e.args.length cap)] w fun r w'=>r=.returned (.tuple #[.agg #[.int .i64 e.kind,.int .i64 (Fo e),.int .i64 (Hv e),.string (Aa (Db e)),.slice none 0 0],.int .i64 (Bv e),.bool (Ec e)])∧Below w.heap.size w w':=by
 obtain⟨k,o,n,nm,args⟩:=e;show Calls _ _ #[.agg #[.int .i64 k,.int .i64 o,.int .i64 n,.string (Aa nm),.slice a args.length cap]] _ _
 have key:∀ {R R':Ending→World→Prop},R=R'→Calls Zb 94 #[.agg #[.int .i64 k,.int .i64 o,.int .i64 n,.string (Aa nm),.slice a args.length cap]] w R→Calls Zb 94 #[.agg #[.int .i64 k,.int .i64 o,.int .i64 n,.string (Aa nm),.slice a args.length cap]] w R':=fun h=>h ▸ id
 by_cases h1:k=1
 ·subst h1;exact jE _ _ _ _ _
 by_cases h2:k=2
 ·subst h2;exact iU _ _ _ _ _
 by_cases h3:k=3
 ·subst h3
  by_cases q1:o=17
  ·subst q1;exact aX _ _ _ _
  by_cases q2:o=18
  ·subst q2;exact bL _ _ _ _
  by_cases q3:o=19
  ·subst q3;exact Xs _ _ _ _
  refine key ?_ (jQ o n nm _ w q1 q2 q3);simp [Fo,Hv,Db,Bv,Ec,Ex.kind,Ex.op,q1,q2,q3]
 by_cases h4:k=4
 ·subst h4;exact jZ _ _ _ _ _
 by_cases h5:k=5
 ·subst h5
  cases hn:Ah nm
  ·refine key ?_ (aU o n nm a args.length cap hn w)
   simp [Fo,Hv,Db,Bv,Ec,Ex.kind,Ex.name,Ex.args,hn]
  ·refine key ?_ (eQ o n nm a args.length cap hn w)
   simp [Fo,Hv,Db,Bv,Ec,Ex.kind,Ex.name,Ex.args,hn];rfl
 by_cases h6:k=6
 ·subst h6;exact Ye _ _ _ _ _
 by_cases h7:k=7
 ·subst h7;exact dO _ _ _ _ _
 refine key ?_ (bN k (by simpa using h1) (by simpa using h2) (by simpa using h3) (by simpa using h4) (by simpa using h5) (by simpa using h6) (by simpa using h7) o n nm _ w);simp [Fo,Hv,Db,Bv,Ec,Ex.kind,h1,h2,h3,h4,h5,h6,h7]
def Vn(e:Ex):Prop:= ∀(D:Nat→Prop) (s:Value) (w:World),Ai D w e.args s→
 Calls Zb 55 #[exV e s] w fun r w'=>r=.returned (.bool (Bm e))∧Below w.heap.size w w'
theorem well_fn(e:Ex)(ih:Vn e)(D:Nat→Prop)(s:Value)(w:World)(h:Ai D w e.args s):
  Calls Zb 95 #[exV e s] w fun r w'=>r=.returned (.bool (!Bm e))∧Below w.heap.size w w':=by
 have H:=Za h;clear h;have IH:=Za ih;clear ih;go_enter func95,ntmps95
 go_wp2_with fail
 refine(IH.out D s _ (H.out.old (bA))).mono ?_;rintro r w1 ⟨rfl,hb⟩;go_wp2_with fail
 go_ret
 exact⟨rfl,(bA).trans (hb.mono (by simp))⟩
theorem dR(e:Ex)(ih:∀x,x∈e.args→Vn x):Vn e:=by
 intro D s w h;have H:=Za h;have IH:=Za ih;clear ih;generalize hl:e.args=l at h
 cases h with
 |mk _ a cap b off sv hcap hfit ha h0 h1 h2 h3 h4 hs=>
  subst hl;clear hcap hfit ha h0 h1 h2 h3 h4 hs;have HO:=Za (jP e a cap ((w.alloc (.cells #[.int .i64 e.kind,.int .i64 e.op,.int .i64 e.n,.string (Aa e.name),.slice a e.args.length cap] 31))));go_enter func55,ntmps55
  go_wp2_with fail
  refine HO.o.mono ?_;rintro r w1 ⟨rfl,hb⟩;obtain⟨hc,hf⟩:=Po hb;have hz:w.heap.size<w1.heap.size:=by have:=hb.size;simp at this;omega
  go_wp2_with fail
  ·refine(Ju 95 #[] Tryz.call95 e.args _ D _ (((H.out.old (bA)).old hb).old (bA)) (fun x=> !Bm x) ?_).mono ?_
   ·intro x s' w2 hx _ hs
    exact well_fn x (IH.out x hx) D s' w2 hs
   ·rintro r w2 ⟨rfl,hb2⟩
    go_wp2_with fail
    go_ret
    refine⟨Ak ?_,(((bA).trans (hb.mono (by simp))).alloc (by omega) _).trans (hb2.mono (by simp;omega))⟩;rw[Il];simp [Bn, *,Zm]
  all_goals
   go_ret
   refine⟨Ak ?_,((bA).trans (hb.mono (by simp))).alloc (by omega) _⟩;rw[Il];simp [Bn, *]
theorem Wd:∀(n:Nat) (e:Ex),SizeOf.sizeOf e≤n→Vn e
 |0,e,h=>by cases e;simp at h
 |n+1,e,h=>dR e fun x hx=>Wd n x (by have:=Ex.size_lt hx;omega)
theorem Ht(e:Ex)(D:Nat→Prop)(s:Value)(w:World)(h:Ai D w e.args s):
  Calls Zb 20 #[exV e s] w fun r w'=>r=.returned (.bool (Ce e))∧Below w.heap.size w w':=by
 have H:=Za h;clear h;have E:Hid (Ce e=(Gf 40 e && Bm e)):=rfl;go_enter func20,ntmps20
 go_wp2_with fail
 refine(Xd 40 (by omega) D e s _ (H.out.old (bA))).mono ?_;rintro r w1 ⟨rfl,hb⟩;obtain⟨hc,hf⟩:=Po hb
 cases hd:Gf 40 e
 ·have HD:=Za hd;clear hd
  go_wp2_with fail
  go_ret
  exact⟨Ak (by rw[E.out,HD.o];rfl),(bA).trans (hb.mono (by simp))⟩
 ·have HD:=Za hd;clear hd
  go_wp2_with fail
  refine(Wd _ e (Zg _) D s _ ((H.out.old (bA)).old hb)).mono ?_;rintro r w2 ⟨rfl,hb2⟩;go_wp2_with fail
  go_ret
  exact⟨Ak (by rw[E.out,HD.o];rfl),(bA).trans ((hb.mono (by simp)).trans (hb2.mono (by have:=hb.size;simp at this;omega)))⟩
theorem eD {Ix:Type}(F:Ix→World){P:Program}{id:Nat}{Q:Exit→Act→World→Prop}{a:Act}{w:World}{l:List Oper}(hm:P.follows .mixedOrders=true)(hB:Region.lexB .any l.toArray=true)(hC:∃n,w.drew=F n)
  (h:wpQuiet P l.toArray (fun w'=> ∃n,w'=F n) (fun a'=> ∀w',(∃n,w'=F n)→Q .normal a' w') l a):(Code.region id l.toArray true).wp P Q a w:=
 wp_region_quiet (C:=fun w'=> ∃n,w'=F n) hm hB hC (by simpa using h)
abbrev Lat(w:World):Type:= {w':World // Below w.heap.size w w'}
theorem lat_fun(wr:World):∃(Ix:Type) (_:Nonempty Ix) (F:Ix→World),Hid (∀n,Below wr.heap.size wr (F n))∧Hid (∀w',Below wr.heap.size wr w'→∃n,w'=F n):=⟨Lat wr,⟨⟨wr,Zh _ _⟩⟩,fun n=>n.1,fun n=>n.2,fun w' h=>⟨⟨w',h⟩,rfl⟩⟩
theorem jF {a b c d:Bool}{n:Int}{k:Int}(h1:a=Cp k)(h2:n=Cv k)(h3:b=Fz k)(h4:c=Fy k)(h5:d=fOk k):
  Ending.returned (.tuple #[.agg #[.bool a,.int .i64 n,.bool b,.bool c],.bool d])=.returned (.tuple #[.agg #[.bool (Cp k),.int .i64 (Cv k),.bool (Fz k),.bool (Fy k)],.bool (fOk k)]):=by
 subst h1 h2 h3 h4 h5;rfl
theorem Xr(k:Int)(w:World):
  Calls Zb 118 #[.int .i64 k] w fun r w'=>r=.returned (.tuple #[.agg #[.bool (Cp k),.int .i64 (Cv k),.bool (Fz k),.bool (Fy k)],.bool (fOk k)])∧Below w.heap.size w w':=by
 go_enter func118,ntmps118
 go_wp2
 all_goals(refine bodyPost_ret (by simp [results,results118,go_sem];rfl) rfl ?_)
 all_goals(refine⟨jF ?_ ?_ ?_ ?_ ?_,by repeat(first|exact Zh _ _|refine Below.setCell ?_ (by simp) _|refine Below.alloc ?_ (Zg _) _)⟩)
 all_goals(simp only[beq_iff_eq,beq_eq_false_iff_ne,ne_eq]at*;simp [Cp,Cv,Fz,Fy,fOk, *]<;>omega)
theorem head_eq {l:List Ex}(h:0<l.length):l[0]=l.headD (.mk 0 0 0 [] []):=by cases l with|nil=>simp at h|cons x l=>rfl
theorem bS {α:Type}(l:List α):decide (0<l.length)= !l.isEmpty:=by cases l<;>simp
theorem stmt_fn(e:Ex)(D:Nat→Prop)(s:Value)(w:World)(h:Ai D w e.args s):
  Calls Zb 119 #[exV e s] w fun r w'=>r=.returned (.bool (!Ce e))∧Below w.heap.size w w':=by
 have H:=Za h;clear h;go_enter func119,ntmps119
 go_wp2_with fail
 refine(Ht e D s _ (H.out.old (bA))).mono ?_;rintro r w1 ⟨rfl,hb⟩;go_wp2_with fail
 go_ret
 exact⟨rfl,(bA).trans (hb.mono (by simp))⟩
def gU(m:Nat):Prop:= ∀(D:Nat→Prop) (l:List St) (v:Value) (w:World),Al D w l v→
 Calls Zb 37 #[v,.int .i64 m] w fun r w'=>r=.returned (.bool (l.all (Cu m)))∧Below w.heap.size w w'
def StOf(m:Nat):Prop:= ∀(D:Nat→Prop) (x:St) (a t e:Value) (w:World),Ai D w x.args a→Al D w x.thn t→Al D w x.els e→
 Calls Zb 76 #[stV x a t e,.int .i64 m] w fun r w'=>r=.returned (.bool (Cu m x))∧Below w.heap.size w w'
set_option maxHeartbeats 20000000 in
theorem Ub(m:Nat)(hm:m≤1000)(ih:0<m→gU (m-1)):StOf m:=by
 intro D x a0 t0 e0 w ha ht he;have IH:=Za ih;clear ih;have HA:=Za ha;have HT:=Za ht;have HE:=Za he;clear ha ht he;obtain⟨aa,ca,rfl⟩:∃aa ca,a0=.slice aa x.args.length ca:=HA.o.shape;obtain⟨at',ct,rfl⟩:∃aa ca,t0=.slice aa x.thn.length ca:=HT.o.shape;obtain⟨ae,ce,rfl⟩:∃aa ca,e0=.slice aa x.els.length ca:=HE.o.shape;have hm1:(m:Int)≤1000:=by omega
 have hm0:(0:Int)≤m:=by omega
 go_enter func76,ntmps76
 go_upto_region 2 with(first|(go_at_call 118;refine(Xr _ _).mono ?_;rintro e w1 ⟨rfl,hb⟩;obtain⟨hc,hf⟩:=Po hb;have hz:w.heap.size<w1.heap.size:=(by have:=hb.size;simp at this;omega)))
 go_cut [6,48] (fun _ s48 wx=>s48=.bool (Gd m x)∧wx=w1.alloc (.cells #[.bool (Cp x.kind),.int .i64 (Cv x.kind),.bool (Fz x.kind),.bool (Fy x.kind)] 150))
 case first=>
  cases b0:fOk x.kind
  ·go_wp2_with fail
   go_meet;exact⟨by simp [Gd,b0],rfl⟩
  cases b1:((m:Int)==0)
  case true=>
   go_wp2_with fail
   go_meet;exact⟨by simp [Gd,b1],rfl⟩
  cases b2:((x.args.length:Int)==Cv x.kind)
  ·have b2':((x.args.length:Int) !=Cv x.kind)=true:=by simp [bne,b2]
   go_wp2_with fail
   go_meet;exact⟨by simp [Gd,b2],rfl⟩
  have b2':((x.args.length:Int) !=Cv x.kind)=false:=by simp [bne,b2]
  have t1:=bS x.thn;have e1:=bS x.els
  cases b3:Fz x.kind<;>cases b4:x.thn.isEmpty<;>cases b5:Fy x.kind<;>cases b6:x.els.isEmpty
  all_goals
   rw[b4]at t1;rw[b6]at e1;have E:Hid (Gd m x=((!Fz x.kind && !x.thn.isEmpty)||(!Fy x.kind && !x.els.isEmpty))):=(by show _=_;simp [Gd,b0,b1,b2]);rw[b3,b4,b5,b6]at E;clear b4 b6;simp only[Bool.not_true,Bool.not_false]at t1 e1;go_wp2_with fail
   go_meet;exact⟨by rw[E.out];rfl,by rw[b3,b5]⟩
 case rest=>
  obtain⟨rfl,rfl⟩:=hcut;have hBW:Below w.heap.size w (w1.alloc (.cells #[.bool (Cp x.kind),.int .i64 (Cv x.kind),.bool (Fz x.kind),.bool (Fy x.kind)] 150)):=
   ((bA).trans (hb.mono (by simp))).alloc (by omega) _
  have f0:(w1.alloc (.cells #[.bool (Cp x.kind),.int .i64 (Cv x.kind),.bool (Fz x.kind),.bool (Fy x.kind)] 150)).cell? ⟨w1.heap.size,0,none⟩=some (.bool (Cp x.kind)):=by simp
  have k0:=Ac ((Zh w1.heap.size w1).alloc (Zg _) (.cells #[.bool (Cp x.kind),.int .i64 (Cv x.kind),.bool (Fz x.kind),.bool (Fy x.kind)] 150)) (a:=⟨w.heap.size,0,none⟩) (x:=.int .i64 x.kind) (Ac hb (by simp));have k1:=Ac ((Zh w1.heap.size w1).alloc (Zg _) (.cells #[.bool (Cp x.kind),.int .i64 (Cv x.kind),.bool (Fz x.kind),.bool (Fy x.kind)] 150)) (a:=⟨w.heap.size,1,none⟩) (x:=.string (Aa x.name)) (Ac hb (by simp));have k2:=Ac ((Zh w1.heap.size w1).alloc (Zg _) (.cells #[.bool (Cp x.kind),.int .i64 (Cv x.kind),.bool (Fz x.kind),.bool (Fy x.kind)] 150)) (a:=⟨w.heap.size,2,none⟩) (x:=.slice aa x.args.length ca) (Ac hb (by simp));have k3:=Ac ((Zh w1.heap.size w1).alloc (Zg _) (.cells #[.bool (Cp x.kind),.int .i64 (Cv x.kind),.bool (Fz x.kind),.bool (Fy x.kind)] 150)) (a:=⟨w.heap.size,3,none⟩) (x:=.slice at' x.thn.length ct) (Ac hb (by simp));have k4:=Ac ((Zh w1.heap.size w1).alloc (Zg _) (.cells #[.bool (Cp x.kind),.int .i64 (Cv x.kind),.bool (Fz x.kind),.bool (Fy x.kind)] 150)) (a:=⟨w.heap.size,4,none⟩) (x:=.slice ae x.els.length ce) (Ac hb (by simp));have hz2:w1.heap.size<(w1.alloc (.cells #[.bool (Cp x.kind),.int .i64 (Cv x.kind),.bool (Fz x.kind),.bool (Fy x.kind)] 150)).heap.size:=by simp
  clear hb hc hf;generalize w1.alloc (.cells #[.bool (Cp x.kind),.int .i64 (Cv x.kind),.bool (Fz x.kind),.bool (Fy x.kind)] 150)=W2 at hBW f0 k0 k1 k2 k3 k4 hz2 ⊢;have HBW:=Za hBW;clear hBW
  cases q1:Gd m x
  case true=>
   have Q1:=Za q1;clear q1;go_wp2_with fail
   go_ret
   refine⟨Ak ?_,HBW.o⟩
   cases m with
   |zero=>rfl
   |succ m=>
    have q:=Q1.out;rw[show((m+1:Nat):Int)=(m:Int)+1 from by omega]at q;simp only[Cu,q];rfl
  have Q1:=Za q1;clear q1;go_upto_region 4 with(fail)
  go_cut [77] (fun s77 wx=>s77=.bool (Ki x)∧Below W2.heap.size W2 wx)
  case first=>
   have E:Hid (Ki x=(!(Cp x.kind==Ah x.name)||(!Cp x.kind && !(x.name==[]))||(x.kind==10 && !((x.args.headD (.mk 0 0 0 [] [])).kind==5)))):=rfl;obtain⟨Ix,hIx,F,HFB,HFI⟩:=lat_fun W2;have HCL:Hid (∀n,Calls Zb 73 #[.string (Aa x.name)] (F n) fun e w'=>e=.returned (.bool (Ah x.name))∧∃m,w'=F m):=fun n=>by
    refine(Ir x.name (F n)).mono ?_;rintro e w' ⟨he,hb⟩;exact⟨he,HFI.o w' ((HFB.o n).trans (hb.mono (HFB.o n).size))⟩
   have g0:∀n,(F n).cell? ⟨w1.heap.size,0,none⟩=some (.bool (Cp x.kind)):=fun n=>Ac (HFB.o n) f0
   have g1:∀n,(F n).cell? ⟨w.heap.size,0,none⟩=some (.int .i64 x.kind):=fun n=>Ac (HFB.o n) k0
   have g2:∀n,(F n).cell? ⟨w.heap.size,1,none⟩=some (.string (Aa x.name)):=fun n=>Ac (HFB.o n) k1
   have g3:∀n,(F n).cell? ⟨w.heap.size,2,none⟩=some (.slice aa x.args.length ca):=fun n=>Ac (HFB.o n) k2
   have HST:Hid (∃n,W2.drew=F n):=HFI.o _ (Zh _ _).drew;refine eD F (by kernel_rfl) (by kernel_rfl) HST.o ?_;have fin:∀ {K:Act→World→Prop} {a:Act},(∀n,K a (F n))→∀w',(∃n,w'=F n)→K a w':=fun h w' ⟨n,e⟩=>e ▸ h n
   cases n1:Cp x.kind<;>cases n2:Ah x.name
   all_goals
    rw[n1,n2]at E;rw[n1]at g0;rw[n2]at HCL;clear k0 k1 k2 k3 k4 f0
   case false.false=>
    cases n4:(x.name==[])
    ·rw[n4]at E
     have n5:x.name.isEmpty=false:=by simpa using n4
     repeat(go_big_quiet_step ((go_at_call 73;exact HCL.o _)))
     refine wpQuiet_nil (fin fun nq=>?_);go_wp2_with fail
     go_meet;exact⟨by rw[E.out];rfl,HFB.o nq⟩
    ·have n5:x.name.isEmpty=true:=by simpa using n4
     rw[n4]at E;clear n4
     cases n3:(x.kind==10)
     ·rw[n3]at E
      repeat(go_big_quiet_step ((go_at_call 73;exact HCL.o _)))
      refine wpQuiet_nil (fin fun nq=>?_);go_wp2_with fail
      go_meet;exact⟨by rw[E.out];rfl,HFB.o nq⟩
     ·rw[n3]at E
      have hlen:x.args.length=1:=by
       have q:=Q1.out;simp [Gd,show x.kind=10 by simpa using n3,Cv,fOk,Fz,Fy]at q;omega
      obtain⟨b,off,rfl,z⟩:=HA.o.cell0 (by omega);have g4:∀n,(F n).cell? ⟨b,off,none⟩=some (.int .i64 (Bh x.args 0).kind):=fun n=>Ac (HFB.o n) (Ac HBW.o z)
      have hl0:0<x.args.length:=by omega
      clear hlen z
      repeat(go_big_quiet_step ((go_at_call 73;exact HCL.o _)))
      refine wpQuiet_nil (fin fun nq=>?_);go_wp2_with fail
      go_meet;exact⟨by rw[E.out,←head_eq hl0];simp [bne],HFB.o nq⟩
   case true.true=>
    have n3:(x.kind==10)=false:=by simp [Cp]at n1;simp;omega
    rw[n3]at E
    repeat(go_big_quiet_step ((go_at_call 73;exact HCL.o _)))
    refine wpQuiet_nil (fin fun nq=>?_);go_wp2_with fail
    go_meet;exact⟨by rw[E.out];rfl,HFB.o nq⟩
   all_goals
    repeat(go_big_quiet_step ((go_at_call 73;exact HCL.o _)))
    refine wpQuiet_nil (fin fun nq=>?_);go_wp2_with fail
    go_meet;exact⟨by rw[E.out];rfl,HFB.o nq⟩
  case rest=>
   obtain⟨rfl,hb2⟩:=hcut;have HB2:=Za (HBW.o.trans (hb2.mono (by have:=HBW.o.size;omega)));have j2:=Ac hb2 k2;have j3:=Ac hb2 k3;have j4:=Ac hb2 k4;have hs2:=hb2.size;clear f0 k0 k1 k2 k3 k4 hb2
   cases q2:Ki x
   case true=>
    have Q2:=Za q2;clear q2;go_wp2_with fail
    go_ret
    refine⟨Ak ?_,HB2.o⟩
    cases m with
    |zero=>rfl
    |succ m=>simp [Cu,Q2.out]
   have Q2:=Za q2;clear q2;have hmp:Hid (0<m):=by
    cases m with
    |zero=>have q:=Q1.out;simp [Gd]at q
    |succ m=>exact Nat.succ_pos m
   obtain⟨m',hm'⟩:∃m',m=m'+1:=⟨m-1,by have:=hmp.out;omega⟩;have EM:Hid (Cu m x=(!Gd m x && !Ki x && x.args.all Ce && x.thn.all (Cu (m-1)) && x.els.all (Cu (m-1)))):=by
    show _=_
    subst hm';simp only[Cu,Nat.add_sub_cancel];rw[show((m'+1:Nat):Int)=(m':Int)+1 from by omega]
   clear hm';have hsub:Hid (((m-1:Nat):Int)=(m:Int)-1):=by show _=_;have:=hmp.out;omega
   have hm2:1≤(m:Int):=by have:=hmp.out;omega
   go_wp2_with fail
   refine(Ju 119 #[] Tryz.call119 x.args _ D _ (HA.o.old HB2.o) (fun e=> !Ce e) (fun e s' w3 _ _ hs=>stmt_fn e D s' w3 hs)).mono ?_;rintro r w3 ⟨rfl,hb3⟩;have l3:=Ac hb3 j3;have l4:=Ac hb3 j4;have HB3:=Za (HB2.o.trans (hb3.mono (by omega)));have hs3:=hb3.size;clear j2 j3 j4 hb3;have A1:x.args.any (fun e=> !Ce e)= !x.args.all Ce:=by simp [Zm]
   rw[A1];clear A1
   cases qa:x.args.all Ce
   ·have QA:=Za qa;clear qa
    go_wp2_with fail
    go_ret
    exact⟨Ak (by rw[EM.out,QA.out];simp),HB3.o⟩
   have QA:=Za qa;clear qa;go_wp2_with fail
   rw[←hsub.out];refine(IH.out hmp.out D x.thn _ _ (HT.o.old HB3.o)).mono ?_;rintro r w4 ⟨rfl,hb4⟩;have m4:=Ac hb4 l4;have HB4:=Za (HB3.o.trans (hb4.mono (by omega)));have hs4:=hb4.size;clear l3 l4 hb4
   cases qt:x.thn.all (Cu (m-1))
   ·have QT:=Za qt;clear qt
    go_wp2_with fail
    go_ret
    exact⟨Ak (by rw[EM.out,QA.out,QT.out];simp),HB4.o⟩
   have QT:=Za qt;clear qt;go_wp2_with fail
   rw[←hsub.out];refine(IH.out hmp.out D x.els _ _ (HE.o.old HB4.o)).mono ?_;rintro r w5 ⟨rfl,hb5⟩;have HB5:=Za (HB4.o.trans (hb5.mono (by omega)));clear m4 hb5;go_wp2_with fail
   go_ret
   exact⟨Ak (by rw[EM.out,QA.out,QT.out,Q1.out,Q2.out];simp),HB5.o⟩
theorem jC(m:Nat)(hm:m≤1000)(ih:StOf m)(D:Nat→Prop)(x:St)(a t e:Value)(w:World)(ha:Ai D w x.args a)(ht:Al D w x.thn t)(he:Al D w x.els e)(B:Nat)(hB:w.cell? ⟨B,0,none⟩=some (.int .i64 m)):
  Calls Zb 75 #[stV x a t e,.pointer (some ⟨B,0,none⟩)] w fun r w'=>r=.returned (.bool (!Cu m x))∧Below w.heap.size w w':=by
 have HA:=Za ha;have HT:=Za ht;have HE:=Za he;clear ha ht he;have hBl:B<w.heap.size:=Zr _ _ hB;go_enter func75,ntmps75
 go_wp2_with fail
 refine(ih D x a t e _ (HA.o.old (bA)) (HT.o.old (bA)) (HE.o.old (bA))).mono ?_;rintro r w1 ⟨rfl,hb⟩;go_wp2_with fail
 go_ret
 exact⟨rfl,(bA).trans (hb.mono (by simp))⟩
theorem Rh(m:Nat)(hm:m≤1000)(ih:StOf m):gU m:=by
 intro D l v w h;have H:=Za h;clear h;have IH:=Za ih;clear ih;go_enter func37,ntmps37
 go_wp2_with fail
 refine(Uh 75 _ Tryz.call75 l v D _ (H.out.old (bA)) (fun x=> !Cu m x) ?_).mono ?_
 ·intro x a t e w1 _ hb ha ht he
  exact jC m hm IH.out D x a t e w1 ha ht he _ (Ac hb (by simp))
 ·rintro r w1 ⟨rfl,hb⟩
  go_wp2_with fail
  go_ret
  exact⟨Ak (by simp [Zm]),(bA).trans (hb.mono (by simp))⟩
theorem Xp:∀m,m≤1000→StOf m∧gU m
 |0,h=>have a:=Ub 0 h (fun h=>by omega);⟨a,Rh 0 h a⟩
 |m+1,h=>have a:=Ub (m+1) h (fun _=>(Xp m (by omega)).2);⟨a,Rh (m+1) h a⟩
theorem iN(s:Bs)(w:World):
  Calls Zb 72 #[.string (Aa s)] w fun r w'=>r=.returned (.bool (!Ah s))∧Below w.heap.size w w':=by
 go_enter func72,ntmps72
 go_wp2_with fail
 refine(Ir s _).mono ?_;rintro r w1 ⟨rfl,hb⟩;go_wp2_with fail
 go_ret
 exact⟨rfl,hb⟩
theorem Ly(l:List Bs)(v:Value)(D:Nat→Prop)(w:World)(h:Aq D w l v):
  Calls Zb 36 #[v] w fun r w'=>r=.returned (.bool (l.all Ah))∧Below w.heap.size w w':=by
 obtain⟨a,cap,b,off,rfl,h1,h2,h3,h4⟩:=h;have HC:=Za (Sq a l.length cap 72 #[] Tryz.call72 w (fun i=>.string (Aa (l.getD i []))) (fun i=> !Ah (l.getD i [])) (h2).out
  (h3.imp id fun h=>⟨b,off,h.1,h4⟩) (fun i _ w1 _=>iN _ w1))
 clear h1 h2 h3 h4;have E:Hid ((!Kq (fun i=> !Ah (l.getD i [])) l.length)=l.all Ah):=by
  show _=_
  rw[Oi (fun s=> !Ah s) _ l (fun i hi=>by simp [Zl hi])];simp [Zm]
 go_enter func36,ntmps36
 go_wp2_with fail
 refine HC.o.mono ?_;rintro r w1 ⟨rfl,hb⟩;go_wp2_with fail
 go_ret
 exact⟨Ak E.out,hb⟩
theorem Ts(p:Pr)(D:Nat→Prop)(sa sf:Value)(w:World)(ha:Br D w p.arrays sa)(hf:Bj D w p.funcs sf):
  Calls Zb 11 #[.agg #[sa,sf]] w fun r w'=>r=.returned (.bool (Dp p))∧Below w.heap.size w w':=by
 obtain⟨aa,ca,ba,oa,rfl,a1,a2,a3,a4⟩:=ha;obtain⟨af,cf,bf,of',pv,lv,bv,rfl,f1,f2,f3,f4⟩:=hf;have la:=a2.lt;have lf:=f2.lt;have A3:=Za a3;have A4:=Za a4;have F3:=Za f3;have F4:=Za f4;have E:Hid (Dp p=(p.arrays.all Ck && p.funcs.all Dd)):=rfl;clear a1 a2 a3 a4 f1 f2 f3 f4;go_enter func11,ntmps11
 go_wp2_with fail
 have HW:Hid (Below w.heap.size w (w.alloc (.cells #[.slice aa p.arrays.length ca,.slice af p.funcs.length cf] 27))):=bA;have c1:(w.alloc (.cells #[.slice aa p.arrays.length ca,.slice af p.funcs.length cf] 27)).cell? ⟨w.heap.size,1,none⟩=some (.slice af p.funcs.length cf):=by simp
 have hz0:w.heap.size<(w.alloc (.cells #[.slice aa p.arrays.length ca,.slice af p.funcs.length cf] 27)).heap.size:=by simp
 generalize w.alloc (.cells #[.slice aa p.arrays.length ca,.slice af p.funcs.length cf] 27)=W at HW c1 hz0 ⊢
 go_loopw [2,4,10] (fun s2 _ s10 wr=> ∃k:Nat,k≤p.arrays.length∧s10=.int .i64 k∧s2=.bool false∧(∀i,i<k→Ck (Iu p.arrays i)=true)∧Below W.heap.size W wr) (fun _ _ s10 _=>p.arrays.length-(intOf s10).toNat)
 case atStart=>exact⟨0,Nat.zero_le _,rfl,rfl,fun i hi=>by omega,Zh _ _⟩
 case round=>
  obtain⟨k,hk,rfl,rfl,hall,hb⟩:=hrel;have ALL:=Za hall;clear hall;have HB:=Za (HW.o.trans (hb.mono (by omega)));have HBW:=Za hb;have hzr:w.heap.size<wr.heap.size:=by have:=hb.size;omega
  have c2:=Ac hb c1;clear hb
  by_cases hlt:k<p.arrays.length
  ·obtain⟨rfl,_⟩:aa=some ⟨ba,oa,none⟩∧D ba:=by rcases A3.out with h|h;omega;exact h
   obtain⟨g0,g1⟩:=A4.out k hlt;have e0:=Ac HB.o g0;have e1:=Ac HB.o g1;clear g0 g1;generalize hAk:Iu p.arrays k=A at e0 e1;have HAK:=Za hAk;clear hAk;have RA:Hid (Ck A=(Ah A.name && decide (1≤A.size∧A.size≤1048576))):=rfl;go_wp2_with fail
   refine(Ly [A.name] _ (fun _=>True) _ ⟨some ⟨wr.heap.size+1,0,none⟩,1,wr.heap.size+1,0,rfl,Zg _,by show _≤_;simp,.inr ⟨rfl,trivial⟩,fun i hi=>by obtain rfl:i=0:=(by simp at hi;omega);simp⟩).mono ?_;rintro r w3 ⟨rfl,hb3⟩;have hbr:Below wr.heap.size wr w3:=((bA).alloc (by simp) _).trans (hb3.mono (by simp;omega));have d1:w3.cell? ⟨wr.heap.size,1,none⟩=some (.int .i64 A.size):=Ac hb3 (by simp [Zn]);have HBR:=Za hbr;have HB3:=Za (HB.o.trans (hbr.mono (by omega)));clear hb3 hbr;rw[show([A.name].all Ah)=Ah A.name from by simp];have bad:Hid (Ck A=false→Dp p=false):=fun h=>by
    rw[E.out,Ne p.arrays Ar.nil Ck k hlt (by rw[show p.arrays.getD k Ar.nil=A from HAK.o];exact h)];rfl
   cases q1:Ah A.name
   ·have Q1:=Za q1;clear q1
    go_wp2_with fail
    go_ret
    exact⟨Ak (bad.out (by rw[RA.out,Q1.out];rfl)).symm,HB3.o⟩
   have Q1:=Za q1;clear q1
   by_cases q2:1≤A.size
   ·by_cases q3:A.size≤1048576
    ·go_wp2_with fail
     go_roundw
     case rel=>
      refine⟨k+1,by omega,by go_num,rfl,fun i hi=>?_,HBW.o.trans (HBR.o.mono HBW.o.size)⟩;rcases Nat.lt_succ_iff_lt_or_eq.1 hi with h|rfl
      ·exact ALL.out i h
      ·rw[HAK.o,RA.out,Q1.out];simp [q2,q3]
     case measure=>simp [intOf];omega
    ·go_wp2_with fail
     go_ret
     exact⟨Ak (bad.out (by rw[RA.out,Q1.out];simp;omega)).symm,HB3.o⟩
   ·go_wp2_with fail
    go_ret
    exact⟨Ak (bad.out (by rw[RA.out,Q1.out];simp;omega)).symm,HB3.o⟩
  ·have hkn:k=p.arrays.length:=by omega
   have EA:Hid (p.arrays.all Ck=true):=Tn p.arrays Ar.nil Ck (fun i hi=>ALL.out i (by omega));clear hkn;go_wp2_with fail
   go_loopw [2,6,33] (fun s2 _ s33 wx=> ∃j:Nat,j≤p.funcs.length∧s33=.int .i64 j∧s2=.bool false∧(∀i,i<j→Dd (Cm p.funcs i)=true)∧Below wr.heap.size wr wx) (fun _ _ s33 _=>p.funcs.length-(intOf s33).toNat)
   case atStart=>exact⟨0,Nat.zero_le _,rfl,rfl,fun i hi=>by omega,Zh _ _⟩
   case round=>
    clear c1 c2;obtain⟨j,hj,rfl,rfl,hall,hb⟩:=hrel;have ALF:=Za hall;clear hall
    rename World=>wx
    have HBX:=Za (HB.o.trans (hb.mono (by omega)));have HBY:=Za hb;clear hb
    by_cases hlj:j<p.funcs.length
    ·obtain⟨rfl,_⟩:af=some ⟨bf,of',none⟩∧D bf:=by rcases F3.out with h|h;omega;exact h
     obtain⟨⟨g0,g1,g2,g3⟩,gp,gl,gb⟩:=F4.out j hlj;have e0:=Ac HBX.o g0;have e1:=Ac HBX.o g1;have e2:=Ac HBX.o g2;have e3:=Ac HBX.o g3;have GP:=Za (gp.old HBX.o);have GL:=Za (gl.old HBX.o);have GB:=Za (gb.old HBX.o);clear g0 g1 g2 g3 gp gl gb;generalize hAk:Cm p.funcs j=A at e0 GP GL GB;generalize pv j=P1 at e1 GP;generalize lv j=L1 at e2 GL;generalize bv j=B1 at e3 GB;have HAK:=Za hAk;clear hAk;obtain⟨pa,pc,hpv⟩:∃a cap,P1=.slice a A.params.length cap:=by obtain⟨a,cap,_,_,h,_⟩:=GP.out;exact⟨a,cap,h⟩
     subst hpv;obtain⟨qa,qc,hqv⟩:∃a cap,L1=.slice a A.locals.length cap:=by obtain⟨a,cap,_,_,h,_⟩:=GL.out;exact⟨a,cap,h⟩
     subst hqv;obtain⟨ra,rc,hrv⟩:∃a cap,B1=.slice a A.body.length cap:=GB.out.shape;subst hrv;have RA:Hid (Dd A=(Ah A.name && A.params.all Ah && A.locals.all Ah && decide (A.params.length≤6) && A.body.all (Cu 40))):=rfl;have bad:Hid (Dd A=false→Dp p=false):=fun h=>by
      rw[E.out,EA.out,Ne p.funcs Fu.nil Dd j hlj (by rw[show p.funcs.getD j Fu.nil=A from HAK.o];exact h)];rfl
     go_wp2_with fail
     refine(Ly [A.name] _ (fun _=>True) _ ⟨some ⟨wx.heap.size+1,0,none⟩,1,wx.heap.size+1,0,rfl,Zg _,by show _≤_;simp,.inr ⟨rfl,trivial⟩,fun i hi=>by obtain rfl:i=0:=(by simp at hi;omega);simp⟩).mono ?_;rintro r w3 ⟨rfl,hb3⟩;have hbr:Below wx.heap.size wx w3:=((bA).alloc (by simp) _).trans (hb3.mono (by simp;omega));have d1:w3.cell? ⟨wx.heap.size,1,none⟩=some (.slice pa A.params.length pc):=Ac hb3 (by simp [Zn]);have d2:w3.cell? ⟨wx.heap.size,2,none⟩=some (.slice qa A.locals.length qc):=Ac hb3 (by simp [Zn]);have d3:w3.cell? ⟨wx.heap.size,3,none⟩=some (.slice ra A.body.length rc):=Ac hb3 (by simp [Zn]);have HBR:=Za hbr;have hs3:=hbr.size;clear hb3 hbr e0 e1 e2 e3;rw[show([A.name].all Ah)=Ah A.name from by simp];have HBZ:=Za (HBX.o.trans (HBR.o.mono (by have:=HBX.o.size;omega)))
     cases q1:Ah A.name
     ·have Q1:=Za q1;clear q1
      go_wp2_with fail
      go_ret
      exact⟨Ak (bad.out (by rw[RA.out,Q1.out];rfl)).symm,HBZ.o⟩
     have Q1:=Za q1;clear q1;go_wp2_with fail
     refine(Ly A.params _ D _ (GP.out.old HBR.o)).mono ?_;rintro r w4 ⟨rfl,hb4⟩;have HB4:=Za (HBR.o.trans (hb4.mono hs3));have k1:=Ac hb4 d1;have k2:=Ac hb4 d2;have k3:=Ac hb4 d3;have hs4:=hb4.size;clear hb4 d1 d2 d3;have HBZ4:=Za (HBX.o.trans (HB4.o.mono (by have:=HBX.o.size;omega)))
     cases q2:A.params.all Ah
     ·have Q2:=Za q2;clear q2
      go_wp2_with fail
      go_ret
      exact⟨Ak (bad.out (by rw[RA.out,Q2.out];simp)).symm,HBZ4.o⟩
     have Q2:=Za q2;clear q2;go_wp2_with fail
     refine(Ly A.locals _ D _ (GL.out.old HB4.o)).mono ?_;rintro r w5 ⟨rfl,hb5⟩;have HB5:=Za (HB4.o.trans (hb5.mono (by omega)));have m1:=Ac hb5 k1;have m3:=Ac hb5 k3;have hs5:=hb5.size;clear hb5 k1 k2 k3;have HBZ5:=Za (HBX.o.trans (HB5.o.mono (by have:=HBX.o.size;omega)))
     cases q3:A.locals.all Ah
     ·have Q3:=Za q3;clear q3
      go_wp2_with fail
      go_ret
      exact⟨Ak (bad.out (by rw[RA.out,Q3.out];simp)).symm,HBZ5.o⟩
     have Q3:=Za q3;clear q3
     by_cases q4:A.params.length≤6
     ·go_wp2_with fail
      refine((Xp 40 (by omega)).2 D A.body _ _ (GB.out.old HB5.o)).mono ?_;rintro r w6 ⟨rfl,hb6⟩;have HB6:=Za (HB5.o.trans (hb6.mono (by omega)));clear hb6 m1 m3;have HBZ6:=Za (HBX.o.trans (HB6.o.mono (by have:=HBX.o.size;omega)))
      cases q5:A.body.all (Cu 40)
      ·have Q5:=Za q5;clear q5
       go_wp2_with fail
       go_ret
       exact⟨Ak (bad.out (by rw[RA.out,Q5.out];simp)).symm,HBZ6.o⟩
      ·have Q5:=Za q5;clear q5
       go_wp2_with fail
       go_roundw
       case rel=>
        refine⟨j+1,by omega,by go_num,rfl,fun i hi=>?_,HBY.o.trans (HB6.o.mono HBY.o.size)⟩;rcases Nat.lt_succ_iff_lt_or_eq.1 hi with h|rfl
        ·exact ALF.out i h
        ·rw[HAK.o,RA.out,Q1.out,Q2.out,Q3.out,Q5.out];simp [q4]
       case measure=>simp [intOf];omega
     ·have q4':6<A.params.length:=by omega
      go_wp2_with fail
      go_ret
      exact⟨Ak (bad.out (by rw[RA.out];simp [q4])).symm,HBZ5.o⟩
    ·have hjn:j=p.funcs.length:=by omega
     have EF:Hid (p.funcs.all Dd=true):=Tn p.funcs Fu.nil Dd (fun i hi=>ALF.out i (by omega));clear hjn;go_wp2_with fail
     go_ret
     exact⟨Ak (by rw[E.out,EA.out,EF.out];rfl),HBX.o⟩
def Ct(w:World):Prop:=Lib.TabIs Zb w "internal/strconv.uint64pow10" .u64 Lib.pow10Tab
theorem Ct.keep {w w':World}(h:Ct w)(hb:w'.heap[3]? =w.heap[3]?):Ct w':=by
 have hg:Tryz.prog.globalNamed "internal/strconv.uint64pow10" =some 3:=by kernel_rfl
 unfold Ct Lib.TabIs World.var? at*;simp only[hg,Option.bind_eq_bind,Option.bind_some]at*;rw[hb];exact h
theorem Wq(n:Int)(h:I64 n)(w:World)(ht:Ct w):
  Calls Zb 31 #[.int .i64 n] w fun e w'=>e=.returned (.string (Aa (Lib.itoa n)))∧Below w.heap.size w w':=by
 refine(Tryz.strconv_Itoa n h.1 h.2 w ht).mono ?_;rintro e w' ⟨rfl,k,os,rfl⟩;exact⟨rfl,rfl,rfl,rfl,by simp,fun i hi=>by simp [Sort.grow,World.drewN,Array.getElem?_append_left hi]⟩
def Ez(e:Ex):Prop:= ∀(b:Nat) (bs:Bs) (t:Int) (s:Value) (w:World),3<b→Ct w→Be w b bs t→Ai (· <b) w e.args s→I64 e.n→Bm e=true→Bw (bs.length+(Ae e).length)→
 Calls Zb 52 #[.pointer (some ⟨b,0,none⟩),exV e s] w (Hl w b bs t (Ae e))
theorem Ct.fr {w w':World}{b:Nat}{bs:Bs}{t:Int}(h:Ct w)(hf:PFr b w w')(hp:Be w b bs t)(hb:3<b):Ct w':=h.keep ((hf.below hp).block _ hb)
theorem Rl(e:Ex)(ih:Ez e)(level:Int)(b:Nat)(bs:Bs)(t:Int)(s:Value)(w:World)(hb:3<b)(ht:Ct w)(hp:Be w b bs t)(hs:Ai (· <b) w e.args s)(hn:I64 e.n)(hw:Bm e=true)(hf:Bw (bs.length+(Cs e level).length)):
  Calls Zb 86 #[.pointer (some ⟨b,0,none⟩),exV e s,.int .i64 level] w (Hl w b bs t (Cs e level)):=by
 have IH:=Za ih;have HT:=Za ht;have HP:=Za hp;have HN:=Za hn;have HW:=Za hw;have HF:=Za hf;obtain⟨sa,sc,rfl⟩:=hs.shape;have HS:=Za hs;clear ih ht hs hn hw hf;have hlt:=hp.lt;have hp1:=Za (hp.alloc (.cells #[.int .i64 e.kind,.int .i64 e.op,.int .i64 e.n,.string (Aa e.name),.slice sa e.args.length sc] 31));have hf1:=Za (Zc hp (.cells #[.int .i64 e.kind,.int .i64 e.op,.int .i64 e.n,.string (Aa e.name),.slice sa e.args.length sc] 31));have hl1:=Za (Loc.new hp [.int .i64 e.kind,.int .i64 e.op,.int .i64 e.n,.string (Aa e.name),.slice sa e.args.length sc] 31);clear hp
 by_cases h4:e.kind=4
 ·have k4:(e.kind==4)=true:=by simpa using h4
  by_cases hl:Bi e.op<level
  ·have E:Hid (Cs e level=[40]++(Ae e++[41])):=by show _=_;simp [Cs,Cz,h4,hl]
   rw[E.out]at HF ⊢;clear h4;go_enter func86,ntmps86
   go_wp2_with fail
   refine(Lq e.op _).mono ?_;rintro r w2 ⟨rfl,hb2⟩;have hf2:=Zf hb2 hp1.out.lt;have HP2:=Za (hp1.out.old hb2);have HF2:=Za (hf1.out.trans hf2);have HL2:=Za (hl1.out.step hf2);clear hb2 hf2 hp1 hf1 hl1;go_wp2_with fail
   refine(Ni [40] _ _ b bs t w2 rfl HP2.o (HF.o.mono (by simp))).mono ?_;rintro r w3 ⟨rfl,hp3,hf3⟩;have HP3:=Za hp3;have HF3:=Za (HF2.o.trans hf3);have HL3:=Za (HL2.o.step hf3);clear hp3 hf3 HP2 HF2 HL2;have c0:=HL3.o.cell 0 (by simp);have c1:=HL3.o.cell 1 (by simp);have c2:=HL3.o.cell 2 (by simp);have c3:=HL3.o.cell 3 (by simp);have c4:=HL3.o.cell 4 (by simp);simp only[Zd,Ze]at c0 c1 c2 c3 c4;go_wp2_with fail
   refine(IH.out b (bs++[40]) t _ w3 hb (HT.o.fr HF3.o HP.o hb) HP3.o (HS.o.keep (HF3.o.keeps HP.o)) HN.o HW.o (HF.o.mono (by simp;omega))).mono ?_;rintro r w4 ⟨rfl,hp4,hf4⟩;have HP4:=Za hp4;have HF4:=Za (HF3.o.trans hf4);clear hp4 hf4 c0 c1 c2 c3 c4;go_wp2_with fail
   refine(Ni [41] _ _ b _ t w4 rfl HP4.o (HF.o.mono (by simp;omega))).mono ?_;rintro r w5 ⟨rfl,hp5,hf5⟩;go_wp2_with fail
   go_end0
   exact⟨rfl,by simpa using hp5,HF4.o.trans hf5⟩
  ·have hl':level≤Bi e.op:=by omega
   have E:Hid (Cs e level=Ae e):=by show _=_;simp [Cs,Cz,hl]
   rw[E.out]at HF ⊢;clear h4;go_enter func86,ntmps86
   go_wp2_with fail
   refine(Lq e.op _).mono ?_;rintro r w2 ⟨rfl,hb2⟩;have hf2:=Zf hb2 hp1.out.lt;have HP2:=Za (hp1.out.old hb2);have HF2:=Za (hf1.out.trans hf2);have HL2:=Za (hl1.out.step hf2);clear hb2 hf2 hp1 hf1 hl1;have c0:=HL2.o.cell 0 (by simp);have c1:=HL2.o.cell 1 (by simp);have c2:=HL2.o.cell 2 (by simp);have c3:=HL2.o.cell 3 (by simp);have c4:=HL2.o.cell 4 (by simp);simp only[Zd,Ze]at c0 c1 c2 c3 c4;go_wp2_with fail
   refine(IH.out b bs t _ w2 hb (HT.o.fr HF2.o HP.o hb) HP2.o (HS.o.keep (HF2.o.keeps HP.o)) HN.o HW.o HF.o).mono ?_;rintro r w4 ⟨rfl,hp4,hf4⟩;have HP4:=Za hp4;have HF4:=Za (HF2.o.trans hf4);clear hp4 hf4 c0 c1 c2 c3 c4;go_wp2_with fail
   go_end0
   exact⟨rfl,HP4.o,HF4.o⟩
 ·have k4:(e.kind==4)=false:=by simpa using h4
  have E:Hid (Cs e level=Ae e):=by show _=_;simp [Cs,Cz,h4]
  rw[E.out]at HF ⊢;clear h4;go_enter func86,ntmps86
  go_wp2_with fail
  refine(IH.out b bs t _ _ hb (HT.o.fr hf1.out HP.o hb) hp1.out (HS.o.keep (hf1.out.keeps HP.o)) HN.o HW.o HF.o).mono ?_;rintro r w4 ⟨rfl,hp4,hf4⟩;have HP4:=Za hp4;have HF4:=Za (hf1.out.trans hf4);clear hp4 hf4;go_wp2_with fail
  go_end0
  exact⟨rfl,HP4.o,HF4.o⟩
theorem aV(a c:List Bs):(Ax a).length≤(Ax (a++c)).length:=by
 cases a with
 |nil=>simp [Ax]
 |cons x l=>simp [Ax]
theorem Kl(ts:List Bs)(k:Nat):(Ax (ts.take k)).length≤(Ax ts).length:=by
 have:=aV (ts.take k) (ts.drop k)
 rwa[List.take_append_drop]at this
theorem Sz(l:List Ex)(k:Nat)(h:k<l.length):(l.take (k+1)).map Ae=(l.take k).map Ae++[Ae (Bh l k)]:=by
 rw[Zs h,List.map_append,List.map_cons,List.map_nil,Wu h]
theorem kG(l:List Ex)(ih:∀x,x∈l→Ez x)(b:Nat)(bs:Bs)(t:Int)(s:Value)(w:World)(hb:3<b)(ht:Ct w)(hp:Be w b bs t)(hs:Ai (· <b) w l s)(hw:∀x,x∈l→Bm x=true)(hf:Bw (bs.length+(Ax (l.map Ae)).length)):
  Calls Zb 88 #[.pointer (some ⟨b,0,none⟩),s,.func (.func 52) #[.pointer (some ⟨b,0,none⟩)] #[]] w (Hl w b bs t (Ax (l.map Ae))):=by
 have IH:=Za ih;have HT:=Za ht;have HP:=Za hp;have HW:=Za hw;have HF:=Za hf;obtain⟨sa,sc,rfl⟩:=hs.shape;have hl63:=hs.fits.lt;have HS:=Za hs;clear ih ht hs hw hf hp;go_enter func88,ntmps88
 go_wp2_with fail
 go_loopw [6,7,10] (fun _ _ s10 wr=> ∃k:Nat,k≤l.length∧s10=.int .i64 k∧Be wr b (bs++Ax ((l.take k).map Ae)) t∧PFr b w wr) (fun _ _ s10 _=>l.length-(intOf s10).toNat)
 case atStart=>exact⟨0,Nat.zero_le _,rfl,by simpa [Ax]using HP.o,PFr.refl _ _⟩
 case round=>
  obtain⟨k,hk,rfl,hpk,hfr⟩:=hrel;have HPK:=Za hpk;have HFR:=Za hfr;have hbl:=hpk.lt;clear hpk hfr
  by_cases hlt:k<l.length
  ·obtain⟨eb,off,es,rfl,hD,c0,c1,c2,c3,c4,hes,hn⟩:=(HS.o.keep (HFR.o.keeps HP.o)).cellAt k hlt
   obtain⟨ea,ec,rfl⟩:=hes.shape;have HES:=Za hes;have HN:=Za hn;have IHX:=Za (IH.out _ (Cb hlt));have HWX:=Za (HW.o _ (Cb hlt));have hmap:=Za (Sz l k hlt);have hle:=Za (Kl (l.map Ae) (k+1));rw[←List.map_take,hmap.out,Ij]at hle;clear hes hn hD;generalize Bh l k=e at c0 c1 c2 c3 c4 HES HN IHX HWX hmap hle;have hp1:=Za (HPK.o.alloc (.cells #[.int .i64 e.kind,.int .i64 e.op,.int .i64 e.n,.string (Aa e.name),.slice ea e.args.length ec] 31));have hf1:=Za (HFR.o.trans (Zc HPK.o (.cells #[.int .i64 e.kind,.int .i64 e.op,.int .i64 e.n,.string (Aa e.name),.slice ea e.args.length ec] 31)));have hl1:=Za (Loc.new HPK.o [.int .i64 e.kind,.int .i64 e.op,.int .i64 e.n,.string (Aa e.name),.slice ea e.args.length ec] 31);have hebl:eb<wr.heap.size:=Zr _ _ c0
   by_cases hk0:k=0
   ·have hk0':(k:Int)≤0:=by omega
    have hnil:(l.take k).map Ae=[]:=by rw[hk0];simp
    rw[if_pos hnil]at hle;have HK0:=Za hk0;have HNIL:=Za hnil;have hle':Hid (Bw ((bs++Ax ((l.take k).map Ae)).length+(Ae e).length)):=HF.o.mono (by have:=hle.out;rw[HNIL.o];simp [Ax];exact this);have hnext:Hid (Ax ((l.take (k+1)).map Ae)=Ax ((l.take k).map Ae)++Ae e):=by show _=_;rw[hmap.out,HNIL.o];simp [Ax]
    clear hk0 hnil;go_wp2_with fail
    refine(IHX.out b _ t _ _ hb (HT.o.fr hf1.out HP.o hb) hp1.out (HES.o.keep ((Zc HPK.o _).keeps HPK.o)) HN.o HWX.o hle'.out).mono ?_;rintro r w3 ⟨rfl,hp3,hf3⟩;have HP3:=Za hp3;have HF3:=Za (hf1.out.trans hf3);clear hp3 hf3 c0 c1 c2 c3 c4;go_wp2_with fail
    go_roundw
    case rel=>exact⟨k+1,by omega,by go_num,by have q:=HP3.o;rw[hnext.out];simpa using q,HF3.o⟩
    case measure=>simp [intOf];omega
   ·have hk1:(0:Int)<k:=by omega
    have hne:Hid ((l.take k).map Ae≠[]):=by
     intro h;rw[List.map_eq_nil_iff,List.take_eq_nil_iff]at h;rcases h with h|h
     ·exact hk0 h
     ·rw[h]at hlt;simp at hlt
    have hle2:Hid (Bw ((bs++Ax ((l.take k).map Ae)).length+([44,32]:Bs).length+(Ae e).length)):=HF.o.mono (by have:=hle.out;rw[if_neg hne.out]at this;simp at this;simp;omega);have hnext:Hid (Ax ((l.take (k+1)).map Ae)=Ax ((l.take k).map Ae)++[44,32]++Ae e):=by show _=_;rw[hmap.out,Ij,if_neg hne.out]
    clear hk0;go_wp2_with fail
    refine(Ni [44,32] _ _ b _ t _ (by simp) hp1.out (hle2.out.mono (by omega))).mono ?_;rintro r w2 ⟨rfl,hp2,hf2⟩;have HP2:=Za hp2;have HF2:=Za (hf1.out.trans hf2);have HL2:=Za (hl1.out.step hf2);have HES2:=Za (HES.o.keep (((Zc HPK.o _).trans hf2).keeps HPK.o));clear hp2 hf2 c0 c1 c2 c3 c4;have c0:=HL2.o.cell 0 (by simp);have c1:=HL2.o.cell 1 (by simp);have c2:=HL2.o.cell 2 (by simp);have c3:=HL2.o.cell 3 (by simp);have c4:=HL2.o.cell 4 (by simp);simp only[Zd,Ze]at c0 c1 c2 c3 c4;go_wp2_with fail
    refine(IHX.out b _ t _ _ hb (HT.o.fr HF2.o HP.o hb) HP2.o HES2.o HN.o HWX.o (hle2.out.mono (by simp;omega))).mono ?_;rintro r w3 ⟨rfl,hp3,hf3⟩;have HP3:=Za hp3;have HF3:=Za (HF2.o.trans hf3);clear hp3 hf3 c0 c1 c2 c3 c4;go_wp2_with fail
    go_roundw
    case rel=>exact⟨k+1,by omega,by go_num,by have q:=HP3.o;rw[hnext.out];simpa using q,HF3.o⟩
    case measure=>simp [intOf];omega
  ·go_wp2_with fail
   go_end0
   exact⟨rfl,by have e:l.take k=l:=List.take_of_length_le (by omega);have q:=HPK.o;rwa[e]at q,HFR.o⟩
theorem Bk {e:Ex}(h:Bm e=true):Bn e=true∧∀x,x∈e.args→Bm x=true:=by
 rw[Il,Zo,Zp]at h;exact h
theorem Su(o:Int):0≤Bi o∧Bi o≤8:=by
 unfold Bi;repeat' split
 all_goals omega
theorem Kb {e:Ex}(h:Bn e=true):e.kind=1∨e.kind=2∨e.kind=3∨e.kind=4∨e.kind=5∨e.kind=6∨e.kind=7:=by
 have hk:Ec e=true:=by unfold Bn at h;simp only[Zo]at h;exact h.1.1.1.1
 unfold Ec at hk
 by_cases h1:e.kind=1; · simp [h1]
 by_cases h2:e.kind=2; · simp [h2]
 by_cases h3:e.kind=3; · simp [h3]
 by_cases h4:e.kind=4; · simp [h4]
 by_cases h5:e.kind=5; · simp [h5]
 by_cases h6:e.kind=6; · simp [h6]
 simp [h1,h2,h3,h4,h5,h6]at hk;simp [hk]
theorem expr_1(o n:Int)(nm:Bs)(args:List Ex)(ih:∀x,x∈args→Ez x):Ez (.mk 1 o n nm args):=by
 intro b bs t s w hb ht hp hs hn hw hf;have hs:Ai (· <b) w args s:=hs;have hn:I64 n:=hn;have hwh:=(Bk hw).1;have hwa:∀x,x∈args→Bm x=true:=(Bk hw).2;obtain⟨sa,sc,rfl⟩:=hs.shape;have E:Hid (Ae (.mk 1 o n nm args)=Lib.itoa n):=by exact Ng o n nm args
 rw[E.out]at hf ⊢;show Calls _ _ #[.pointer (some ⟨b,0,none⟩),.agg #[.int .i64 1,.int .i64 o,.int .i64 n,.string (Aa nm),.slice sa args.length sc]] _ _
 have IH:=Za ih;have HT:=Za ht;have HP:=Za hp;have HN:=Za hn;have HF:=Za hf;have HS:=Za hs;have HWA:=Za hwa;have hp1:=Za (hp.alloc (.cells #[.int .i64 1,.int .i64 o,.int .i64 n,.string (Aa nm),.slice sa args.length sc] 31));have hf1:=Za (Zc hp (.cells #[.int .i64 1,.int .i64 o,.int .i64 n,.string (Aa nm),.slice sa args.length sc] 31));have hl1:=Za (Loc.new hp [.int .i64 1,.int .i64 o,.int .i64 n,.string (Aa nm),.slice sa args.length sc] 31);clear ih ht hp hs hw hf hn hwh hwa;go_enter Zj,Zk
 go_wp2_with fail
 refine(Iz o _).mono ?_;rintro r w2 ⟨rfl,hb2⟩;have hf2:=Zf hb2 hp1.out.lt;have HP2:=Za (hp1.out.old hb2);have HF2:=Za (hf1.out.trans hf2);have HL2:=Za (hl1.out.step hf2);clear hb2 hf2 hp1 hf1 hl1;have c0:=HL2.o.cell 0 (by simp);have c1:=HL2.o.cell 1 (by simp);have c2:=HL2.o.cell 2 (by simp);have c3:=HL2.o.cell 3 (by simp);have c4:=HL2.o.cell 4 (by simp);simp only[Zd,Ze]at c0 c1 c2 c3 c4;go_wp2_with fail
 refine(Wq n HN.o w2 (HT.o.fr HF2.o HP.o hb)).mono ?_;rintro r w3 ⟨rfl,hb3⟩;have hf3:=Zf hb3 HP2.o.lt;have HP3:=Za (HP2.o.old hb3);have HF3:=Za (HF2.o.trans hf3);have HL3:=Za (HL2.o.step hf3);clear hb3 hf3;go_wp2_with fail
 refine(Ni (Lib.itoa n) _ _ b _ t w3 rfl HP3.o (HF.o.mono (by simp;try omega))).mono ?_;rintro r w4 ⟨rfl,hp4,hf4⟩;have HP4:=Za hp4;have HF4:=Za (HF3.o.trans hf4);have HL4:=Za (HL3.o.step hf4);clear hp4 hf4 c0 c1 c2 c3 c4;go_wp2_with fail
 go_end0
 exact⟨rfl,by simpa using HP4.o,HF4.o⟩
theorem expr_2(o n:Int)(nm:Bs)(args:List Ex)(ih:∀x,x∈args→Ez x):Ez (.mk 2 o n nm args):=by
 intro b bs t s w hb ht hp hs hn hw hf;have hs:Ai (· <b) w args s:=hs;have hn:I64 n:=hn;have hwh:=(Bk hw).1;have hwa:∀x,x∈args→Bm x=true:=(Bk hw).2;obtain⟨sa,sc,rfl⟩:=hs.shape;have E:Hid (Ae (.mk 2 o n nm args)=nm):=by exact Nz o n nm args
 rw[E.out]at hf ⊢;show Calls _ _ #[.pointer (some ⟨b,0,none⟩),.agg #[.int .i64 2,.int .i64 o,.int .i64 n,.string (Aa nm),.slice sa args.length sc]] _ _
 have IH:=Za ih;have HT:=Za ht;have HP:=Za hp;have HN:=Za hn;have HF:=Za hf;have HS:=Za hs;have HWA:=Za hwa;have hp1:=Za (hp.alloc (.cells #[.int .i64 2,.int .i64 o,.int .i64 n,.string (Aa nm),.slice sa args.length sc] 31));have hf1:=Za (Zc hp (.cells #[.int .i64 2,.int .i64 o,.int .i64 n,.string (Aa nm),.slice sa args.length sc] 31));have hl1:=Za (Loc.new hp [.int .i64 2,.int .i64 o,.int .i64 n,.string (Aa nm),.slice sa args.length sc] 31);clear ih ht hp hs hw hf hn hwh hwa;go_enter Zj,Zk
 go_wp2_with fail
 refine(Iz o _).mono ?_;rintro r w2 ⟨rfl,hb2⟩;have hf2:=Zf hb2 hp1.out.lt;have HP2:=Za (hp1.out.old hb2);have HF2:=Za (hf1.out.trans hf2);have HL2:=Za (hl1.out.step hf2);clear hb2 hf2 hp1 hf1 hl1;have c0:=HL2.o.cell 0 (by simp);have c1:=HL2.o.cell 1 (by simp);have c2:=HL2.o.cell 2 (by simp);have c3:=HL2.o.cell 3 (by simp);have c4:=HL2.o.cell 4 (by simp);simp only[Zd,Ze]at c0 c1 c2 c3 c4;go_wp2_with fail
 refine(Ni nm _ _ b _ t w2 rfl HP2.o (HF.o.mono (by simp;try omega))).mono ?_;rintro r w3 ⟨rfl,hp3,hf3⟩;have HP3:=Za hp3;have HF3:=Za (HF2.o.trans hf3);have HL3:=Za (HL2.o.step hf3);clear hp3 hf3 c0 c1 c2 c3 c4;go_wp2_with fail
 go_end0
 exact⟨rfl,by simpa using HP3.o,HF3.o⟩
theorem expr_7(o n:Int)(nm:Bs)(args:List Ex)(ih:∀x,x∈args→Ez x):Ez (.mk 7 o n nm args):=by
 intro b bs t s w hb ht hp hs hn hw hf;have hs:Ai (· <b) w args s:=hs;have hn:I64 n:=hn;have hwh:=(Bk hw).1;have hwa:∀x,x∈args→Bm x=true:=(Bk hw).2;obtain⟨sa,sc,rfl⟩:=hs.shape;have E:Hid (Ae (.mk 7 o n nm args)=[114,101,97,100,40,41]):=by exact Nk o n nm args
 rw[E.out]at hf ⊢;show Calls _ _ #[.pointer (some ⟨b,0,none⟩),.agg #[.int .i64 7,.int .i64 o,.int .i64 n,.string (Aa nm),.slice sa args.length sc]] _ _
 have IH:=Za ih;have HT:=Za ht;have HP:=Za hp;have HN:=Za hn;have HF:=Za hf;have HS:=Za hs;have HWA:=Za hwa;have hp1:=Za (hp.alloc (.cells #[.int .i64 7,.int .i64 o,.int .i64 n,.string (Aa nm),.slice sa args.length sc] 31));have hf1:=Za (Zc hp (.cells #[.int .i64 7,.int .i64 o,.int .i64 n,.string (Aa nm),.slice sa args.length sc] 31));have hl1:=Za (Loc.new hp [.int .i64 7,.int .i64 o,.int .i64 n,.string (Aa nm),.slice sa args.length sc] 31);clear ih ht hp hs hw hf hn hwh hwa;go_enter Zj,Zk
 go_wp2_with fail
 refine(Iz o _).mono ?_;rintro r w2 ⟨rfl,hb2⟩;have hf2:=Zf hb2 hp1.out.lt;have HP2:=Za (hp1.out.old hb2);have HF2:=Za (hf1.out.trans hf2);have HL2:=Za (hl1.out.step hf2);clear hb2 hf2 hp1 hf1 hl1;have c0:=HL2.o.cell 0 (by simp);have c1:=HL2.o.cell 1 (by simp);have c2:=HL2.o.cell 2 (by simp);have c3:=HL2.o.cell 3 (by simp);have c4:=HL2.o.cell 4 (by simp);simp only[Zd,Ze]at c0 c1 c2 c3 c4;go_wp2_with fail
 refine(Ni [114,101,97,100,40,41] _ _ b _ t w2 rfl HP2.o (HF.o.mono (by simp;try omega))).mono ?_;rintro r w3 ⟨rfl,hp3,hf3⟩;have HP3:=Za hp3;have HF3:=Za (HF2.o.trans hf3);have HL3:=Za (HL2.o.step hf3);clear hp3 hf3 c0 c1 c2 c3 c4;go_wp2_with fail
 go_end0
 exact⟨rfl,by simpa using HP3.o,HF3.o⟩
theorem expr_3(o n:Int)(nm:Bs)(args:List Ex)(ih:∀x,x∈args→Ez x):Ez (.mk 3 o n nm args):=by
 intro b bs t s w hb ht hp hs hn hw hf;have hs:Ai (· <b) w args s:=hs;have hn:I64 n:=hn;have hwh:=(Bk hw).1;have hwa:∀x,x∈args→Bm x=true:=(Bk hw).2;obtain⟨sa,sc,rfl⟩:=hs.shape;have hlen:args.length=1:=by have q:=hwh;simp [Bn,Bv,Ex.kind,Ex.args]at q;omega
 have hl0:0<args.length:=by omega
 obtain⟨eb,off,_,rfl,_⟩:=hs.cellAt 0 (by omega);clear hlen;have E:Hid (Ae (.mk 3 o n nm args)=Cj o++Cs (Bh args 0) 9):=by exact Nx o n nm args hl0
 rw[E.out]at hf ⊢;show Calls _ _ #[.pointer (some ⟨b,0,none⟩),.agg #[.int .i64 3,.int .i64 o,.int .i64 n,.string (Aa nm),.slice (some ⟨eb,off,none⟩) args.length sc]] _ _
 have IH:=Za ih;have HT:=Za ht;have HP:=Za hp;have HN:=Za hn;have HF:=Za hf;have HS:=Za hs;have HWA:=Za hwa;have hp1:=Za (hp.alloc (.cells #[.int .i64 3,.int .i64 o,.int .i64 n,.string (Aa nm),.slice (some ⟨eb,off,none⟩) args.length sc] 31));have hf1:=Za (Zc hp (.cells #[.int .i64 3,.int .i64 o,.int .i64 n,.string (Aa nm),.slice (some ⟨eb,off,none⟩) args.length sc] 31));have hl1:=Za (Loc.new hp [.int .i64 3,.int .i64 o,.int .i64 n,.string (Aa nm),.slice (some ⟨eb,off,none⟩) args.length sc] 31);clear ih ht hp hs hw hf hn hwh hwa;go_enter Zj,Zk
 go_wp2_with fail
 refine(Iz o _).mono ?_;rintro r w2 ⟨rfl,hb2⟩;have hf2:=Zf hb2 hp1.out.lt;have HP2:=Za (hp1.out.old hb2);have HF2:=Za (hf1.out.trans hf2);have HL2:=Za (hl1.out.step hf2);clear hb2 hf2 hp1 hf1 hl1;have c0:=HL2.o.cell 0 (by simp);have c1:=HL2.o.cell 1 (by simp);have c2:=HL2.o.cell 2 (by simp);have c3:=HL2.o.cell 3 (by simp);have c4:=HL2.o.cell 4 (by simp);simp only[Zd,Ze]at c0 c1 c2 c3 c4;go_wp2_with fail
 refine(Ni (Cj o) _ _ b _ t w2 rfl HP2.o (HF.o.mono (by simp;try omega))).mono ?_;rintro r w3 ⟨rfl,hp3,hf3⟩;have HP3:=Za hp3;have HF3:=Za (HF2.o.trans hf3);have HL3:=Za (HL2.o.step hf3);clear hp3 hf3 c0 c1 c2 c3 c4;have c0:=HL3.o.cell 0 (by simp);have c1:=HL3.o.cell 1 (by simp);have c2:=HL3.o.cell 2 (by simp);have c3:=HL3.o.cell 3 (by simp);have c4:=HL3.o.cell 4 (by simp);simp only[Zd,Ze]at c0 c1 c2 c3 c4;obtain⟨eb',off',esa,heb,hDa,y0,y1,y2,y3,y4,hesa,hna⟩:=(HS.o.keep (HF3.o.keeps HP.o)).cellAt 0 (by omega);obtain⟨eaa,eca,rfl⟩:=hesa.shape;obtain⟨rfl,rfl⟩:eb=eb'∧off=off':=by cases heb;exact⟨rfl,rfl⟩
 have HESa:=Za hesa;have HNa:=Za hna;have IHXa:=Za (IH.out _ (Cb (i:=0) (by omega)));have HWXa:=Za (HWA.o _ (Cb (i:=0) (by omega)));clear heb hesa hna hDa;generalize hxa:Bh args 0=xa at y0 y1 y2 y3 y4 HESa HNa IHXa HWXa;have HXa:=Za hxa;clear hxa;have za0:w3.cell? ⟨eb,off,none⟩=some (.int .i64 xa.kind):=by simpa using y0
 have za1:w3.cell? ⟨eb,off+1,none⟩=some (.int .i64 xa.op):=by simpa using y1
 have za2:w3.cell? ⟨eb,off+2,none⟩=some (.int .i64 xa.n):=by simpa using y2
 have za3:w3.cell? ⟨eb,off+3,none⟩=some (.string (Aa xa.name)):=by simpa using y3
 have za4:w3.cell? ⟨eb,off+4,none⟩=some (.slice eaa xa.args.length eca):=by simpa using y4
 clear y0 y1 y2 y3 y4;go_wp2_with fail
 refine(Rl xa IHXa.out 9 b _ t _ w3 hb (HT.o.fr HF3.o HP.o hb) HP3.o HESa.o HNa.o HWXa.o (by have q:=HF.o;rw[HXa.o]at q;exact q.mono (by simp;try omega))).mono ?_;rintro r w4 ⟨rfl,hp4,hf4⟩;have HP4:=Za hp4;have HF4:=Za (HF3.o.trans hf4);have HL4:=Za (HL3.o.step hf4);clear hp4 hf4 c0 c1 c2 c3 c4 za0 za1 za2 za3 za4;go_wp2_with fail
 go_end0
 exact⟨rfl,by rw[HXa.o];simpa using HP4.o,HF4.o⟩
theorem expr_4(o n:Int)(nm:Bs)(args:List Ex)(ih:∀x,x∈args→Ez x):Ez (.mk 4 o n nm args):=by
 intro b bs t s w hb ht hp hs hn hw hf;have hs:Ai (· <b) w args s:=hs;have hn:I64 n:=hn;have hwh:=(Bk hw).1;have hwa:∀x,x∈args→Bm x=true:=(Bk hw).2;obtain⟨sa,sc,rfl⟩:=hs.shape;have hlen:args.length=2:=by have q:=hwh;simp [Bn,Bv,Ex.kind,Ex.args]at q;omega
 have hl0:0<args.length:=by omega
 have hl1':1<args.length:=by omega
 obtain⟨eb,off,_,rfl,_⟩:=hs.cellAt 0 (by omega);clear hlen;have E:Hid (Ae (.mk 4 o n nm args)=Cs (Bh args 0) (Bi o)++([32]++(Cj o++[32]))++Cs (Bh args 1) (Bi o+1)):=by exact Nh o n nm args hl1'
 rw[E.out]at hf ⊢;show Calls _ _ #[.pointer (some ⟨b,0,none⟩),.agg #[.int .i64 4,.int .i64 o,.int .i64 n,.string (Aa nm),.slice (some ⟨eb,off,none⟩) args.length sc]] _ _
 have IH:=Za ih;have HT:=Za ht;have HP:=Za hp;have HN:=Za hn;have HF:=Za hf;have HS:=Za hs;have HWA:=Za hwa;have hp1:=Za (hp.alloc (.cells #[.int .i64 4,.int .i64 o,.int .i64 n,.string (Aa nm),.slice (some ⟨eb,off,none⟩) args.length sc] 31));have hf1:=Za (Zc hp (.cells #[.int .i64 4,.int .i64 o,.int .i64 n,.string (Aa nm),.slice (some ⟨eb,off,none⟩) args.length sc] 31));have hl1:=Za (Loc.new hp [.int .i64 4,.int .i64 o,.int .i64 n,.string (Aa nm),.slice (some ⟨eb,off,none⟩) args.length sc] 31);clear ih ht hp hs hw hf hn hwh hwa;go_enter Zj,Zk
 go_wp2_with fail
 refine(Iz o _).mono ?_;rintro r w2 ⟨rfl,hb2⟩;have hf2:=Zf hb2 hp1.out.lt;have HP2:=Za (hp1.out.old hb2);have HF2:=Za (hf1.out.trans hf2);have HL2:=Za (hl1.out.step hf2);clear hb2 hf2 hp1 hf1 hl1;have c0:=HL2.o.cell 0 (by simp);have c1:=HL2.o.cell 1 (by simp);have c2:=HL2.o.cell 2 (by simp);have c3:=HL2.o.cell 3 (by simp);have c4:=HL2.o.cell 4 (by simp);simp only[Zd,Ze]at c0 c1 c2 c3 c4;have lb:=Su o;go_wp2_with fail
 refine(Lq o _).mono ?_;rintro r w3 ⟨rfl,hb3⟩;have hf3:=Zf hb3 HP2.o.lt;have HP3:=Za (HP2.o.old hb3);have HF3:=Za (HF2.o.trans hf3);have HL3:=Za (HL2.o.step hf3);clear hb3 hf3 c0 c1 c2 c3 c4;have c0:=HL3.o.cell 0 (by simp);have c1:=HL3.o.cell 1 (by simp);have c2:=HL3.o.cell 2 (by simp);have c3:=HL3.o.cell 3 (by simp);have c4:=HL3.o.cell 4 (by simp);simp only[Zd,Ze]at c0 c1 c2 c3 c4;obtain⟨eb',off',esa,heb,hDa,y0,y1,y2,y3,y4,hesa,hna⟩:=(HS.o.keep (HF3.o.keeps HP.o)).cellAt 0 (by omega);obtain⟨eaa,eca,rfl⟩:=hesa.shape;obtain⟨rfl,rfl⟩:eb=eb'∧off=off':=by cases heb;exact⟨rfl,rfl⟩
 have HESa:=Za hesa;have HNa:=Za hna;have IHXa:=Za (IH.out _ (Cb (i:=0) (by omega)));have HWXa:=Za (HWA.o _ (Cb (i:=0) (by omega)));clear heb hesa hna hDa;generalize hxa:Bh args 0=xa at y0 y1 y2 y3 y4 HESa HNa IHXa HWXa;have HXa:=Za hxa;clear hxa;have za0:w3.cell? ⟨eb,off,none⟩=some (.int .i64 xa.kind):=by simpa using y0
 have za1:w3.cell? ⟨eb,off+1,none⟩=some (.int .i64 xa.op):=by simpa using y1
 have za2:w3.cell? ⟨eb,off+2,none⟩=some (.int .i64 xa.n):=by simpa using y2
 have za3:w3.cell? ⟨eb,off+3,none⟩=some (.string (Aa xa.name)):=by simpa using y3
 have za4:w3.cell? ⟨eb,off+4,none⟩=some (.slice eaa xa.args.length eca):=by simpa using y4
 clear y0 y1 y2 y3 y4;go_wp2_with fail
 refine(Rl xa IHXa.out (Bi o) b _ t _ w3 hb (HT.o.fr HF3.o HP.o hb) HP3.o HESa.o HNa.o HWXa.o (by have q:=HF.o;rw[HXa.o]at q;exact q.mono (by simp;try omega))).mono ?_;rintro r w4 ⟨rfl,hp4,hf4⟩;have HP4:=Za hp4;have HF4:=Za (HF3.o.trans hf4);have HL4:=Za (HL3.o.step hf4);clear hp4 hf4 c0 c1 c2 c3 c4 za0 za1 za2 za3 za4;go_wp2_with fail
 refine(put3 [32] (Cj o) [32] _ _ b _ t w4 rfl HP4.o (by have q:=HF.o;rw[HXa.o]at q;exact q.mono (by simp;try omega))).mono ?_;rintro r w5 ⟨rfl,hp5,hf5⟩;have HP5:=Za hp5;have HF5:=Za (HF4.o.trans hf5);have HL5:=Za (HL4.o.step hf5);clear hp5 hf5;have c0:=HL5.o.cell 0 (by simp);have c1:=HL5.o.cell 1 (by simp);have c2:=HL5.o.cell 2 (by simp);have c3:=HL5.o.cell 3 (by simp);have c4:=HL5.o.cell 4 (by simp);simp only[Zd,Ze]at c0 c1 c2 c3 c4;obtain⟨eb',off',esc,heb,hDc,y0,y1,y2,y3,y4,hesc,hnc⟩:=(HS.o.keep (HF5.o.keeps HP.o)).cellAt 1 (by omega);obtain⟨eac,ecc,rfl⟩:=hesc.shape;obtain⟨rfl,rfl⟩:eb=eb'∧off=off':=by cases heb;exact⟨rfl,rfl⟩
 have HESc:=Za hesc;have HNc:=Za hnc;have IHXc:=Za (IH.out _ (Cb (i:=1) (by omega)));have HWXc:=Za (HWA.o _ (Cb (i:=1) (by omega)));clear heb hesc hnc hDc;generalize hxc:Bh args 1=xc at y0 y1 y2 y3 y4 HESc HNc IHXc HWXc;have HXc:=Za hxc;clear hxc;have zc0:w5.cell? ⟨eb,off+5,none⟩=some (.int .i64 xc.kind):=by simpa using y0
 have zc1:w5.cell? ⟨eb,off+5+1,none⟩=some (.int .i64 xc.op):=by simpa using y1
 have zc2:w5.cell? ⟨eb,off+5+2,none⟩=some (.int .i64 xc.n):=by simpa using y2
 have zc3:w5.cell? ⟨eb,off+5+3,none⟩=some (.string (Aa xc.name)):=by simpa using y3
 have zc4:w5.cell? ⟨eb,off+5+4,none⟩=some (.slice eac xc.args.length ecc):=by simpa using y4
 clear y0 y1 y2 y3 y4;go_wp2_with fail
 refine(Rl xc IHXc.out (Bi o+1) b _ t _ w5 hb (HT.o.fr HF5.o HP.o hb) HP5.o HESc.o HNc.o HWXc.o (by have q:=HF.o;rw[HXa.o,HXc.o]at q;exact q.mono (by simp;try omega))).mono ?_;rintro r w6 ⟨rfl,hp6,hf6⟩;have HP6:=Za hp6;have HF6:=Za (HF5.o.trans hf6);have HL6:=Za (HL5.o.step hf6);clear hp6 hf6 c0 c1 c2 c3 c4 zc0 zc1 zc2 zc3 zc4;go_wp2_with fail
 go_end0
 exact⟨rfl,by rw[HXa.o,HXc.o];simpa using HP6.o,HF6.o⟩
theorem expr_5(o n:Int)(nm:Bs)(args:List Ex)(ih:∀x,x∈args→Ez x):Ez (.mk 5 o n nm args):=by
 intro b bs t s w hb ht hp hs hn hw hf;have hs:Ai (· <b) w args s:=hs;have hn:I64 n:=hn;have hwh:=(Bk hw).1;have hwa:∀x,x∈args→Bm x=true:=(Bk hw).2;obtain⟨sa,sc,rfl⟩:=hs.shape;have E:Hid (Ae (.mk 5 o n nm args)=nm++[40]++Ax (args.map Ae)++[41]):=by exact Mu o n nm args
 rw[E.out]at hf ⊢;show Calls _ _ #[.pointer (some ⟨b,0,none⟩),.agg #[.int .i64 5,.int .i64 o,.int .i64 n,.string (Aa nm),.slice sa args.length sc]] _ _
 have IH:=Za ih;have HT:=Za ht;have HP:=Za hp;have HN:=Za hn;have HF:=Za hf;have HS:=Za hs;have HWA:=Za hwa;have hp1:=Za (hp.alloc (.cells #[.int .i64 5,.int .i64 o,.int .i64 n,.string (Aa nm),.slice sa args.length sc] 31));have hf1:=Za (Zc hp (.cells #[.int .i64 5,.int .i64 o,.int .i64 n,.string (Aa nm),.slice sa args.length sc] 31));have hl1:=Za (Loc.new hp [.int .i64 5,.int .i64 o,.int .i64 n,.string (Aa nm),.slice sa args.length sc] 31);clear ih ht hp hs hw hf hn hwh hwa;go_enter Zj,Zk
 go_wp2_with fail
 refine(Iz o _).mono ?_;rintro r w2 ⟨rfl,hb2⟩;have hf2:=Zf hb2 hp1.out.lt;have HP2:=Za (hp1.out.old hb2);have HF2:=Za (hf1.out.trans hf2);have HL2:=Za (hl1.out.step hf2);clear hb2 hf2 hp1 hf1 hl1;have c0:=HL2.o.cell 0 (by simp);have c1:=HL2.o.cell 1 (by simp);have c2:=HL2.o.cell 2 (by simp);have c3:=HL2.o.cell 3 (by simp);have c4:=HL2.o.cell 4 (by simp);simp only[Zd,Ze]at c0 c1 c2 c3 c4;go_wp2_with fail
 refine(put2 nm [40] _ _ b _ t w2 rfl HP2.o (HF.o.mono (by simp;try omega))).mono ?_;rintro r w3 ⟨rfl,hp3,hf3⟩;have HP3:=Za hp3;have HF3:=Za (HF2.o.trans hf3);have HL3:=Za (HL2.o.step hf3);clear hp3 hf3 c0 c1 c2 c3 c4;have c0:=HL3.o.cell 0 (by simp);have c1:=HL3.o.cell 1 (by simp);have c2:=HL3.o.cell 2 (by simp);have c3:=HL3.o.cell 3 (by simp);have c4:=HL3.o.cell 4 (by simp);simp only[Zd,Ze]at c0 c1 c2 c3 c4;go_wp2_with fail
 refine(kG args IH.out b _ t _ w3 hb (HT.o.fr HF3.o HP.o hb) HP3.o (HS.o.keep (HF3.o.keeps HP.o)) HWA.o (HF.o.mono (by simp;try omega))).mono ?_;rintro r w4 ⟨rfl,hp4,hf4⟩;have HP4:=Za hp4;have HF4:=Za (HF3.o.trans hf4);have HL4:=Za (HL3.o.step hf4);clear hp4 hf4 c0 c1 c2 c3 c4;go_wp2_with fail
 refine(Ni [41] _ _ b _ t w4 rfl HP4.o (HF.o.mono (by simp;try omega))).mono ?_;rintro r w5 ⟨rfl,hp5,hf5⟩;have HP5:=Za hp5;have HF5:=Za (HF4.o.trans hf5);have HL5:=Za (HL4.o.step hf5);clear hp5 hf5;go_wp2_with fail
 go_end0
 exact⟨rfl,by simpa using HP5.o,HF5.o⟩
theorem expr_6(o n:Int)(nm:Bs)(args:List Ex)(ih:∀x,x∈args→Ez x):Ez (.mk 6 o n nm args):=by
 intro b bs t s w hb ht hp hs hn hw hf;have hs:Ai (· <b) w args s:=hs;have hn:I64 n:=hn;have hwh:=(Bk hw).1;have hwa:∀x,x∈args→Bm x=true:=(Bk hw).2;obtain⟨sa,sc,rfl⟩:=hs.shape;have hlen:args.length=1:=by have q:=hwh;simp [Bn,Bv,Ex.kind,Ex.args]at q;omega
 have hl0:0<args.length:=by omega
 obtain⟨eb,off,_,rfl,_⟩:=hs.cellAt 0 (by omega);clear hlen;have E:Hid (Ae (.mk 6 o n nm args)=nm++[91]++Ae (Bh args 0)++[93]):=by exact Mt o n nm args hl0
 rw[E.out]at hf ⊢;show Calls _ _ #[.pointer (some ⟨b,0,none⟩),.agg #[.int .i64 6,.int .i64 o,.int .i64 n,.string (Aa nm),.slice (some ⟨eb,off,none⟩) args.length sc]] _ _
 have IH:=Za ih;have HT:=Za ht;have HP:=Za hp;have HN:=Za hn;have HF:=Za hf;have HS:=Za hs;have HWA:=Za hwa;have hp1:=Za (hp.alloc (.cells #[.int .i64 6,.int .i64 o,.int .i64 n,.string (Aa nm),.slice (some ⟨eb,off,none⟩) args.length sc] 31));have hf1:=Za (Zc hp (.cells #[.int .i64 6,.int .i64 o,.int .i64 n,.string (Aa nm),.slice (some ⟨eb,off,none⟩) args.length sc] 31));have hl1:=Za (Loc.new hp [.int .i64 6,.int .i64 o,.int .i64 n,.string (Aa nm),.slice (some ⟨eb,off,none⟩) args.length sc] 31);clear ih ht hp hs hw hf hn hwh hwa;go_enter Zj,Zk
 go_wp2_with fail
 refine(Iz o _).mono ?_;rintro r w2 ⟨rfl,hb2⟩;have hf2:=Zf hb2 hp1.out.lt;have HP2:=Za (hp1.out.old hb2);have HF2:=Za (hf1.out.trans hf2);have HL2:=Za (hl1.out.step hf2);clear hb2 hf2 hp1 hf1 hl1;have c0:=HL2.o.cell 0 (by simp);have c1:=HL2.o.cell 1 (by simp);have c2:=HL2.o.cell 2 (by simp);have c3:=HL2.o.cell 3 (by simp);have c4:=HL2.o.cell 4 (by simp);simp only[Zd,Ze]at c0 c1 c2 c3 c4;go_wp2_with fail
 refine(put2 nm [91] _ _ b _ t w2 rfl HP2.o (HF.o.mono (by simp;try omega))).mono ?_;rintro r w3 ⟨rfl,hp3,hf3⟩;have HP3:=Za hp3;have HF3:=Za (HF2.o.trans hf3);have HL3:=Za (HL2.o.step hf3);clear hp3 hf3 c0 c1 c2 c3 c4;have c0:=HL3.o.cell 0 (by simp);have c1:=HL3.o.cell 1 (by simp);have c2:=HL3.o.cell 2 (by simp);have c3:=HL3.o.cell 3 (by simp);have c4:=HL3.o.cell 4 (by simp);simp only[Zd,Ze]at c0 c1 c2 c3 c4;obtain⟨eb',off',esa,heb,hDa,y0,y1,y2,y3,y4,hesa,hna⟩:=(HS.o.keep (HF3.o.keeps HP.o)).cellAt 0 (by omega);obtain⟨eaa,eca,rfl⟩:=hesa.shape;obtain⟨rfl,rfl⟩:eb=eb'∧off=off':=by cases heb;exact⟨rfl,rfl⟩
 have HESa:=Za hesa;have HNa:=Za hna;have IHXa:=Za (IH.out _ (Cb (i:=0) (by omega)));have HWXa:=Za (HWA.o _ (Cb (i:=0) (by omega)));clear heb hesa hna hDa;generalize hxa:Bh args 0=xa at y0 y1 y2 y3 y4 HESa HNa IHXa HWXa;have HXa:=Za hxa;clear hxa;have za0:w3.cell? ⟨eb,off,none⟩=some (.int .i64 xa.kind):=by simpa using y0
 have za1:w3.cell? ⟨eb,off+1,none⟩=some (.int .i64 xa.op):=by simpa using y1
 have za2:w3.cell? ⟨eb,off+2,none⟩=some (.int .i64 xa.n):=by simpa using y2
 have za3:w3.cell? ⟨eb,off+3,none⟩=some (.string (Aa xa.name)):=by simpa using y3
 have za4:w3.cell? ⟨eb,off+4,none⟩=some (.slice eaa xa.args.length eca):=by simpa using y4
 clear y0 y1 y2 y3 y4;go_wp2_with fail
 refine(IHXa.out b _ t _ w3 hb (HT.o.fr HF3.o HP.o hb) HP3.o HESa.o HNa.o HWXa.o (by have q:=HF.o;rw[HXa.o]at q;exact q.mono (by simp;try omega))).mono ?_;rintro r w4 ⟨rfl,hp4,hf4⟩;have HP4:=Za hp4;have HF4:=Za (HF3.o.trans hf4);have HL4:=Za (HL3.o.step hf4);clear hp4 hf4 c0 c1 c2 c3 c4 za0 za1 za2 za3 za4;go_wp2_with fail
 refine(Ni [93] _ _ b _ t w4 rfl HP4.o (by have q:=HF.o;rw[HXa.o]at q;exact q.mono (by simp;try omega))).mono ?_;rintro r w5 ⟨rfl,hp5,hf5⟩;have HP5:=Za hp5;have HF5:=Za (HF4.o.trans hf5);have HL5:=Za (HL4.o.step hf5);clear hp5 hf5;go_wp2_with fail
 go_end0
 exact⟨rfl,by rw[HXa.o];simpa using HP5.o,HF5.o⟩
theorem fC(e:Ex)(ih:∀x,x∈e.args→Ez x):Ez e:=by
 intro b bs t s w hb ht hp hs hn hw hf;have hk:=Kb (Bk hw).1;obtain⟨k,o,n,nm,args⟩:=e;simp only[Ex.kind]at hk;rcases hk with rfl|rfl|rfl|rfl|rfl|rfl|rfl
 ·exact expr_1 o n nm args ih b bs t s w hb ht hp hs hn hw hf
 ·exact expr_2 o n nm args ih b bs t s w hb ht hp hs hn hw hf
 ·exact expr_3 o n nm args ih b bs t s w hb ht hp hs hn hw hf
 ·exact expr_4 o n nm args ih b bs t s w hb ht hp hs hn hw hf
 ·exact expr_5 o n nm args ih b bs t s w hb ht hp hs hn hw hf
 ·exact expr_6 o n nm args ih b bs t s w hb ht hp hs hn hw hf
 ·exact expr_7 o n nm args ih b bs t s w hb ht hp hs hn hw hf
theorem Qw:∀(n:Nat) (e:Ex),SizeOf.sizeOf e≤n→Ez e
 |0,e,h=>by cases e;simp at h
 |n+1,e,h=>fC e fun x hx=>Qw n x (by have:=Ex.size_lt hx;omega)
def Hh(t:Nat):Bs:=List.replicate t 9
def ln(t:Nat)(l:List Bs):Bs:=Hh t++l.flatten++[10]
def Bu(t:Nat)(k:Int)(nm:Bs)(args:List Ex)(noEls:Bool)(T E:Bs):Bs:=
 if k=1 then ln t [nm,[32,61,32],Ae (Bh args 0),[59]]
 else if k=2 then ln t [nm,[91],Ae (Bh args 0),[93,32,61,32],Ae (Bh args 1),[59]]
 else if k=3 then ln t [[105,102,32,40],Ae (Bh args 0),[41,32,123]]++(T++((if noEls then []else ln t [[125,32,101,108,115,101,32,123]]++E)++ln t [[125]]))
 else if k=4 then ln t [[119,104,105,108,101,32,40],Ae (Bh args 0),[41,32,123]]++(T++ln t [[125]])
 else if k=5 then ln t [[98,114,101,97,107,59]]
 else if k=6 then ln t [[99,111,110,116,105,110,117,101,59]]
 else if k=7 then ln t [[114,101,116,117,114,110,32],Ae (Bh args 0),[59]]
 else if k=8 then ln t [[112,114,105,110,116,40],Ae (Bh args 0),[41,59]]
 else if k=9 then ln t [[116,114,97,112,40],Ae (Bh args 0),[41,59]]
 else if k=10 then ln t [Ae (Bh args 0),[59]]else []
mutual
def Bt(t:Nat):St→Bs
 |.mk k nm args thn els=>Bu t k nm args els.isEmpty (Bf (t+1) thn) (Bf (t+1) els)
def Bf(t:Nat):List St→Bs
 |[]=>[]
 |x::l=>Bt t x++Bf t l
end
theorem Dw(t:Nat)(k:Int)(nm:Bs)(args:List Ex)(thn els:List St):Bt t (.mk k nm args thn els)=Bu t k nm args els.isEmpty (Bf (t+1) thn) (Bf (t+1) els):=by rw[Bt]
theorem Fv(t:Nat):∀l,Bf t l=l.flatMap (Bt t)
 |[]=>rfl
 |x::l=>by rw[Bf,Fv t l];rfl
theorem Vh(t:Nat)(l:List St)(k:Nat)(h:k<l.length):Bf t (l.take (k+1))=Bf t (l.take k)++Bt t (Ff l k):=by
 rw[Fv,Fv,Zs h,Zq];simp [Ff,Zl h]
theorem Qh(t:Nat)(l:List St)(k:Nat):(Bf t (l.take k)).length≤(Bf t l).length:=by
 have e:Bf t l=Bf t (l.take k)++Bf t (l.drop k):=by rw[Fv,Fv,Fv,←Zq,List.take_append_drop]
 rw[e];simp
theorem eN(t:Nat)(nm:Bs)(args:List Ex)(ne:Bool)(T E:Bs):Bu t 1 nm args ne T E=ln t [nm,[32,61,32],Ae (Bh args 0),[59]]:=by
 unfold Bu;simp only[Zi,if_true,if_false,reduceIte]
theorem dU(t:Nat)(nm:Bs)(args:List Ex)(ne:Bool)(T E:Bs):Bu t 2 nm args ne T E=ln t [nm,[91],Ae (Bh args 0),[93,32,61,32],Ae (Bh args 1),[59]]:=by
 unfold Bu;simp only[Zi,if_true,if_false,reduceIte]
theorem Tz(t:Nat)(nm:Bs)(args:List Ex)(ne:Bool)(T E:Bs):Bu t 3 nm args ne T E=ln t [[105,102,32,40],Ae (Bh args 0),[41,32,123]]++(T++((if ne then []else ln t [[125,32,101,108,115,101,32,123]]++E)++ln t [[125]])):=by
 unfold Bu;simp only[Zi,if_true,if_false,reduceIte]
theorem eL(t:Nat)(nm:Bs)(args:List Ex)(ne:Bool)(T E:Bs):Bu t 4 nm args ne T E=ln t [[119,104,105,108,101,32,40],Ae (Bh args 0),[41,32,123]]++(T++ln t [[125]]):=by
 unfold Bu;simp only[Zi,if_true,if_false,reduceIte]
theorem dF(t:Nat)(nm:Bs)(args:List Ex)(ne:Bool)(T E:Bs):Bu t 5 nm args ne T E=ln t [[98,114,101,97,107,59]]:=by
 unfold Bu;simp only[Zi,if_true,if_false,reduceIte]
theorem cQ(t:Nat)(nm:Bs)(args:List Ex)(ne:Bool)(T E:Bs):Bu t 6 nm args ne T E=ln t [[99,111,110,116,105,110,117,101,59]]:=by
 unfold Bu;simp only[Zi,if_true,if_false,reduceIte]
theorem dH(t:Nat)(nm:Bs)(args:List Ex)(ne:Bool)(T E:Bs):Bu t 7 nm args ne T E=ln t [[114,101,116,117,114,110,32],Ae (Bh args 0),[59]]:=by
 unfold Bu;simp only[Zi,if_true,if_false,reduceIte]
theorem fH(t:Nat)(nm:Bs)(args:List Ex)(ne:Bool)(T E:Bs):Bu t 8 nm args ne T E=ln t [[112,114,105,110,116,40],Ae (Bh args 0),[41,59]]:=by
 unfold Bu;simp only[Zi,if_true,if_false,reduceIte]
theorem fE(t:Nat)(nm:Bs)(args:List Ex)(ne:Bool)(T E:Bs):Bu t 9 nm args ne T E=ln t [[116,114,97,112,40],Ae (Bh args 0),[41,59]]:=by
 unfold Bu;simp only[Zi,if_true,if_false,reduceIte]
theorem Yf(t:Nat)(nm:Bs)(args:List Ex)(ne:Bool)(T E:Bs):Bu t 10 nm args ne T E=ln t [Ae (Bh args 0),[59]]:=by
 unfold Bu;simp only[Zi,if_true,if_false,reduceIte]
inductive WIt where
 |s (x:Bs)
 |e (x:Ex) (v:Value)
def WIt.val:WIt→Value
 |.s x=>.iface 9 (.string (Aa x))
 |.e x v=>.iface 31 (exV x v)
def WIt.text:WIt→Bs
 |.s x=>x
 |.e x _=>Ae x
def WIt.ok(b:Nat)(w:World):WIt→Prop
 |.s _=>True
 |.e x v=>Ai (· <b) w x.args v∧I64 x.n∧Bm x=true
def Wm:WIt:=.s []
theorem WIt.ok.keep {b:Nat}{w w':World}(hk:Gw (· <b) w w'){x:WIt}(h:x.ok b w):x.ok b w':=by
 cases x with
 |s x=>trivial
 |e x v=>exact⟨h.1.keep hk,h.2⟩
def Er(l:List WIt):Bs:=l.flatMap WIt.text
@[go_sem] theorem asExEx (v:Value) (w:World):(Instr.typeAssert (.iface 31 v) 20 31 true).run Zb w=.ok (.tuple #[v,.bool true]) w:=by kernel_rfl
@[go_sem] theorem asStEx (v:Value) (w:World):(Instr.typeAssert (.iface 9 v) 20 31 true).run Zb w=.ok (.tuple #[.agg #[.int .i64 0,.int .i64 0,.int .i64 0,.string ByteArray.empty,.slice none 0 0],.bool false]) w:=by kernel_rfl
@[go_sem] theorem asStSt (v:Value) (w:World):(Instr.typeAssert (.iface 9 v) 20 9 false).run Zb w=.ok v w:=by kernel_rfl
theorem Wp(l:List WIt)(k:Nat)(h:k<l.length):Er (l.take (k+1))=Er (l.take k)++(l.getD k Wm).text:=by
 unfold Er;rw[Zs h,Zq];simp [Zl h]
theorem Re(l:List WIt)(k:Nat):(Er (l.take k)).length≤(Er l).length:=by
 have e:Er l=Er (l.take k)++Er (l.drop k):=by unfold Er;rw[←Zq,List.take_append_drop]
 rw[e];simp
theorem eG(its:List WIt)(X cap b:Nat)(bs:Bs)(t:Int)(w:World)(hb:3<b)(ht:Ct w)(hp:Be w b bs t)(hl:Loc w b X (its.map WIt.val))(ho:∀x,x∈its→x.ok b w)(hf:Bw (bs.length+(Er its).length))(hn:its.length≤1000):
  Calls Zb 66 #[.pointer (some ⟨b,0,none⟩),.slice (some ⟨X,0,none⟩) its.length cap] w (Hl w b bs t (Er its)):=by
 have HP:=Za hp;have HL:=Za hl;have HF:=Za hf;have HO:=Za ho;have HT:=Za ht;clear hp hl hf ho ht;go_enter func66,ntmps66
 go_wp2_with fail
 go_loopw [5,6,7,10] (fun _ _ _ s10 wr=> ∃k:Nat,k≤its.length∧s10=.int .i64 k∧Be wr b (bs++Er (its.take k)) t∧PFr b w wr) (fun _ _ _ s10 _=>its.length-(intOf s10).toNat)
 case atStart=>exact⟨0,Nat.zero_le _,rfl,by simpa [Er]using HP.o,PFr.refl _ _⟩
 case round=>
  obtain⟨k,hk,rfl,hp,hfr⟩:=hrel;have HPK:=Za hp;have HFR:=Za hfr;have hbl:=hp.lt;have HLK:=Za (HL.o.step hfr);clear hp hfr
  by_cases hlt:k<its.length
  ·have c:=HLK.o.cell k (by simpa using hlt)
   have hmem:its.getD k Wm∈its:=by rw[List.getD_eq_getElem?_getD,Zl hlt];exact List.getElem_mem hlt
   have ec:(its.map WIt.val)[k]'(by simpa using hlt)=(its.getD k Wm).val:=by simp [Zl hlt]
   rw[ec]at c;have hsp:=Za (Wp its k hlt);have hfit:Hid (Bw ((bs++Er (its.take k)).length+((its.getD k Wm).text).length)):=by
    refine HF.o.mono ?_;have e:=Re its (k+1);rw[hsp.out]at e;simp at e;simp;omega
   have HOK:=Za (HO.o _ hmem);clear ec hmem;generalize its.getD k Wm=x at c hsp hfit HOK
   cases x with
   |s x=>
    simp only[WIt.val,WIt.text]at c hsp hfit;go_wp2_with fail
    refine(Ni x _ _ b _ t _ (by simp) (HPK.o.alloc _) hfit.out).mono ?_;rintro r w3 ⟨rfl,hp3,hf3⟩;have HP3:=Za hp3;have HF3:=Za hf3;clear hp3 hf3;go_wp2_with fail
    go_roundw
    case rel=>exact⟨k+1,by omega,by go_num,by rw[hsp.out,←List.append_assoc];exact HP3.o,HFR.o.trans ((Zc HPK.o _).trans HF3.o)⟩
    case measure=>simp [intOf];omega
   |e e v=>
    obtain⟨hes,hn,hw⟩:=HOK.o;obtain⟨ea,ec,rfl⟩:=hes.shape;have HES:=Za hes;have HN:=Za hn;have HW:=Za hw;clear hes hn hw HOK;simp only[WIt.val,WIt.text,exV]at c hsp hfit;go_wp2_with fail
    refine(Qw _ e (Zg _) b _ t _ _ hb (HT.o.fr (HFR.o.trans (Zc HPK.o _)) HP.o hb) (HPK.o.alloc _) (HES.o.keep ((HFR.o.trans (Zc HPK.o _)).keeps HP.o)) HN.o HW.o hfit.out).mono ?_;rintro r w3 ⟨rfl,hp3,hf3⟩;have HP3:=Za hp3;have HF3:=Za hf3;clear hp3 hf3;go_wp2_with fail
    go_roundw
    case rel=>exact⟨k+1,by omega,by go_num,by rw[hsp.out,←List.append_assoc];exact HP3.o,HFR.o.trans ((Zc HPK.o _).trans HF3.o)⟩
    case measure=>simp [intOf];omega
  ·go_wp2_with fail
   go_end0
   exact⟨rfl,by have e:its.take k=its:=List.take_of_length_le (by omega);have q:=HPK.o;rwa[e]at q,HFR.o⟩
theorem Vv(c:Nat):Lib.repeatL [9] c=Hh c:=by
 induction c with
 |zero=>rfl
 |succ n ih=>simp [Lib.repeatL,Hh,List.replicate_succ]at*;try exact ih
theorem Be.tab {w:World}{b:Nat}{bs:Bs}{t:Int}(h:Be w b bs t):w.cell? ⟨b,2,none⟩=some (.int .i64 t):=by
 obtain⟨p,v,hb,_⟩:=h;rw[Lib.cell_of_heap hb];rfl
theorem iZ(its:List WIt)(X cap b:Nat)(bs:Bs)(t:Nat)(w:World)(hb:3<b)(ht:Ct w)(hp:Be w b bs t)(hl:Loc w b X (its.map WIt.val))(ho:∀x,x∈its→x.ok b w)
  (htt:t≤1000000) (hf:Bw (bs.length+(Hh t++Er its++[10]).length)) (hn:its.length≤1000):
  Calls Zb 30 #[.pointer (some ⟨b,0,none⟩),.slice (some ⟨X,0,none⟩) its.length cap] w (Hl w b bs t (Hh t++Er its++[10])):=by
 have c2:=hp.tab;have HP:=Za hp;have HL:=Za hl;have HF:=Za hf;have HO:=Za ho;have HT:=Za ht;clear hp hl hf ho ht;go_enter func30,ntmps30
 go_wp2_with fail
 refine(Tryz.strings_Repeat _ t _ (by omega) (by show 1*t≤_;omega)).mono ?_;rintro r w1 ⟨rfl,hb1⟩;have e1:((ByteArray.mk #[9]).data.toList)=[9]:=rfl;rw[e1,Vv];have HP1:=Za (HP.o.old hb1);have HF1:=Za (Zf hb1 HP.o.lt);clear hb1 c2 e1;go_wp2_with fail
 refine(Ni (Hh t) _ _ b _ t w1 rfl HP1.o (HF.o.mono (by simp))).mono ?_;rintro r w2 ⟨rfl,hp2,hf2⟩;have HP2:=Za hp2;have HF2:=Za (HF1.o.trans hf2);clear hp2 hf2;go_wp2_with fail
 refine(eG its X cap b _ t w2 hb (HT.o.fr HF2.o HP.o hb) HP2.o (HL.o.step HF2.o) (fun x hx=>(HO.o x hx).keep (HF2.o.keeps HP.o)) (HF.o.mono (by simp;omega)) hn).mono ?_;rintro r w3 ⟨rfl,hp3,hf3⟩;have HP3:=Za hp3;have HF3:=Za (HF2.o.trans hf3);clear hp3 hf3;go_wp2_with fail
 refine(Ni [10] _ _ b _ t w3 rfl HP3.o (HF.o.mono (by simp;omega))).mono ?_;rintro r w4 ⟨rfl,hp4,hf4⟩;have HP4:=Za hp4;have HF4:=Za (HF3.o.trans hf4);clear hp4 hf4;go_wp2_with fail
 go_end0
 exact⟨rfl,by simpa using HP4.o,HF4.o⟩
def Wx(t:Nat)(its:List WIt):Bs:=ln t (its.map WIt.text)
theorem line_at(its:List WIt)(T:TypeId)(X b:Nat)(bs:Bs)(t:Nat)(w:World)(hX:X=w.heap.size)(hb:3<b)(ht:Ct w)(hp:Be w b bs t)(ho:∀x,x∈its→x.ok b w)
  (htt:t≤1000000) (hf:Bw (bs.length+(Wx t its).length)) (hn:its.length≤1000):
  Calls Zb 30 #[.pointer (some ⟨b,0,none⟩),.slice (some ⟨X,0,none⟩) its.length its.length] (w.alloc (.cells (its.map WIt.val).toArray T)) (Hl w b bs t (Wx t its)):=by
 subst hX;refine(iZ its w.heap.size its.length b bs t _ hb (ht.fr (Zc hp _) hp hb) (hp.alloc _) (Loc.new hp (its.map WIt.val) T) (fun x hx=>(ho x hx).keep ((Zc hp _).keeps hp)) htt hf hn).mono ?_;rintro r w' ⟨rfl,h2,h3⟩;exact⟨rfl,h2,(Zc hp _).trans h3⟩
theorem Bw.left {n:Nat}{a c:Bs}(h:Bw (n+(a++c).length)):Bw (n+a.length):=h.mono (by simp only[List.length_append];omega)
theorem Bw.right {bs a c:Bs}(h:Bw (bs.length+(a++c).length)):Bw ((bs++a).length+c.length):=h.mono (by simp only[List.length_append];omega)
def Fk(b:Nat)(w:World)(l:List WIt):Prop:= ∀x,x∈l→x.ok b w
theorem Fk.nil {b:Nat}{w:World}:Fk b w []:=fun _ h=>by cases h
theorem Fk.s {b:Nat}{w:World}{x:Bs}{l:List WIt}(h:Fk b w l):Fk b w (.s x::l):=fun y hy=>by
 rcases List.mem_cons.1 hy with rfl|hy
 ·trivial
 ·exact h y hy
theorem Fk.e {b:Nat}{w:World}{x:Ex}{v:Value}{l:List WIt}(hx:Ai (· <b) w x.args v)(hn:I64 x.n)(hw:Bm x=true)(h:Fk b w l):Fk b w (.e x v::l):=fun y hy=>by
 rcases List.mem_cons.1 hy with rfl|hy
 ·exact⟨hx,hn,hw⟩
 ·exact h y hy
theorem Ea(its:List WIt)(T:TypeId)(X b:Nat)(bs:Bs)(t:Nat)(w:World)(hX:X=w.heap.size)(hb:3<b)(ht:Ct w)(hp:Be w b bs t)(ho:Fk b w its)
  (htt:t≤1000000) (hf:Bw (bs.length+(ln t (its.map WIt.text)).length)) (hn:its.length≤1000):
  Calls Zb 30 #[.pointer (some ⟨b,0,none⟩),.slice (some ⟨X,0,none⟩) its.length its.length] (w.alloc (.cells (its.map WIt.val).toArray T)) (Hl w b bs t (ln t (its.map WIt.text))):=
 line_at its T X b bs t w hX hb ht hp ho htt hf hn
theorem Ai.at0 {D:Nat→Prop}{w:World}{l:List Ex}{a:Option Addr}{n cap:Nat}(h:Ai D w l (.slice a n cap))(hl:0<l.length):∃b off s,a=some ⟨b,off,none⟩∧D b∧b<w.heap.size∧
  w.cell? ⟨b,off,none⟩=some (.int .i64 (Bh l 0).kind)∧w.cell? ⟨b,off+1,none⟩=some (.int .i64 (Bh l 0).op)∧w.cell? ⟨b,off+2,none⟩=some (.int .i64 (Bh l 0).n)∧
  w.cell? ⟨b,off+3,none⟩=some (.string (Aa (Bh l 0).name))∧w.cell? ⟨b,off+4,none⟩=some s∧Ai D w (Bh l 0).args s∧I64 (Bh l 0).n:=by
 obtain⟨b,off,s,ha,hD,h0,h1,h2,h3,h4,h5,h6⟩:=h.cellAt 0 hl;exact⟨b,off,s,ha,hD,Zr _ _ h0,by simpa using h0,by simpa using h1,by simpa using h2,by simpa using h3,by simpa using h4,h5,h6⟩
theorem Ai.at1 {D:Nat→Prop}{w:World}{l:List Ex}{b off:Nat}{n cap:Nat}(h:Ai D w l (.slice (some ⟨b,off,none⟩) n cap))(hl:1<l.length):∃s,
  w.cell? ⟨b,off+5,none⟩=some (.int .i64 (Bh l 1).kind)∧w.cell? ⟨b,off+5+1,none⟩=some (.int .i64 (Bh l 1).op)∧w.cell? ⟨b,off+5+2,none⟩=some (.int .i64 (Bh l 1).n)∧
  w.cell? ⟨b,off+5+3,none⟩=some (.string (Aa (Bh l 1).name))∧w.cell? ⟨b,off+5+4,none⟩=some s∧Ai D w (Bh l 1).args s∧I64 (Bh l 1).n:=by
 obtain⟨b',off',s,ha,_,h0,h1,h2,h3,h4,h5,h6⟩:=h.cellAt 1 hl
 cases ha
 exact⟨s,by simpa using h0,by simpa using h1,by simpa using h2,by simpa using h3,by simpa using h4,h5,h6⟩
theorem Di {m:Nat}{k:Int}{nm:Bs}{args:List Ex}{thn els:List St}(h:Cu (m+1) (.mk k nm args thn els)=true):
  (args.length:Int)=Cv k∧(1≤k∧k≤10)∧(∀x,x∈args→Bm x=true)∧thn.all (Cu m)=true∧els.all (Cu m)=true:=by
 simp only[Cu,Gd,St.kind,St.args,St.thn,St.els,Zo,Bool.not_eq_true',Bool.or_eq_false_iff,Bool.not_eq_false',beq_iff_eq,fOk,decide_eq_true_eq,Zp]at h;obtain⟨⟨⟨⟨h1,h2⟩,h3⟩,h4⟩,h5⟩:=h;refine⟨by have:=h1.1.1.2;simpa using this,of_decide_eq_true h1.1.1.1.1,fun x hx=>?_,Zp.2 h4,Zp.2 h5⟩;have:=h3 x hx;unfold Ce at this;exact(Zo _ _ ▸ this:_∧_).2
def cJ(m:Nat):Prop:= ∀(x:St),Cu m x=true→∀(b:Nat) (bs:Bs) (t:Nat) (s st se:Value) (w:World),3<b→Ct w→Be w b bs t→Ai (· <b) w x.args s→Al (· <b) w x.thn st→Al (· <b) w x.els se→
 t+m≤1000→Bw (bs.length+(Bt t x).length)→
 Calls Zb 114 #[.pointer (some ⟨b,0,none⟩),stV x s st se] w (Hl w b bs t (Bt t x))
def Jh(m:Nat):Prop:= ∀(l:List St),l.all (Cu m)=true→∀(b:Nat) (bs:Bs) (t:Nat) (v:Value) (w:World),3<b→Ct w→Be w b bs t→Al (· <b) w l v→
 t+1+m≤1000→Bw (bs.length+(Bf (t+1) l).length)→
 Calls Zb 70 #[.pointer (some ⟨b,0,none⟩),v] w (Hl w b bs t (Bf (t+1) l))
end Go.Proofs.YtfhbinbjkpfedaaGreatDoor

/-
  stmt and inside: statements' lines. Conditions: the statements may be; the text takes at most 2^47 bytes; the library's table of powers is there.
-/
import Derived.Test.YtfhbinbjkpfedaaGreatDoorTT08
import Derived.Shelf.Strings.Builder1
import Derived.Shelf.Strings.Builder2
import Derived.Shelf.Strings.BuilderF
import Derived.Shelf.Strconv.Atoi
import Derived.Shelf.Strconv.Itoa0
import Derived.Shelf.Strconv.Itoa1
import Derived.Shelf.LaysM
import Derived.Shelf.Strconv.Itoa2
import Derived.Shelf.Strconv.Itoa3
import Derived.Shelf.Strconv.AtoiErrFast
import Derived.Shelf.Strconv.ParseIntEmpty
import Derived.Shelf.Strconv.AtoiFail
import Derived.Shelf.Strconv.Clone
import Derived.Shelf.Strconv.SyntaxError
import Derived.Shelf.LaysC
import Derived.Shelf.Strconv.ToError
import Derived.Shelf.Strconv.Lower
import Derived.Shelf.Strconv.ParseUint10
import Derived.Shelf.Strconv.ParseUint10Empty
import Derived.Shelf.Strconv.ParseUint10Any
import Derived.Shelf.Strconv.ParseInt10
import Derived.Shelf.Strconv.AtoiLong
import Derived.Shelf.Strconv.AtoiInnerAll
import Derived.Shelf.Strconv.RangeError
import Derived.Shelf.Strconv.ToErrorRange
import Derived.Shelf.Strconv.AtoiAll
import Derived.Shelf.Strconv.ErrVarAll
import Derived.Shelf.Strings.Search1
import Derived.Shelf.Strings.Search2
import Derived.Shelf.Strings.Search3
import Derived.Shelf.Strings.Cut
import Derived.Shelf.Strings.Count
import Derived.Shelf.Strings.Shaped
import Derived.Shelf.Strings.Prefix
import Derived.Shelf.Bits.Mul64
import Derived.Shelf.Strings.Repeat
import Derived.Shelf.Unicode.DecodeSlow
import Derived.Shelf.Unicode.DecodeAny
import Derived.Shelf.Slices.Equal
import Derived.Shelf.Slices.Empties2
set_option linter.unusedVariables false
set_option linter.unusedSimpArgs false
namespace Go.Proofs.YtfhbinbjkpfedaaGreatDoor
open Go.RowKit Go.Proofs.Tryz
set_option maxHeartbeats 20000000
set_option maxRecDepth 100000
open Go.Lib renaming hid→Za
open Go.Proofs.Tryz renaming prog→Zb
open Below renaming refl→Zc
open Nat renaming le_refl→Zd
open World renaming cell?_alloc_lt→Ze
open List renaming any_eq_not_all_not→Zf
theorem gZ {a b c d:Bool}{n:Int}{k:Int}(h1:a=Dq k)(h2:n=Ea k)(h3:b=Gv k)(h4:c=Gu k)(h5:d=fOk k):
  Ending.returned (.tuple #[.agg #[.bool a,.int .i64 n,.bool b,.bool c],.bool d])=.returned (.tuple #[.agg #[.bool (Dq k),.int .i64 (Ea k),.bool (Gv k),.bool (Gu k)],.bool (fOk k)]):=by
 subst h1 h2 h3 h4 h5;rfl
theorem Yn(k:Int)(w:World):
  Calls Zb 118 #[.int .i64 k] w fun r w'=>r=.returned (.tuple #[.agg #[.bool (Dq k),.int .i64 (Ea k),.bool (Gv k),.bool (Gu k)],.bool (fOk k)])∧Below w.heap.size w w':=by
 go_enter func118,ntmps118
 go_wp2
 all_goals(refine bodyPost_ret (by simp [results,results118,go_sem];rfl) rfl ?_)
 all_goals(refine⟨gZ ?_ ?_ ?_ ?_ ?_,by repeat(first|exact Zc _ _|refine Below.setCell ?_ (by simp) _|refine Below.alloc ?_ (Zd _) _)⟩)
 all_goals(simp only[beq_iff_eq,beq_eq_false_iff_ne,ne_eq]at*;simp [Dq,Ea,Gv,Gu,fOk, *]<;>omega)
theorem head_eq {l:List Ex}(h:0<l.length):l[0]=l.headD (.mk 0 0 0 [] []):=by cases l with|nil=>simp at h|cons x l=>rfl
theorem dG {α:Type}(l:List α):decide (0<l.length)= !l.isEmpty:=by cases l<;>simp
theorem stmt_fn(e:Ex)(D:Nat→Prop)(s:Value)(w:World)(h:Aj D w e.args s):
  Calls Zb 119 #[exV e s] w fun r w'=>r=.returned (.bool (!Be e))∧Below w.heap.size w w':=by
 have H:=Za h;clear h;go_enter func119,ntmps119
 go_wp2_with fail
 refine(Fz e D s _ (H.out.old (bA))).mono ?_;rintro r w1 ⟨rfl,hb⟩;go_wp2_with fail
 go_ret
 exact⟨rfl,(bA).trans (hb.mono (by simp))⟩
def fZ(m:Nat):Prop:= ∀(D:Nat→Prop) (l:List St) (v:Value) (w:World),Ap D w l v→
 Calls Zb 37 #[v,.int .i64 m] w fun r w'=>r=.returned (.bool (l.all (De m)))∧Below w.heap.size w w'
def StOf(m:Nat):Prop:= ∀(D:Nat→Prop) (x:St) (a t e:Value) (w:World),Aj D w x.args a→Ap D w x.thn t→Ap D w x.els e→
 Calls Zb 76 #[stV x a t e,.int .i64 m] w fun r w'=>r=.returned (.bool (De m x))∧Below w.heap.size w w'
set_option maxHeartbeats 20000000 in
theorem Tw(m:Nat)(hm:m≤1000)(ih:0<m→fZ (m-1)):StOf m:=by
 intro D x a0 t0 e0 w ha ht he;have IH:=Za ih;clear ih;have HA:=Za ha;have HT:=Za ht;have HE:=Za he;clear ha ht he;obtain⟨aa,ca,rfl⟩:∃aa ca,a0=.slice aa x.args.length ca:=HA.o.shape;obtain⟨at',ct,rfl⟩:∃aa ca,t0=.slice aa x.thn.length ca:=HT.o.shape;obtain⟨ae,ce,rfl⟩:∃aa ca,e0=.slice aa x.els.length ca:=HE.o.shape;have hm1:(m:Int)≤1000:=by omega
 have hm0:(0:Int)≤m:=by omega
 go_enter func76,ntmps76
 go_upto_region 2 with(first|(go_at_call 118;refine(Yn _ _).mono ?_;rintro e w1 ⟨rfl,hb⟩;obtain⟨hc,hf⟩:=Ph hb;have hz:w.heap.size<w1.heap.size:=(by have:=hb.size;simp at this;omega)))
 go_cut [6,48] (fun _ s48 wx=>s48=.bool (Ge m x)∧wx=w1.alloc (.cells #[.bool (Dq x.kind),.int .i64 (Ea x.kind),.bool (Gv x.kind),.bool (Gu x.kind)] 150))
 case first=>
  cases b0:fOk x.kind
  ·go_wp2_with fail
   go_meet;exact⟨by simp [Ge,b0],rfl⟩
  cases b1:((m:Int)==0)
  case true=>
   go_wp2_with fail
   go_meet;exact⟨by simp [Ge,b1],rfl⟩
  cases b2:((x.args.length:Int)==Ea x.kind)
  ·have b2':((x.args.length:Int) !=Ea x.kind)=true:=by simp [bne,b2]
   go_wp2_with fail
   go_meet;exact⟨by simp [Ge,b2],rfl⟩
  have b2':((x.args.length:Int) !=Ea x.kind)=false:=by simp [bne,b2]
  have t1:=dG x.thn;have e1:=dG x.els
  cases b3:Gv x.kind<;>cases b4:x.thn.isEmpty<;>cases b5:Gu x.kind<;>cases b6:x.els.isEmpty
  all_goals
   rw[b4]at t1;rw[b6]at e1;have E:Hid (Ge m x=((!Gv x.kind && !x.thn.isEmpty)||(!Gu x.kind && !x.els.isEmpty))):=(by show _=_;simp [Ge,b0,b1,b2]);rw[b3,b4,b5,b6]at E;clear b4 b6;simp only[Bool.not_true,Bool.not_false]at t1 e1;go_wp2_with fail
   go_meet;exact⟨by rw[E.out];rfl,by rw[b3,b5]⟩
 case rest=>
  obtain⟨rfl,rfl⟩:=hcut;have hBW:Below w.heap.size w (w1.alloc (.cells #[.bool (Dq x.kind),.int .i64 (Ea x.kind),.bool (Gv x.kind),.bool (Gu x.kind)] 150)):=
   ((bA).trans (hb.mono (by simp))).alloc (by omega) _
  have f0:(w1.alloc (.cells #[.bool (Dq x.kind),.int .i64 (Ea x.kind),.bool (Gv x.kind),.bool (Gu x.kind)] 150)).cell? ⟨w1.heap.size,0,none⟩=some (.bool (Dq x.kind)):=by simp
  have k0:=Ac ((Zc w1.heap.size w1).alloc (Zd _) (.cells #[.bool (Dq x.kind),.int .i64 (Ea x.kind),.bool (Gv x.kind),.bool (Gu x.kind)] 150)) (a:=⟨w.heap.size,0,none⟩) (x:=.int .i64 x.kind) (Ac hb (by simp));have k1:=Ac ((Zc w1.heap.size w1).alloc (Zd _) (.cells #[.bool (Dq x.kind),.int .i64 (Ea x.kind),.bool (Gv x.kind),.bool (Gu x.kind)] 150)) (a:=⟨w.heap.size,1,none⟩) (x:=.string (Aa x.name)) (Ac hb (by simp));have k2:=Ac ((Zc w1.heap.size w1).alloc (Zd _) (.cells #[.bool (Dq x.kind),.int .i64 (Ea x.kind),.bool (Gv x.kind),.bool (Gu x.kind)] 150)) (a:=⟨w.heap.size,2,none⟩) (x:=.slice aa x.args.length ca) (Ac hb (by simp));have k3:=Ac ((Zc w1.heap.size w1).alloc (Zd _) (.cells #[.bool (Dq x.kind),.int .i64 (Ea x.kind),.bool (Gv x.kind),.bool (Gu x.kind)] 150)) (a:=⟨w.heap.size,3,none⟩) (x:=.slice at' x.thn.length ct) (Ac hb (by simp));have k4:=Ac ((Zc w1.heap.size w1).alloc (Zd _) (.cells #[.bool (Dq x.kind),.int .i64 (Ea x.kind),.bool (Gv x.kind),.bool (Gu x.kind)] 150)) (a:=⟨w.heap.size,4,none⟩) (x:=.slice ae x.els.length ce) (Ac hb (by simp));have hz2:w1.heap.size<(w1.alloc (.cells #[.bool (Dq x.kind),.int .i64 (Ea x.kind),.bool (Gv x.kind),.bool (Gu x.kind)] 150)).heap.size:=by simp
  clear hb hc hf;generalize w1.alloc (.cells #[.bool (Dq x.kind),.int .i64 (Ea x.kind),.bool (Gv x.kind),.bool (Gu x.kind)] 150)=W2 at hBW f0 k0 k1 k2 k3 k4 hz2 ⊢;have HBW:=Za hBW;clear hBW
  cases q1:Ge m x
  case true=>
   have Q1:=Za q1;clear q1;go_wp2_with fail
   go_ret
   refine⟨Af ?_,HBW.o⟩
   cases m with
   |zero=>rfl
   |succ m=>
    have q:=Q1.out;rw[show((m+1:Nat):Int)=(m:Int)+1 from by omega]at q;simp only[De,q];rfl
  have Q1:=Za q1;clear q1;go_upto_region 4 with(fail)
  go_cut [77] (fun s77 wx=>s77=.bool (In x)∧Below W2.heap.size W2 wx)
  case first=>
   have E:Hid (In x=(!(Dq x.kind==An x.name)||(!Dq x.kind && !(x.name==[]))||(x.kind==10 && !((x.args.headD (.mk 0 0 0 [] [])).kind==5)))):=rfl;obtain⟨Ix,hIx,F,HFB,HFI⟩:=Kl W2;have HCL:Hid (∀n,Calls Zb 73 #[.string (Aa x.name)] (F n) fun e w'=>e=.returned (.bool (An x.name))∧∃m,w'=F m):=fun n=>by
    refine(Jq x.name (F n)).mono ?_;rintro e w' ⟨he,hb⟩;exact⟨he,HFI.o w' ((HFB.o n).trans (hb.mono (HFB.o n).size))⟩
   have g0:∀n,(F n).cell? ⟨w1.heap.size,0,none⟩=some (.bool (Dq x.kind)):=fun n=>Ac (HFB.o n) f0
   have g1:∀n,(F n).cell? ⟨w.heap.size,0,none⟩=some (.int .i64 x.kind):=fun n=>Ac (HFB.o n) k0
   have g2:∀n,(F n).cell? ⟨w.heap.size,1,none⟩=some (.string (Aa x.name)):=fun n=>Ac (HFB.o n) k1
   have g3:∀n,(F n).cell? ⟨w.heap.size,2,none⟩=some (.slice aa x.args.length ca):=fun n=>Ac (HFB.o n) k2
   have HST:Hid (∃n,W2.drew=F n):=HFI.o _ (Zc _ _).drew;refine Hv F (by kernel_rfl) (by kernel_rfl) HST.o ?_;have fin:∀ {K:Act→World→Prop} {a:Act},(∀n,K a (F n))→∀w',(∃n,w'=F n)→K a w':=fun h w' ⟨n,e⟩=>e ▸ h n
   cases n1:Dq x.kind<;>cases n2:An x.name
   all_goals
    rw[n1,n2]at E;rw[n1]at g0;rw[n2]at HCL;clear k0 k1 k2 k3 k4 f0
   case false.false=>
    cases n4:(x.name==[])
    ·rw[n4]at E
     have n5:x.name.isEmpty=false:=by simpa using n4
     repeat(go_big_quiet_step ((go_at_call 73;exact HCL.o _)))
     refine wpQuiet_nil (fin fun nq=>?_);go_wp2_with fail
     go_meet;exact⟨by rw[E.out];rfl,HFB.o nq⟩
    ·have n5:x.name.isEmpty=true:=by simpa using n4
     rw[n4]at E;clear n4
     cases n3:(x.kind==10)
     ·rw[n3]at E
      repeat(go_big_quiet_step ((go_at_call 73;exact HCL.o _)))
      refine wpQuiet_nil (fin fun nq=>?_);go_wp2_with fail
      go_meet;exact⟨by rw[E.out];rfl,HFB.o nq⟩
     ·rw[n3]at E
      have hlen:x.args.length=1:=by
       have q:=Q1.out;simp [Ge,show x.kind=10 by simpa using n3,Ea,fOk,Gv,Gu]at q;omega
      obtain⟨b,off,rfl,z⟩:=HA.o.cell0 (by omega);have g4:∀n,(F n).cell? ⟨b,off,none⟩=some (.int .i64 (Ao x.args 0).kind):=fun n=>Ac (HFB.o n) (Ac HBW.o z)
      have hl0:0<x.args.length:=by omega
      clear hlen z
      repeat(go_big_quiet_step ((go_at_call 73;exact HCL.o _)))
      refine wpQuiet_nil (fin fun nq=>?_);go_wp2_with fail
      go_meet;exact⟨by rw[E.out,←head_eq hl0];simp [bne],HFB.o nq⟩
   case true.true=>
    have n3:(x.kind==10)=false:=by simp [Dq]at n1;simp;omega
    rw[n3]at E
    repeat(go_big_quiet_step ((go_at_call 73;exact HCL.o _)))
    refine wpQuiet_nil (fin fun nq=>?_);go_wp2_with fail
    go_meet;exact⟨by rw[E.out];rfl,HFB.o nq⟩
   all_goals
    repeat(go_big_quiet_step ((go_at_call 73;exact HCL.o _)))
    refine wpQuiet_nil (fin fun nq=>?_);go_wp2_with fail
    go_meet;exact⟨by rw[E.out];rfl,HFB.o nq⟩
  case rest=>
   obtain⟨rfl,hb2⟩:=hcut;have HB2:=Za (HBW.o.trans (hb2.mono (by have:=HBW.o.size;omega)));have j2:=Ac hb2 k2;have j3:=Ac hb2 k3;have j4:=Ac hb2 k4;have hs2:=hb2.size;clear f0 k0 k1 k2 k3 k4 hb2
   cases q2:In x
   case true=>
    have Q2:=Za q2;clear q2;go_wp2_with fail
    go_ret
    refine⟨Af ?_,HB2.o⟩
    cases m with
    |zero=>rfl
    |succ m=>simp [De,Q2.out]
   have Q2:=Za q2;clear q2;have hmp:Hid (0<m):=by
    cases m with
    |zero=>have q:=Q1.out;simp [Ge]at q
    |succ m=>exact Nat.succ_pos m
   obtain⟨m',hm'⟩:∃m',m=m'+1:=⟨m-1,by have:=hmp.out;omega⟩;have EM:Hid (De m x=(!Ge m x && !In x && x.args.all Be && x.thn.all (De (m-1)) && x.els.all (De (m-1)))):=by
    show _=_
    subst hm';simp only[De,Nat.add_sub_cancel];rw[show((m'+1:Nat):Int)=(m':Int)+1 from by omega]
   clear hm';have hsub:Hid (((m-1:Nat):Int)=(m:Int)-1):=by show _=_;have:=hmp.out;omega
   have hm2:1≤(m:Int):=by have:=hmp.out;omega
   go_wp2_with fail
   refine(Kk 119 #[] Tryz.call119 x.args _ D _ (HA.o.old HB2.o) (fun e=> !Be e) (fun e s' w3 _ _ hs=>stmt_fn e D s' w3 hs)).mono ?_;rintro r w3 ⟨rfl,hb3⟩;have l3:=Ac hb3 j3;have l4:=Ac hb3 j4;have HB3:=Za (HB2.o.trans (hb3.mono (by omega)));have hs3:=hb3.size;clear j2 j3 j4 hb3;have A1:x.args.any (fun e=> !Be e)= !x.args.all Be:=by simp [Zf]
   rw[A1];clear A1
   cases qa:x.args.all Be
   ·have QA:=Za qa;clear qa
    go_wp2_with fail
    go_ret
    exact⟨Af (by rw[EM.out,QA.out];simp),HB3.o⟩
   have QA:=Za qa;clear qa;go_wp2_with fail
   rw[←hsub.out];refine(IH.out hmp.out D x.thn _ _ (HT.o.old HB3.o)).mono ?_;rintro r w4 ⟨rfl,hb4⟩;have m4:=Ac hb4 l4;have HB4:=Za (HB3.o.trans (hb4.mono (by omega)));have hs4:=hb4.size;clear l3 l4 hb4
   cases qt:x.thn.all (De (m-1))
   ·have QT:=Za qt;clear qt
    go_wp2_with fail
    go_ret
    exact⟨Af (by rw[EM.out,QA.out,QT.out];simp),HB4.o⟩
   have QT:=Za qt;clear qt;go_wp2_with fail
   rw[←hsub.out];refine(IH.out hmp.out D x.els _ _ (HE.o.old HB4.o)).mono ?_;rintro r w5 ⟨rfl,hb5⟩;have HB5:=Za (HB4.o.trans (hb5.mono (by omega)));clear m4 hb5;go_wp2_with fail
   go_ret
   exact⟨Af (by rw[EM.out,QA.out,QT.out,Q1.out,Q2.out];simp),HB5.o⟩
theorem jU(m:Nat)(hm:m≤1000)(ih:StOf m)(D:Nat→Prop)(x:St)(a t e:Value)(w:World)(ha:Aj D w x.args a)(ht:Ap D w x.thn t)(he:Ap D w x.els e)(B:Nat)(hB:w.cell? ⟨B,0,none⟩=some (.int .i64 m)):
  Calls Zb 75 #[stV x a t e,.pointer (some ⟨B,0,none⟩)] w fun r w'=>r=.returned (.bool (!De m x))∧Below w.heap.size w w':=by
 have HA:=Za ha;have HT:=Za ht;have HE:=Za he;clear ha ht he;have hBl:B<w.heap.size:=World.block_lt_of_cell? _ _ hB;go_enter func75,ntmps75
 go_wp2_with fail
 refine(ih D x a t e _ (HA.o.old (bA)) (HT.o.old (bA)) (HE.o.old (bA))).mono ?_;rintro r w1 ⟨rfl,hb⟩;go_wp2_with fail
 go_ret
 exact⟨rfl,(bA).trans (hb.mono (by simp))⟩
theorem Rg(m:Nat)(hm:m≤1000)(ih:StOf m):fZ m:=by
 intro D l v w h;have H:=Za h;clear h;have IH:=Za ih;clear ih;go_enter func37,ntmps37
 go_wp2_with fail
 refine(Ua 75 _ Tryz.call75 l v D _ (H.out.old (bA)) (fun x=> !De m x) ?_).mono ?_
 ·intro x a t e w1 _ hb ha ht he
  exact jU m hm IH.out D x a t e w1 ha ht he _ (Ac hb (by simp))
 ·rintro r w1 ⟨rfl,hb⟩
  go_wp2_with fail
  go_ret
  exact⟨Af (by simp [Zf]),(bA).trans (hb.mono (by simp))⟩
theorem Vv:∀m,m≤1000→StOf m∧fZ m
 |0,h=>have a:=Tw 0 h (fun h=>by omega);⟨a,Rg 0 h a⟩
 |m+1,h=>have a:=Tw (m+1) h (fun _=>(Vv m (by omega)).2);⟨a,Rg (m+1) h a⟩
theorem jI(s:Bs)(w:World):
  Calls Zb 72 #[.string (Aa s)] w fun r w'=>r=.returned (.bool (!An s))∧Below w.heap.size w w':=by
 go_enter func72,ntmps72
 go_wp2_with fail
 refine(Jq s _).mono ?_;rintro r w1 ⟨rfl,hb⟩;go_wp2_with fail
 go_ret
 exact⟨rfl,hb⟩
theorem Lo(l:List Bs)(v:Value)(D:Nat→Prop)(w:World)(h:Ay D w l v):
  Calls Zb 36 #[v] w fun r w'=>r=.returned (.bool (l.all An))∧Below w.heap.size w w':=by
 obtain⟨a,cap,b,off,rfl,h1,h2,h3,h4⟩:=h;have HC:=Za (Sl a l.length cap 72 #[] Tryz.call72 w (fun i=>.string (Aa (l.getD i []))) (fun i=> !An (l.getD i [])) (h2).out
  (h3.imp id fun h=>⟨b,off,h.1,h4⟩) (fun i _ w1 _=>jI _ w1))
 clear h1 h2 h3 h4;have E:Hid ((!Le (fun i=> !An (l.getD i [])) l.length)=l.all An):=by
  show _=_
  rw[Oh (fun s=> !An s) _ l (fun i hi=>by simp [List.getElem?_eq_getElem hi])];simp [Zf]
 go_enter func36,ntmps36
 go_wp2_with fail
 refine HC.o.mono ?_;rintro r w1 ⟨rfl,hb⟩;go_wp2_with fail
 go_ret
 exact⟨Af E.out,hb⟩
theorem Jo(p:Pr)(D:Nat→Prop)(sa sf:Value)(w:World)(ha:Bp D w p.arrays sa)(hf:Bk D w p.funcs sf):
  Calls Zb 11 #[.agg #[sa,sf]] w fun r w'=>r=.returned (.bool (Cd p))∧Below w.heap.size w w':=by
 obtain⟨aa,ca,ba,oa,rfl,a1,a2,a3,a4⟩:=ha;obtain⟨af,cf,bf,of',pv,lv,bv,rfl,f1,f2,f3,f4⟩:=hf;have la:=a2.lt;have lf:=f2.lt;have A3:=Za a3;have A4:=Za a4;have F3:=Za f3;have F4:=Za f4;have E:Hid (Cd p=(p.arrays.all Ch && p.funcs.all Co)):=rfl;clear a1 a2 a3 a4 f1 f2 f3 f4;go_enter func11,ntmps11
 go_wp2_with fail
 have HW:Hid (Below w.heap.size w (w.alloc (.cells #[.slice aa p.arrays.length ca,.slice af p.funcs.length cf] 27))):=bA;have c1:(w.alloc (.cells #[.slice aa p.arrays.length ca,.slice af p.funcs.length cf] 27)).cell? ⟨w.heap.size,1,none⟩=some (.slice af p.funcs.length cf):=by simp
 have hz0:w.heap.size<(w.alloc (.cells #[.slice aa p.arrays.length ca,.slice af p.funcs.length cf] 27)).heap.size:=by simp
 generalize w.alloc (.cells #[.slice aa p.arrays.length ca,.slice af p.funcs.length cf] 27)=W at HW c1 hz0 ⊢
 go_loopw [2,4,10] (fun s2 _ s10 wr=> ∃k:Nat,k≤p.arrays.length∧s10=.int .i64 k∧s2=.bool false∧(∀i,i<k→Ch (Dj p.arrays i)=true)∧Below W.heap.size W wr) (fun _ _ s10 _=>p.arrays.length-(intOf s10).toNat)
 case atStart=>exact⟨0,Nat.zero_le _,rfl,rfl,fun i hi=>by omega,Zc _ _⟩
 case round=>
  obtain⟨k,hk,rfl,rfl,hall,hb⟩:=hrel;have ALL:=Za hall;clear hall;have HB:=Za (HW.o.trans (hb.mono (by omega)));have HBW:=Za hb;have hzr:w.heap.size<wr.heap.size:=by have:=hb.size;omega
  have c2:=Ac hb c1;clear hb
  by_cases hlt:k<p.arrays.length
  ·obtain⟨rfl,_⟩:aa=some ⟨ba,oa,none⟩∧D ba:=by rcases A3.out with h|h;omega;exact h
   obtain⟨g0,g1⟩:=A4.out k hlt;have e0:=Ac HB.o g0;have e1:=Ac HB.o g1;clear g0 g1;generalize hAk:Dj p.arrays k=A at e0 e1;have HAK:=Za hAk;clear hAk;have RA:Hid (Ch A=(An A.name && decide (1≤A.size∧A.size≤1048576))):=rfl;go_wp2_with fail
   refine(Lo [A.name] _ (fun _=>True) _ ⟨some ⟨wr.heap.size+1,0,none⟩,1,wr.heap.size+1,0,rfl,Zd _,by show _≤_;simp,.inr ⟨rfl,trivial⟩,fun i hi=>by obtain rfl:i=0:=(by simp at hi;omega);simp⟩).mono ?_;rintro r w3 ⟨rfl,hb3⟩;have hbr:Below wr.heap.size wr w3:=((bA).alloc (by simp) _).trans (hb3.mono (by simp;omega));have d1:w3.cell? ⟨wr.heap.size,1,none⟩=some (.int .i64 A.size):=Ac hb3 (by simp [Ze]);have HBR:=Za hbr;have HB3:=Za (HB.o.trans (hbr.mono (by omega)));clear hb3 hbr;rw[show([A.name].all An)=An A.name from by simp];have bad:Hid (Ch A=false→Cd p=false):=fun h=>by
    rw[E.out,Nd p.arrays Ar.nil Ch k hlt (by rw[show p.arrays.getD k Ar.nil=A from HAK.o];exact h)];rfl
   cases q1:An A.name
   ·have Q1:=Za q1;clear q1
    go_wp2_with fail
    go_ret
    exact⟨Af (bad.out (by rw[RA.out,Q1.out];rfl)).symm,HB3.o⟩
   have Q1:=Za q1;clear q1
   by_cases q2:1≤A.size
   ·by_cases q3:A.size≤1048576
    ·go_wp2_with fail
     go_roundw
     case rel=>
      refine⟨k+1,by omega,by go_num,rfl,fun i hi=>?_,HBW.o.trans (HBR.o.mono HBW.o.size)⟩;rcases Nat.lt_succ_iff_lt_or_eq.1 hi with h|rfl
      ·exact ALL.out i h
      ·rw[HAK.o,RA.out,Q1.out];simp [q2,q3]
     case measure=>simp [intOf];omega
    ·go_wp2_with fail
     go_ret
     exact⟨Af (bad.out (by rw[RA.out,Q1.out];simp;omega)).symm,HB3.o⟩
   ·go_wp2_with fail
    go_ret
    exact⟨Af (bad.out (by rw[RA.out,Q1.out];simp;omega)).symm,HB3.o⟩
  ·have hkn:k=p.arrays.length:=by omega
   have EA:Hid (p.arrays.all Ch=true):=Tc p.arrays Ar.nil Ch (fun i hi=>ALL.out i (by omega));clear hkn;go_wp2_with fail
   go_loopw [2,6,33] (fun s2 _ s33 wx=> ∃j:Nat,j≤p.funcs.length∧s33=.int .i64 j∧s2=.bool false∧(∀i,i<j→Co (Bc p.funcs i)=true)∧Below wr.heap.size wr wx) (fun _ _ s33 _=>p.funcs.length-(intOf s33).toNat)
   case atStart=>exact⟨0,Nat.zero_le _,rfl,rfl,fun i hi=>by omega,Zc _ _⟩
   case round=>
    clear c1 c2;obtain⟨j,hj,rfl,rfl,hall,hb⟩:=hrel;have ALF:=Za hall;clear hall
    rename World=>wx
    have HBX:=Za (HB.o.trans (hb.mono (by omega)));have HBY:=Za hb;clear hb
    by_cases hlj:j<p.funcs.length
    ·obtain⟨rfl,_⟩:af=some ⟨bf,of',none⟩∧D bf:=by rcases F3.out with h|h;omega;exact h
     obtain⟨⟨g0,g1,g2,g3⟩,gp,gl,gb⟩:=F4.out j hlj;have e0:=Ac HBX.o g0;have e1:=Ac HBX.o g1;have e2:=Ac HBX.o g2;have e3:=Ac HBX.o g3;have GP:=Za (gp.old HBX.o);have GL:=Za (gl.old HBX.o);have GB:=Za (gb.old HBX.o);clear g0 g1 g2 g3 gp gl gb;generalize hAk:Bc p.funcs j=A at e0 GP GL GB;generalize pv j=P1 at e1 GP;generalize lv j=L1 at e2 GL;generalize bv j=B1 at e3 GB;have HAK:=Za hAk;clear hAk;obtain⟨pa,pc,hpv⟩:∃a cap,P1=.slice a A.params.length cap:=by obtain⟨a,cap,_,_,h,_⟩:=GP.out;exact⟨a,cap,h⟩
     subst hpv;obtain⟨qa,qc,hqv⟩:∃a cap,L1=.slice a A.locals.length cap:=by obtain⟨a,cap,_,_,h,_⟩:=GL.out;exact⟨a,cap,h⟩
     subst hqv;obtain⟨ra,rc,hrv⟩:∃a cap,B1=.slice a A.body.length cap:=GB.out.shape;subst hrv;have RA:Hid (Co A=(An A.name && A.params.all An && A.locals.all An && decide (A.params.length≤6) && A.body.all (De 40))):=rfl;have bad:Hid (Co A=false→Cd p=false):=fun h=>by
      rw[E.out,EA.out,Nd p.funcs Fu.nil Co j hlj (by rw[show p.funcs.getD j Fu.nil=A from HAK.o];exact h)];rfl
     go_wp2_with fail
     refine(Lo [A.name] _ (fun _=>True) _ ⟨some ⟨wx.heap.size+1,0,none⟩,1,wx.heap.size+1,0,rfl,Zd _,by show _≤_;simp,.inr ⟨rfl,trivial⟩,fun i hi=>by obtain rfl:i=0:=(by simp at hi;omega);simp⟩).mono ?_;rintro r w3 ⟨rfl,hb3⟩;have hbr:Below wx.heap.size wx w3:=((bA).alloc (by simp) _).trans (hb3.mono (by simp;omega));have d1:w3.cell? ⟨wx.heap.size,1,none⟩=some (.slice pa A.params.length pc):=Ac hb3 (by simp [Ze]);have d2:w3.cell? ⟨wx.heap.size,2,none⟩=some (.slice qa A.locals.length qc):=Ac hb3 (by simp [Ze]);have d3:w3.cell? ⟨wx.heap.size,3,none⟩=some (.slice ra A.body.length rc):=Ac hb3 (by simp [Ze]);have HBR:=Za hbr;have hs3:=hbr.size;clear hb3 hbr e0 e1 e2 e3;rw[show([A.name].all An)=An A.name from by simp];have HBZ:=Za (HBX.o.trans (HBR.o.mono (by have:=HBX.o.size;omega)))
     cases q1:An A.name
     ·have Q1:=Za q1;clear q1
      go_wp2_with fail
      go_ret
      exact⟨Af (bad.out (by rw[RA.out,Q1.out];rfl)).symm,HBZ.o⟩
     have Q1:=Za q1;clear q1;go_wp2_with fail
     refine(Lo A.params _ D _ (GP.out.old HBR.o)).mono ?_;rintro r w4 ⟨rfl,hb4⟩;have HB4:=Za (HBR.o.trans (hb4.mono hs3));have k1:=Ac hb4 d1;have k2:=Ac hb4 d2;have k3:=Ac hb4 d3;have hs4:=hb4.size;clear hb4 d1 d2 d3;have HBZ4:=Za (HBX.o.trans (HB4.o.mono (by have:=HBX.o.size;omega)))
     cases q2:A.params.all An
     ·have Q2:=Za q2;clear q2
      go_wp2_with fail
      go_ret
      exact⟨Af (bad.out (by rw[RA.out,Q2.out];simp)).symm,HBZ4.o⟩
     have Q2:=Za q2;clear q2;go_wp2_with fail
     refine(Lo A.locals _ D _ (GL.out.old HB4.o)).mono ?_;rintro r w5 ⟨rfl,hb5⟩;have HB5:=Za (HB4.o.trans (hb5.mono (by omega)));have m1:=Ac hb5 k1;have m3:=Ac hb5 k3;have hs5:=hb5.size;clear hb5 k1 k2 k3;have HBZ5:=Za (HBX.o.trans (HB5.o.mono (by have:=HBX.o.size;omega)))
     cases q3:A.locals.all An
     ·have Q3:=Za q3;clear q3
      go_wp2_with fail
      go_ret
      exact⟨Af (bad.out (by rw[RA.out,Q3.out];simp)).symm,HBZ5.o⟩
     have Q3:=Za q3;clear q3
     by_cases q4:A.params.length≤6
     ·go_wp2_with fail
      refine((Vv 40 (by omega)).2 D A.body _ _ (GB.out.old HB5.o)).mono ?_;rintro r w6 ⟨rfl,hb6⟩;have HB6:=Za (HB5.o.trans (hb6.mono (by omega)));clear hb6 m1 m3;have HBZ6:=Za (HBX.o.trans (HB6.o.mono (by have:=HBX.o.size;omega)))
      cases q5:A.body.all (De 40)
      ·have Q5:=Za q5;clear q5
       go_wp2_with fail
       go_ret
       exact⟨Af (bad.out (by rw[RA.out,Q5.out];simp)).symm,HBZ6.o⟩
      ·have Q5:=Za q5;clear q5
       go_wp2_with fail
       go_roundw
       case rel=>
        refine⟨j+1,by omega,by go_num,rfl,fun i hi=>?_,HBY.o.trans (HB6.o.mono HBY.o.size)⟩;rcases Nat.lt_succ_iff_lt_or_eq.1 hi with h|rfl
        ·exact ALF.out i h
        ·rw[HAK.o,RA.out,Q1.out,Q2.out,Q3.out,Q5.out];simp [q4]
       case measure=>simp [intOf];omega
     ·have q4':6<A.params.length:=by omega
      go_wp2_with fail
      go_ret
      exact⟨Af (bad.out (by rw[RA.out];simp [q4])).symm,HBZ5.o⟩
    ·have hjn:j=p.funcs.length:=by omega
     have EF:Hid (p.funcs.all Co=true):=Tc p.funcs Fu.nil Co (fun i hi=>ALF.out i (by omega));clear hjn;go_wp2_with fail
     go_ret
     exact⟨Af (by rw[E.out,EA.out,EF.out];rfl),HBX.o⟩
end Go.Proofs.YtfhbinbjkpfedaaGreatDoor
namespace Go.Proofs
open Go.Shelf
def Tryz.laysM171_ren:Go.Shelf.Ren:=⟨fun|171=>31|243=>67|246=>113|283=>136|284=>137|285=>138|286=>139|129=>169|317=>168|318=>170|319=>171|320=>172|337=>182|338=>183|n=>n,fun|3=>3|9=>9|2=>2|4=>4|171=>169|0=>0|53=>166|37=>72|5=>5|173=>172|212=>184|51=>163|20=>20|213=>185|46=>139|232=>202|233=>203|n=>n,fun|17=>3|18=>6|19=>7|n=>n⟩
theorem Tryz.laysM171:Go.Proofs.LaysM.n171 Tryz.prog Tryz.laysM171_ren:= {
 mixed:=by kernel_rfl
 f129:=Tryz.func169.trans (congrArg some (by kernel_rfl))
 f171:=Tryz.func31.trans (congrArg some (by kernel_rfl))
 f243:=Tryz.func67.trans (congrArg some (by kernel_rfl))
 f246:=Tryz.func113.trans (congrArg some (by kernel_rfl))
 f283:=Tryz.func136.trans (congrArg some (by kernel_rfl))
 f284:=Tryz.func137.trans (congrArg some (by kernel_rfl))
 f285:=Tryz.func138.trans (congrArg some (by kernel_rfl))
 f286:=Tryz.func139.trans (congrArg some (by kernel_rfl))
 f317:=Tryz.func168.trans (congrArg some (by kernel_rfl))
 f318:=Tryz.func170.trans (congrArg some (by kernel_rfl))
 f319:=Tryz.func171.trans (congrArg some (by kernel_rfl))
 f320:=Tryz.func172.trans (congrArg some (by kernel_rfl))
 f337:=Tryz.func182.trans (congrArg some (by kernel_rfl))
 f338:=Tryz.func183.trans (congrArg some (by kernel_rfl))
 t0:=Tryz.underlying0
 a0:=Tryz.isAgg0
 z0:=Tryz.sizeOf0
 v0:=Tryz.zeroValue0
 t2:=Tryz.underlying2
 a2:=Tryz.isAgg2
 z2:=Tryz.sizeOf2
 v2:=Tryz.zeroValue2
 t3:=Tryz.underlying3
 a3:=Tryz.isAgg3
 z3:=Tryz.sizeOf3
 v3:=Tryz.zeroValue3
 t4:=Tryz.underlying4
 a4:=Tryz.isAgg4
 z4:=Tryz.sizeOf4
 v4:=Tryz.zeroValue4
 t5:=Tryz.underlying5
 a5:=Tryz.isAgg5
 z5:=Tryz.sizeOf5
 v5:=Tryz.zeroValue5
 t9:=Tryz.underlying9
 a9:=Tryz.isAgg9
 z9:=Tryz.sizeOf9
 v9:=Tryz.zeroValue9
 t20:=Tryz.underlying20
 a20:=Tryz.isAgg20
 z20:=Tryz.sizeOf20
 v20:=Tryz.zeroValue20
 t37:=Tryz.underlying72
 a37:=Tryz.isAgg72
 z37:=Tryz.sizeOf72
 v37:=Tryz.zeroValue72
 t46:=Tryz.underlying139
 a46:=Tryz.isAgg139
 z46:=Tryz.sizeOf139
 v46:=Tryz.zeroValue139
 t51:=Tryz.underlying163
 a51:=Tryz.isAgg163
 z51:=Tryz.sizeOf163
 v51:=Tryz.zeroValue163
 t53:=Tryz.underlying166
 a53:=Tryz.isAgg166
 z53:=Tryz.sizeOf166
 v53:=Tryz.zeroValue166
 t171:=Tryz.underlying169
 a171:=Tryz.isAgg169
 z171:=Tryz.sizeOf169
 v171:=Tryz.zeroValue169
 t173:=Tryz.underlying172
 a173:=Tryz.isAgg172
 z173:=Tryz.sizeOf172
 v173:=Tryz.zeroValue172
 t212:=Tryz.underlying184
 a212:=Tryz.isAgg184
 z212:=Tryz.sizeOf184
 v212:=Tryz.zeroValue184
 t213:=Tryz.underlying185
 a213:=Tryz.isAgg185
 z213:=Tryz.sizeOf185
 t232:=Tryz.underlying202
 a232:=Tryz.isAgg202
 z232:=Tryz.sizeOf202
 v232:=Tryz.zeroValue202
 t233:=Tryz.underlying203
 a233:=Tryz.isAgg203
 z233:=Tryz.sizeOf203
 v233:=Tryz.zeroValue203
 g17:=by kernel_rfl
 g18:=by kernel_rfl
 g19:=by kernel_rfl
 i0:=by kernel_rfl
 i2:=by kernel_rfl
 i3:=by kernel_rfl
 i4:=by kernel_rfl
 i5:=by kernel_rfl
 i9:=by kernel_rfl
 i20:=by kernel_rfl
 i37:=by kernel_rfl
 i46:=by kernel_rfl
 i51:=by kernel_rfl
 i53:=by kernel_rfl
 i171:=by kernel_rfl
 i173:=by kernel_rfl
 i212:=by kernel_rfl
 i232:=by kernel_rfl
 i233:=by kernel_rfl
 m17:=by kernel_rfl
 m18:=by kernel_rfl
 m19:=by kernel_rfl}
open Go.RowKit Go.Sort Go.Lib in
theorem Tryz.strconv_Itoa(n:Int)(h0: -9223372036854775808≤n)(h1:n≤9223372036854775807)(w:World)(htab:Lib.TabIs Tryz.prog w "internal/strconv.uint64pow10" .u64 Lib.pow10Tab):
  Calls Tryz.prog 31 #[.int .i64 n] w fun e w'=>e=.returned (.string ⟨(Lib.itoa n).toArray⟩)∧∃k os,w'=grow (w.drewN k) os:=Any.strconv_Itoa Tryz.laysM171 n h0 h1 w htab
def Tryz.lays105_ren:Go.Shelf.Ren:=⟨fun|105=>65|212=>110|99=>100|165=>111|166=>109|170=>112|169=>33|263=>133|264=>134|206=>125|240=>132|241=>135|276=>166|277=>167|n=>n,fun|9=>9|3=>3|4=>4|20=>20|0=>0|46=>139|109=>140|5=>5|72=>74|76=>137|51=>163|146=>164|53=>166|148=>167|70=>71|37=>72|75=>136|127=>111|164=>181|80=>80|n=>n,fun|n=>n⟩
theorem Tryz.lays105:Go.Proofs.Lays.n105 Tryz.prog Tryz.lays105_ren:= {
 mixed:=by kernel_rfl
 f99:=Tryz.func100.trans (congrArg some (by kernel_rfl))
 f105:=Tryz.func65.trans (congrArg some (by kernel_rfl))
 f165:=Tryz.func111.trans (congrArg some (by kernel_rfl))
 f166:=Tryz.func109.trans (congrArg some (by kernel_rfl))
 f169:=Tryz.func33.trans (congrArg some (by kernel_rfl))
 f170:=Tryz.func112.trans (congrArg some (by kernel_rfl))
 f206:=Tryz.func125.trans (congrArg some (by kernel_rfl))
 f212:=Tryz.func110.trans (congrArg some (by kernel_rfl))
 f240:=Tryz.func132.trans (congrArg some (by kernel_rfl))
 f241:=Tryz.func135.trans (congrArg some (by kernel_rfl))
 f263:=Tryz.func133.trans (congrArg some (by kernel_rfl))
 f264:=Tryz.func134.trans (congrArg some (by kernel_rfl))
 f276:=Tryz.func166.trans (congrArg some (by kernel_rfl))
 f277:=Tryz.func167.trans (congrArg some (by kernel_rfl))
 t0:=Tryz.underlying0
 a0:=Tryz.isAgg0
 z0:=Tryz.sizeOf0
 v0:=Tryz.zeroValue0
 t3:=Tryz.underlying3
 a3:=Tryz.isAgg3
 z3:=Tryz.sizeOf3
 v3:=Tryz.zeroValue3
 t4:=Tryz.underlying4
 a4:=Tryz.isAgg4
 z4:=Tryz.sizeOf4
 v4:=Tryz.zeroValue4
 t5:=Tryz.underlying5
 a5:=Tryz.isAgg5
 z5:=Tryz.sizeOf5
 v5:=Tryz.zeroValue5
 t9:=Tryz.underlying9
 a9:=Tryz.isAgg9
 z9:=Tryz.sizeOf9
 v9:=Tryz.zeroValue9
 t20:=Tryz.underlying20
 a20:=Tryz.isAgg20
 z20:=Tryz.sizeOf20
 v20:=Tryz.zeroValue20
 t37:=Tryz.underlying72
 a37:=Tryz.isAgg72
 z37:=Tryz.sizeOf72
 v37:=Tryz.zeroValue72
 t46:=Tryz.underlying139
 a46:=Tryz.isAgg139
 z46:=Tryz.sizeOf139
 v46:=Tryz.zeroValue139
 t51:=Tryz.underlying163
 a51:=Tryz.isAgg163
 z51:=Tryz.sizeOf163
 v51:=Tryz.zeroValue163
 t53:=Tryz.underlying166
 a53:=Tryz.isAgg166
 z53:=Tryz.sizeOf166
 v53:=Tryz.zeroValue166
 t70:=Tryz.underlying71
 a70:=Tryz.isAgg71
 z70:=Tryz.sizeOf71
 v70:=Tryz.zeroValue71
 t72:=Tryz.underlying74
 a72:=Tryz.isAgg74
 z72:=Tryz.sizeOf74
 v72:=Tryz.zeroValue74
 t75:=Tryz.underlying136
 a75:=Tryz.isAgg136
 z75:=Tryz.sizeOf136
 v75:=Tryz.zeroValue136
 t76:=Tryz.underlying137
 a76:=Tryz.isAgg137
 z76:=Tryz.sizeOf137
 v76:=Tryz.zeroValue137
 t109:=Tryz.underlying140
 a109:=Tryz.isAgg140
 z109:=Tryz.sizeOf140
 v109:=Tryz.zeroValue140
 t127:=Tryz.underlying111
 a127:=Tryz.isAgg111
 z127:=Tryz.sizeOf111
 v127:=Tryz.zeroValue111
 t146:=Tryz.underlying164
 a146:=Tryz.isAgg164
 z146:=Tryz.sizeOf164
 v146:=Tryz.zeroValue164
 t148:=Tryz.underlying167
 a148:=Tryz.isAgg167
 z148:=Tryz.sizeOf167
 v148:=Tryz.zeroValue167
 t164:=Tryz.underlying181
 a164:=Tryz.isAgg181
 z164:=Tryz.sizeOf181
 v164:=Tryz.zeroValue181}
theorem Tryz.Builder_Extra_105:Builder.Extra Tryz.prog Tryz.lays105_ren:= {
 sizeBuilder:=by kernel_rfl
 liesBuilder:=by kernel_rfl
 t5:=Tryz.underlying5
 a5:=Tryz.isAgg5
 z5:=Tryz.sizeOf5
 v5:=Tryz.zeroValue5
 infoByte:=by kernel_rfl
 cellsByte:=by kernel_rfl
 sizeByte:=by kernel_rfl
 neB5:=by decide}
open Go.RowKit Go.Lib in
theorem Tryz.strings_Repeat(s:ByteArray)(c:Nat)(w:World)(hc:c≤9223372036854775807)(hlen:s.size*c≤140737488355328):
  Calls Tryz.prog 65 #[.string s,.int .i64 c] w fun e w'=>e=.returned (.string ⟨(Lib.repeatL s.data.toList c).toArray⟩)∧Below w.heap.size w w':=Any.strings_Repeat Tryz.lays105 Tryz.Builder_Extra_105 s c w hc hlen
end Go.Proofs
namespace Go.Proofs.YtfhbinbjkpfedaaGreatDoor
open Go.RowKit Go.Proofs.Tryz
set_option maxHeartbeats 20000000
set_option maxRecDepth 100000
open Go.Lib renaming hid→Za
open PFr renaming alloc→Zb,of_below→Zf
open List renaming getElem_cons_zero→Zc,getElem_cons_succ→Zd,all_eq_true→Zj,getElem?_eq_getElem→Zk
open Go.Proofs.Tryz renaming prog→Ze,func52→Zg,ntmps52→Zh
open Bool renaming and_eq_true→Zi
def Da(w:World):Prop:=Lib.TabIs Ze w "internal/strconv.uint64pow10" .u64 Lib.pow10Tab
theorem Da.keep {w w':World}(h:Da w)(hb:w'.heap[3]? =w.heap[3]?):Da w':=by
 have hg:Tryz.prog.globalNamed "internal/strconv.uint64pow10" =some 3:=by kernel_rfl
 unfold Da Lib.TabIs World.var? at*;simp only[hg,Option.bind_eq_bind,Option.bind_some]at*;rw[hb];exact h
theorem Ws(n:Int)(h:I64 n)(w:World)(ht:Da w):
  Calls Ze 31 #[.int .i64 n] w fun e w'=>e=.returned (.string (Aa (Lib.itoa n)))∧Below w.heap.size w w':=by
 refine(Tryz.strconv_Itoa n h.1 h.2 w ht).mono ?_;rintro e w' ⟨rfl,k,os,rfl⟩;exact⟨rfl,rfl,rfl,rfl,by simp,fun i hi=>by simp [Sort.grow,World.drewN,Array.getElem?_append_left hi]⟩
def Fq(e:Ex):Prop:= ∀(b:Nat) (bs:Bs) (t:Int) (s:Value) (w:World),3<b→Da w→Bt w b bs t→Aj (· <b) w e.args s→I64 e.n→Bb e=true→Ci (bs.length+(Ae e).length)→
 Calls Ze 52 #[.pointer (some ⟨b,0,none⟩),exV e s] w (Hw w b bs t (Ae e))
theorem Da.fr {w w':World}{b:Nat}{bs:Bs}{t:Int}(h:Da w)(hf:PFr b w w')(hp:Bt w b bs t)(hb:3<b):Da w':=h.keep ((hf.below hp).block _ hb)
theorem Qy(e:Ex)(ih:Fq e)(level:Int)(b:Nat)(bs:Bs)(t:Int)(s:Value)(w:World)(hb:3<b)(ht:Da w)(hp:Bt w b bs t)(hs:Aj (· <b) w e.args s)(hn:I64 e.n)(hw:Bb e=true)(hf:Ci (bs.length+(Bh e level).length)):
  Calls Ze 86 #[.pointer (some ⟨b,0,none⟩),exV e s,.int .i64 level] w (Hw w b bs t (Bh e level)):=by
 have IH:=Za ih;have HT:=Za ht;have HP:=Za hp;have HN:=Za hn;have HW:=Za hw;have HF:=Za hf;obtain⟨sa,sc,rfl⟩:=hs.shape;have HS:=Za hs;clear ih ht hs hn hw hf;have hlt:=hp.lt;have hp1:=Za (hp.alloc (.cells #[.int .i64 e.kind,.int .i64 e.op,.int .i64 e.n,.string (Aa e.name),.slice sa e.args.length sc] 31));have hf1:=Za (Zb hp (.cells #[.int .i64 e.kind,.int .i64 e.op,.int .i64 e.n,.string (Aa e.name),.slice sa e.args.length sc] 31));have hl1:=Za (Loc.new hp [.int .i64 e.kind,.int .i64 e.op,.int .i64 e.n,.string (Aa e.name),.slice sa e.args.length sc] 31);clear hp
 by_cases h4:e.kind=4
 ·have k4:(e.kind==4)=true:=by simpa using h4
  by_cases hl:Au e.op<level
  ·have E:Hid (Bh e level=[40]++(Ae e++[41])):=by show _=_;simp [Bh,Cn,h4,hl]
   rw[E.out]at HF ⊢;clear h4;go_enter func86,ntmps86
   go_wp2_with fail
   refine(Lw e.op _).mono ?_;rintro r w2 ⟨rfl,hb2⟩;have hf2:=Zf hb2 hp1.out.lt;have HP2:=Za (hp1.out.old hb2);have HF2:=Za (hf1.out.trans hf2);have HL2:=Za (hl1.out.step hf2);clear hb2 hf2 hp1 hf1 hl1;go_wp2_with fail
   refine(Nh [40] _ _ b bs t w2 rfl HP2.o (HF.o.mono (by simp))).mono ?_;rintro r w3 ⟨rfl,hp3,hf3⟩;have HP3:=Za hp3;have HF3:=Za (HF2.o.trans hf3);have HL3:=Za (HL2.o.step hf3);clear hp3 hf3 HP2 HF2 HL2;have c0:=HL3.o.cell 0 (by simp);have c1:=HL3.o.cell 1 (by simp);have c2:=HL3.o.cell 2 (by simp);have c3:=HL3.o.cell 3 (by simp);have c4:=HL3.o.cell 4 (by simp);simp only[Zc,Zd]at c0 c1 c2 c3 c4;go_wp2_with fail
   refine(IH.out b (bs++[40]) t _ w3 hb (HT.o.fr HF3.o HP.o hb) HP3.o (HS.o.keep (HF3.o.keeps HP.o)) HN.o HW.o (HF.o.mono (by simp;omega))).mono ?_;rintro r w4 ⟨rfl,hp4,hf4⟩;have HP4:=Za hp4;have HF4:=Za (HF3.o.trans hf4);clear hp4 hf4 c0 c1 c2 c3 c4;go_wp2_with fail
   refine(Nh [41] _ _ b _ t w4 rfl HP4.o (HF.o.mono (by simp;omega))).mono ?_;rintro r w5 ⟨rfl,hp5,hf5⟩;go_wp2_with fail
   go_end0
   exact⟨rfl,by simpa using hp5,HF4.o.trans hf5⟩
  ·have hl':level≤Au e.op:=by omega
   have E:Hid (Bh e level=Ae e):=by show _=_;simp [Bh,Cn,hl]
   rw[E.out]at HF ⊢;clear h4;go_enter func86,ntmps86
   go_wp2_with fail
   refine(Lw e.op _).mono ?_;rintro r w2 ⟨rfl,hb2⟩;have hf2:=Zf hb2 hp1.out.lt;have HP2:=Za (hp1.out.old hb2);have HF2:=Za (hf1.out.trans hf2);have HL2:=Za (hl1.out.step hf2);clear hb2 hf2 hp1 hf1 hl1;have c0:=HL2.o.cell 0 (by simp);have c1:=HL2.o.cell 1 (by simp);have c2:=HL2.o.cell 2 (by simp);have c3:=HL2.o.cell 3 (by simp);have c4:=HL2.o.cell 4 (by simp);simp only[Zc,Zd]at c0 c1 c2 c3 c4;go_wp2_with fail
   refine(IH.out b bs t _ w2 hb (HT.o.fr HF2.o HP.o hb) HP2.o (HS.o.keep (HF2.o.keeps HP.o)) HN.o HW.o HF.o).mono ?_;rintro r w4 ⟨rfl,hp4,hf4⟩;have HP4:=Za hp4;have HF4:=Za (HF2.o.trans hf4);clear hp4 hf4 c0 c1 c2 c3 c4;go_wp2_with fail
   go_end0
   exact⟨rfl,HP4.o,HF4.o⟩
 ·have k4:(e.kind==4)=false:=by simpa using h4
  have E:Hid (Bh e level=Ae e):=by show _=_;simp [Bh,Cn,h4]
  rw[E.out]at HF ⊢;clear h4;go_enter func86,ntmps86
  go_wp2_with fail
  refine(IH.out b bs t _ _ hb (HT.o.fr hf1.out HP.o hb) hp1.out (HS.o.keep (hf1.out.keeps HP.o)) HN.o HW.o HF.o).mono ?_;rintro r w4 ⟨rfl,hp4,hf4⟩;have HP4:=Za hp4;have HF4:=Za (hf1.out.trans hf4);clear hp4 hf4;go_wp2_with fail
  go_end0
  exact⟨rfl,HP4.o,HF4.o⟩
theorem cG(a c:List Bs):(Ba a).length≤(Ba (a++c)).length:=by
 cases a with
 |nil=>simp [Ba]
 |cons x l=>simp [Ba]
theorem Kt(ts:List Bs)(k:Nat):(Ba (ts.take k)).length≤(Ba ts).length:=by
 have:=cG (ts.take k) (ts.drop k)
 rwa[List.take_append_drop]at this
theorem Ss(l:List Ex)(k:Nat)(h:k<l.length):(l.take (k+1)).map Ae=(l.take k).map Ae++[Ae (Ao l k)]:=by
 rw[List.take_succ_eq_append_getElem h,List.map_append,List.map_cons,List.map_nil,Ld h]
theorem jS(l:List Ex)(ih:∀x,x∈l→Fq x)(b:Nat)(bs:Bs)(t:Int)(s:Value)(w:World)(hb:3<b)(ht:Da w)(hp:Bt w b bs t)(hs:Aj (· <b) w l s)(hw:∀x,x∈l→Bb x=true)(hf:Ci (bs.length+(Ba (l.map Ae)).length)):
  Calls Ze 88 #[.pointer (some ⟨b,0,none⟩),s,.func (.func 52) #[.pointer (some ⟨b,0,none⟩)] #[]] w (Hw w b bs t (Ba (l.map Ae))):=by
 have IH:=Za ih;have HT:=Za ht;have HP:=Za hp;have HW:=Za hw;have HF:=Za hf;obtain⟨sa,sc,rfl⟩:=hs.shape;have hl63:=hs.fits.lt;have HS:=Za hs;clear ih ht hs hw hf hp;go_enter func88,ntmps88
 go_wp2_with fail
 go_loopw [6,7,10] (fun _ _ s10 wr=> ∃k:Nat,k≤l.length∧s10=.int .i64 k∧Bt wr b (bs++Ba ((l.take k).map Ae)) t∧PFr b w wr) (fun _ _ s10 _=>l.length-(intOf s10).toNat)
 case atStart=>exact⟨0,Nat.zero_le _,rfl,by simpa [Ba]using HP.o,PFr.refl _ _⟩
 case round=>
  obtain⟨k,hk,rfl,hpk,hfr⟩:=hrel;have HPK:=Za hpk;have HFR:=Za hfr;have hbl:=hpk.lt;clear hpk hfr
  by_cases hlt:k<l.length
  ·obtain⟨eb,off,es,rfl,hD,c0,c1,c2,c3,c4,hes,hn⟩:=(HS.o.keep (HFR.o.keeps HP.o)).cellAt k hlt
   obtain⟨ea,ec,rfl⟩:=hes.shape;have HES:=Za hes;have HN:=Za hn;have IHX:=Za (IH.out _ (Bf hlt));have HWX:=Za (HW.o _ (Bf hlt));have hmap:=Za (Ss l k hlt);have hle:=Za (Kt (l.map Ae) (k+1));rw[←List.map_take,hmap.out,Gr]at hle;clear hes hn hD;generalize Ao l k=e at c0 c1 c2 c3 c4 HES HN IHX HWX hmap hle;have hp1:=Za (HPK.o.alloc (.cells #[.int .i64 e.kind,.int .i64 e.op,.int .i64 e.n,.string (Aa e.name),.slice ea e.args.length ec] 31));have hf1:=Za (HFR.o.trans (Zb HPK.o (.cells #[.int .i64 e.kind,.int .i64 e.op,.int .i64 e.n,.string (Aa e.name),.slice ea e.args.length ec] 31)));have hl1:=Za (Loc.new HPK.o [.int .i64 e.kind,.int .i64 e.op,.int .i64 e.n,.string (Aa e.name),.slice ea e.args.length ec] 31);have hebl:eb<wr.heap.size:=World.block_lt_of_cell? _ _ c0
   by_cases hk0:k=0
   ·have hk0':(k:Int)≤0:=by omega
    have hnil:(l.take k).map Ae=[]:=by rw[hk0];simp
    rw[if_pos hnil]at hle;have HK0:=Za hk0;have HNIL:=Za hnil;have hle':Hid (Ci ((bs++Ba ((l.take k).map Ae)).length+(Ae e).length)):=HF.o.mono (by have:=hle.out;rw[HNIL.o];simp [Ba];exact this);have hnext:Hid (Ba ((l.take (k+1)).map Ae)=Ba ((l.take k).map Ae)++Ae e):=by show _=_;rw[hmap.out,HNIL.o];simp [Ba]
    clear hk0 hnil;go_wp2_with fail
    refine(IHX.out b _ t _ _ hb (HT.o.fr hf1.out HP.o hb) hp1.out (HES.o.keep ((Zb HPK.o _).keeps HPK.o)) HN.o HWX.o hle'.out).mono ?_;rintro r w3 ⟨rfl,hp3,hf3⟩;have HP3:=Za hp3;have HF3:=Za (hf1.out.trans hf3);clear hp3 hf3 c0 c1 c2 c3 c4;go_wp2_with fail
    go_roundw
    case rel=>exact⟨k+1,by omega,by go_num,by have q:=HP3.o;rw[hnext.out];simpa using q,HF3.o⟩
    case measure=>simp [intOf];omega
   ·have hk1:(0:Int)<k:=by omega
    have hne:Hid ((l.take k).map Ae≠[]):=by
     intro h;rw[List.map_eq_nil_iff,List.take_eq_nil_iff]at h;rcases h with h|h
     ·exact hk0 h
     ·rw[h]at hlt;simp at hlt
    have hle2:Hid (Ci ((bs++Ba ((l.take k).map Ae)).length+([44,32]:Bs).length+(Ae e).length)):=HF.o.mono (by have:=hle.out;rw[if_neg hne.out]at this;simp at this;simp;omega);have hnext:Hid (Ba ((l.take (k+1)).map Ae)=Ba ((l.take k).map Ae)++[44,32]++Ae e):=by show _=_;rw[hmap.out,Gr,if_neg hne.out]
    clear hk0;go_wp2_with fail
    refine(Nh [44,32] _ _ b _ t _ (by simp) hp1.out (hle2.out.mono (by omega))).mono ?_;rintro r w2 ⟨rfl,hp2,hf2⟩;have HP2:=Za hp2;have HF2:=Za (hf1.out.trans hf2);have HL2:=Za (hl1.out.step hf2);have HES2:=Za (HES.o.keep (((Zb HPK.o _).trans hf2).keeps HPK.o));clear hp2 hf2 c0 c1 c2 c3 c4;have c0:=HL2.o.cell 0 (by simp);have c1:=HL2.o.cell 1 (by simp);have c2:=HL2.o.cell 2 (by simp);have c3:=HL2.o.cell 3 (by simp);have c4:=HL2.o.cell 4 (by simp);simp only[Zc,Zd]at c0 c1 c2 c3 c4;go_wp2_with fail
    refine(IHX.out b _ t _ _ hb (HT.o.fr HF2.o HP.o hb) HP2.o HES2.o HN.o HWX.o (hle2.out.mono (by simp;omega))).mono ?_;rintro r w3 ⟨rfl,hp3,hf3⟩;have HP3:=Za hp3;have HF3:=Za (HF2.o.trans hf3);clear hp3 hf3 c0 c1 c2 c3 c4;go_wp2_with fail
    go_roundw
    case rel=>exact⟨k+1,by omega,by go_num,by have q:=HP3.o;rw[hnext.out];simpa using q,HF3.o⟩
    case measure=>simp [intOf];omega
  ·go_wp2_with fail
   go_end0
   exact⟨rfl,by have e:l.take k=l:=List.take_of_length_le (by omega);have q:=HPK.o;rwa[e]at q,HFR.o⟩
theorem Cc {e:Ex}(h:Bb e=true):Bw e=true∧∀x,x∈e.args→Bb x=true:=by
 rw[Hf,Zi,Zj]at h;exact h
theorem Sn(o:Int):0≤Au o∧Au o≤8:=by
 unfold Au;repeat' split
 all_goals omega
theorem Kd {e:Ex}(h:Bw e=true):e.kind=1∨e.kind=2∨e.kind=3∨e.kind=4∨e.kind=5∨e.kind=6∨e.kind=7:=by
 have hk:Du e=true:=by unfold Bw at h;simp only[Zi]at h;exact h.1.1.1.1
 unfold Du at hk
 by_cases h1:e.kind=1; · simp [h1]
 by_cases h2:e.kind=2; · simp [h2]
 by_cases h3:e.kind=3; · simp [h3]
 by_cases h4:e.kind=4; · simp [h4]
 by_cases h5:e.kind=5; · simp [h5]
 by_cases h6:e.kind=6; · simp [h6]
 simp [h1,h2,h3,h4,h5,h6]at hk;simp [hk]
theorem expr_1(o n:Int)(nm:Bs)(args:List Ex)(ih:∀x,x∈args→Fq x):Fq (.mk 1 o n nm args):=by
 intro b bs t s w hb ht hp hs hn hw hf;have hs:Aj (· <b) w args s:=hs;have hn:I64 n:=hn;have hwh:=(Cc hw).1;have hwa:∀x,x∈args→Bb x=true:=(Cc hw).2;obtain⟨sa,sc,rfl⟩:=hs.shape;have E:Hid (Ae (.mk 1 o n nm args)=Lib.itoa n):=by exact Lc o n nm args
 rw[E.out]at hf ⊢;show Calls _ _ #[.pointer (some ⟨b,0,none⟩),.agg #[.int .i64 1,.int .i64 o,.int .i64 n,.string (Aa nm),.slice sa args.length sc]] _ _
 have IH:=Za ih;have HT:=Za ht;have HP:=Za hp;have HN:=Za hn;have HF:=Za hf;have HS:=Za hs;have HWA:=Za hwa;have hp1:=Za (hp.alloc (.cells #[.int .i64 1,.int .i64 o,.int .i64 n,.string (Aa nm),.slice sa args.length sc] 31));have hf1:=Za (Zb hp (.cells #[.int .i64 1,.int .i64 o,.int .i64 n,.string (Aa nm),.slice sa args.length sc] 31));have hl1:=Za (Loc.new hp [.int .i64 1,.int .i64 o,.int .i64 n,.string (Aa nm),.slice sa args.length sc] 31);clear ih ht hp hs hw hf hn hwh hwa;go_enter Zg,Zh
 go_wp2_with fail
 refine(It o _).mono ?_;rintro r w2 ⟨rfl,hb2⟩;have hf2:=Zf hb2 hp1.out.lt;have HP2:=Za (hp1.out.old hb2);have HF2:=Za (hf1.out.trans hf2);have HL2:=Za (hl1.out.step hf2);clear hb2 hf2 hp1 hf1 hl1;have c0:=HL2.o.cell 0 (by simp);have c1:=HL2.o.cell 1 (by simp);have c2:=HL2.o.cell 2 (by simp);have c3:=HL2.o.cell 3 (by simp);have c4:=HL2.o.cell 4 (by simp);simp only[Zc,Zd]at c0 c1 c2 c3 c4;go_wp2_with fail
 refine(Ws n HN.o w2 (HT.o.fr HF2.o HP.o hb)).mono ?_;rintro r w3 ⟨rfl,hb3⟩;have hf3:=Zf hb3 HP2.o.lt;have HP3:=Za (HP2.o.old hb3);have HF3:=Za (HF2.o.trans hf3);have HL3:=Za (HL2.o.step hf3);clear hb3 hf3;go_wp2_with fail
 refine(Nh (Lib.itoa n) _ _ b _ t w3 rfl HP3.o (HF.o.mono (by simp;try omega))).mono ?_;rintro r w4 ⟨rfl,hp4,hf4⟩;have HP4:=Za hp4;have HF4:=Za (HF3.o.trans hf4);have HL4:=Za (HL3.o.step hf4);clear hp4 hf4 c0 c1 c2 c3 c4;go_wp2_with fail
 go_end0
 exact⟨rfl,by simpa using HP4.o,HF4.o⟩
theorem expr_2(o n:Int)(nm:Bs)(args:List Ex)(ih:∀x,x∈args→Fq x):Fq (.mk 2 o n nm args):=by
 intro b bs t s w hb ht hp hs hn hw hf;have hs:Aj (· <b) w args s:=hs;have hn:I64 n:=hn;have hwh:=(Cc hw).1;have hwa:∀x,x∈args→Bb x=true:=(Cc hw).2;obtain⟨sa,sc,rfl⟩:=hs.shape;have E:Hid (Ae (.mk 2 o n nm args)=nm):=by exact Jr o n nm args
 rw[E.out]at hf ⊢;show Calls _ _ #[.pointer (some ⟨b,0,none⟩),.agg #[.int .i64 2,.int .i64 o,.int .i64 n,.string (Aa nm),.slice sa args.length sc]] _ _
 have IH:=Za ih;have HT:=Za ht;have HP:=Za hp;have HN:=Za hn;have HF:=Za hf;have HS:=Za hs;have HWA:=Za hwa;have hp1:=Za (hp.alloc (.cells #[.int .i64 2,.int .i64 o,.int .i64 n,.string (Aa nm),.slice sa args.length sc] 31));have hf1:=Za (Zb hp (.cells #[.int .i64 2,.int .i64 o,.int .i64 n,.string (Aa nm),.slice sa args.length sc] 31));have hl1:=Za (Loc.new hp [.int .i64 2,.int .i64 o,.int .i64 n,.string (Aa nm),.slice sa args.length sc] 31);clear ih ht hp hs hw hf hn hwh hwa;go_enter Zg,Zh
 go_wp2_with fail
 refine(It o _).mono ?_;rintro r w2 ⟨rfl,hb2⟩;have hf2:=Zf hb2 hp1.out.lt;have HP2:=Za (hp1.out.old hb2);have HF2:=Za (hf1.out.trans hf2);have HL2:=Za (hl1.out.step hf2);clear hb2 hf2 hp1 hf1 hl1;have c0:=HL2.o.cell 0 (by simp);have c1:=HL2.o.cell 1 (by simp);have c2:=HL2.o.cell 2 (by simp);have c3:=HL2.o.cell 3 (by simp);have c4:=HL2.o.cell 4 (by simp);simp only[Zc,Zd]at c0 c1 c2 c3 c4;go_wp2_with fail
 refine(Nh nm _ _ b _ t w2 rfl HP2.o (HF.o.mono (by simp;try omega))).mono ?_;rintro r w3 ⟨rfl,hp3,hf3⟩;have HP3:=Za hp3;have HF3:=Za (HF2.o.trans hf3);have HL3:=Za (HL2.o.step hf3);clear hp3 hf3 c0 c1 c2 c3 c4;go_wp2_with fail
 go_end0
 exact⟨rfl,by simpa using HP3.o,HF3.o⟩
theorem expr_7(o n:Int)(nm:Bs)(args:List Ex)(ih:∀x,x∈args→Fq x):Fq (.mk 7 o n nm args):=by
 intro b bs t s w hb ht hp hs hn hw hf;have hs:Aj (· <b) w args s:=hs;have hn:I64 n:=hn;have hwh:=(Cc hw).1;have hwa:∀x,x∈args→Bb x=true:=(Cc hw).2;obtain⟨sa,sc,rfl⟩:=hs.shape;have E:Hid (Ae (.mk 7 o n nm args)=[114,101,97,100,40,41]):=by exact Ju o n nm args
 rw[E.out]at hf ⊢;show Calls _ _ #[.pointer (some ⟨b,0,none⟩),.agg #[.int .i64 7,.int .i64 o,.int .i64 n,.string (Aa nm),.slice sa args.length sc]] _ _
 have IH:=Za ih;have HT:=Za ht;have HP:=Za hp;have HN:=Za hn;have HF:=Za hf;have HS:=Za hs;have HWA:=Za hwa;have hp1:=Za (hp.alloc (.cells #[.int .i64 7,.int .i64 o,.int .i64 n,.string (Aa nm),.slice sa args.length sc] 31));have hf1:=Za (Zb hp (.cells #[.int .i64 7,.int .i64 o,.int .i64 n,.string (Aa nm),.slice sa args.length sc] 31));have hl1:=Za (Loc.new hp [.int .i64 7,.int .i64 o,.int .i64 n,.string (Aa nm),.slice sa args.length sc] 31);clear ih ht hp hs hw hf hn hwh hwa;go_enter Zg,Zh
 go_wp2_with fail
 refine(It o _).mono ?_;rintro r w2 ⟨rfl,hb2⟩;have hf2:=Zf hb2 hp1.out.lt;have HP2:=Za (hp1.out.old hb2);have HF2:=Za (hf1.out.trans hf2);have HL2:=Za (hl1.out.step hf2);clear hb2 hf2 hp1 hf1 hl1;have c0:=HL2.o.cell 0 (by simp);have c1:=HL2.o.cell 1 (by simp);have c2:=HL2.o.cell 2 (by simp);have c3:=HL2.o.cell 3 (by simp);have c4:=HL2.o.cell 4 (by simp);simp only[Zc,Zd]at c0 c1 c2 c3 c4;go_wp2_with fail
 refine(Nh [114,101,97,100,40,41] _ _ b _ t w2 rfl HP2.o (HF.o.mono (by simp;try omega))).mono ?_;rintro r w3 ⟨rfl,hp3,hf3⟩;have HP3:=Za hp3;have HF3:=Za (HF2.o.trans hf3);have HL3:=Za (HL2.o.step hf3);clear hp3 hf3 c0 c1 c2 c3 c4;go_wp2_with fail
 go_end0
 exact⟨rfl,by simpa using HP3.o,HF3.o⟩
theorem expr_3(o n:Int)(nm:Bs)(args:List Ex)(ih:∀x,x∈args→Fq x):Fq (.mk 3 o n nm args):=by
 intro b bs t s w hb ht hp hs hn hw hf;have hs:Aj (· <b) w args s:=hs;have hn:I64 n:=hn;have hwh:=(Cc hw).1;have hwa:∀x,x∈args→Bb x=true:=(Cc hw).2;obtain⟨sa,sc,rfl⟩:=hs.shape;have hlen:args.length=1:=by have q:=hwh;simp [Bw,Ca,Ex.kind,Ex.args]at q;omega
 have hl0:0<args.length:=by omega
 obtain⟨eb,off,_,rfl,_⟩:=hs.cellAt 0 (by omega);clear hlen;have E:Hid (Ae (.mk 3 o n nm args)=Ck o++Bh (Ao args 0) 9):=by exact Jc o n nm args hl0
 rw[E.out]at hf ⊢;show Calls _ _ #[.pointer (some ⟨b,0,none⟩),.agg #[.int .i64 3,.int .i64 o,.int .i64 n,.string (Aa nm),.slice (some ⟨eb,off,none⟩) args.length sc]] _ _
 have IH:=Za ih;have HT:=Za ht;have HP:=Za hp;have HN:=Za hn;have HF:=Za hf;have HS:=Za hs;have HWA:=Za hwa;have hp1:=Za (hp.alloc (.cells #[.int .i64 3,.int .i64 o,.int .i64 n,.string (Aa nm),.slice (some ⟨eb,off,none⟩) args.length sc] 31));have hf1:=Za (Zb hp (.cells #[.int .i64 3,.int .i64 o,.int .i64 n,.string (Aa nm),.slice (some ⟨eb,off,none⟩) args.length sc] 31));have hl1:=Za (Loc.new hp [.int .i64 3,.int .i64 o,.int .i64 n,.string (Aa nm),.slice (some ⟨eb,off,none⟩) args.length sc] 31);clear ih ht hp hs hw hf hn hwh hwa;go_enter Zg,Zh
 go_wp2_with fail
 refine(It o _).mono ?_;rintro r w2 ⟨rfl,hb2⟩;have hf2:=Zf hb2 hp1.out.lt;have HP2:=Za (hp1.out.old hb2);have HF2:=Za (hf1.out.trans hf2);have HL2:=Za (hl1.out.step hf2);clear hb2 hf2 hp1 hf1 hl1;have c0:=HL2.o.cell 0 (by simp);have c1:=HL2.o.cell 1 (by simp);have c2:=HL2.o.cell 2 (by simp);have c3:=HL2.o.cell 3 (by simp);have c4:=HL2.o.cell 4 (by simp);simp only[Zc,Zd]at c0 c1 c2 c3 c4;go_wp2_with fail
 refine(Nh (Ck o) _ _ b _ t w2 rfl HP2.o (HF.o.mono (by simp;try omega))).mono ?_;rintro r w3 ⟨rfl,hp3,hf3⟩;have HP3:=Za hp3;have HF3:=Za (HF2.o.trans hf3);have HL3:=Za (HL2.o.step hf3);clear hp3 hf3 c0 c1 c2 c3 c4;have c0:=HL3.o.cell 0 (by simp);have c1:=HL3.o.cell 1 (by simp);have c2:=HL3.o.cell 2 (by simp);have c3:=HL3.o.cell 3 (by simp);have c4:=HL3.o.cell 4 (by simp);simp only[Zc,Zd]at c0 c1 c2 c3 c4;obtain⟨eb',off',esa,heb,hDa,y0,y1,y2,y3,y4,hesa,hna⟩:=(HS.o.keep (HF3.o.keeps HP.o)).cellAt 0 (by omega);obtain⟨eaa,eca,rfl⟩:=hesa.shape;obtain⟨rfl,rfl⟩:eb=eb'∧off=off':=by cases heb;exact⟨rfl,rfl⟩
 have HESa:=Za hesa;have HNa:=Za hna;have IHXa:=Za (IH.out _ (Bf (i:=0) (by omega)));have HWXa:=Za (HWA.o _ (Bf (i:=0) (by omega)));clear heb hesa hna hDa;generalize hxa:Ao args 0=xa at y0 y1 y2 y3 y4 HESa HNa IHXa HWXa;have HXa:=Za hxa;clear hxa;have za0:w3.cell? ⟨eb,off,none⟩=some (.int .i64 xa.kind):=by simpa using y0
 have za1:w3.cell? ⟨eb,off+1,none⟩=some (.int .i64 xa.op):=by simpa using y1
 have za2:w3.cell? ⟨eb,off+2,none⟩=some (.int .i64 xa.n):=by simpa using y2
 have za3:w3.cell? ⟨eb,off+3,none⟩=some (.string (Aa xa.name)):=by simpa using y3
 have za4:w3.cell? ⟨eb,off+4,none⟩=some (.slice eaa xa.args.length eca):=by simpa using y4
 clear y0 y1 y2 y3 y4;go_wp2_with fail
 refine(Qy xa IHXa.out 9 b _ t _ w3 hb (HT.o.fr HF3.o HP.o hb) HP3.o HESa.o HNa.o HWXa.o (by have q:=HF.o;rw[HXa.o]at q;exact q.mono (by simp;try omega))).mono ?_;rintro r w4 ⟨rfl,hp4,hf4⟩;have HP4:=Za hp4;have HF4:=Za (HF3.o.trans hf4);have HL4:=Za (HL3.o.step hf4);clear hp4 hf4 c0 c1 c2 c3 c4 za0 za1 za2 za3 za4;go_wp2_with fail
 go_end0
 exact⟨rfl,by rw[HXa.o];simpa using HP4.o,HF4.o⟩
theorem expr_4(o n:Int)(nm:Bs)(args:List Ex)(ih:∀x,x∈args→Fq x):Fq (.mk 4 o n nm args):=by
 intro b bs t s w hb ht hp hs hn hw hf;have hs:Aj (· <b) w args s:=hs;have hn:I64 n:=hn;have hwh:=(Cc hw).1;have hwa:∀x,x∈args→Bb x=true:=(Cc hw).2;obtain⟨sa,sc,rfl⟩:=hs.shape;have hlen:args.length=2:=by have q:=hwh;simp [Bw,Ca,Ex.kind,Ex.args]at q;omega
 have hl0:0<args.length:=by omega
 have hl1':1<args.length:=by omega
 obtain⟨eb,off,_,rfl,_⟩:=hs.cellAt 0 (by omega);clear hlen;have E:Hid (Ae (.mk 4 o n nm args)=Bh (Ao args 0) (Au o)++([32]++(Ck o++[32]))++Bh (Ao args 1) (Au o+1)):=by exact Ja o n nm args hl1'
 rw[E.out]at hf ⊢;show Calls _ _ #[.pointer (some ⟨b,0,none⟩),.agg #[.int .i64 4,.int .i64 o,.int .i64 n,.string (Aa nm),.slice (some ⟨eb,off,none⟩) args.length sc]] _ _
 have IH:=Za ih;have HT:=Za ht;have HP:=Za hp;have HN:=Za hn;have HF:=Za hf;have HS:=Za hs;have HWA:=Za hwa;have hp1:=Za (hp.alloc (.cells #[.int .i64 4,.int .i64 o,.int .i64 n,.string (Aa nm),.slice (some ⟨eb,off,none⟩) args.length sc] 31));have hf1:=Za (Zb hp (.cells #[.int .i64 4,.int .i64 o,.int .i64 n,.string (Aa nm),.slice (some ⟨eb,off,none⟩) args.length sc] 31));have hl1:=Za (Loc.new hp [.int .i64 4,.int .i64 o,.int .i64 n,.string (Aa nm),.slice (some ⟨eb,off,none⟩) args.length sc] 31);clear ih ht hp hs hw hf hn hwh hwa;go_enter Zg,Zh
 go_wp2_with fail
 refine(It o _).mono ?_;rintro r w2 ⟨rfl,hb2⟩;have hf2:=Zf hb2 hp1.out.lt;have HP2:=Za (hp1.out.old hb2);have HF2:=Za (hf1.out.trans hf2);have HL2:=Za (hl1.out.step hf2);clear hb2 hf2 hp1 hf1 hl1;have c0:=HL2.o.cell 0 (by simp);have c1:=HL2.o.cell 1 (by simp);have c2:=HL2.o.cell 2 (by simp);have c3:=HL2.o.cell 3 (by simp);have c4:=HL2.o.cell 4 (by simp);simp only[Zc,Zd]at c0 c1 c2 c3 c4;have lb:=Sn o;go_wp2_with fail
 refine(Lw o _).mono ?_;rintro r w3 ⟨rfl,hb3⟩;have hf3:=Zf hb3 HP2.o.lt;have HP3:=Za (HP2.o.old hb3);have HF3:=Za (HF2.o.trans hf3);have HL3:=Za (HL2.o.step hf3);clear hb3 hf3 c0 c1 c2 c3 c4;have c0:=HL3.o.cell 0 (by simp);have c1:=HL3.o.cell 1 (by simp);have c2:=HL3.o.cell 2 (by simp);have c3:=HL3.o.cell 3 (by simp);have c4:=HL3.o.cell 4 (by simp);simp only[Zc,Zd]at c0 c1 c2 c3 c4;obtain⟨eb',off',esa,heb,hDa,y0,y1,y2,y3,y4,hesa,hna⟩:=(HS.o.keep (HF3.o.keeps HP.o)).cellAt 0 (by omega);obtain⟨eaa,eca,rfl⟩:=hesa.shape;obtain⟨rfl,rfl⟩:eb=eb'∧off=off':=by cases heb;exact⟨rfl,rfl⟩
 have HESa:=Za hesa;have HNa:=Za hna;have IHXa:=Za (IH.out _ (Bf (i:=0) (by omega)));have HWXa:=Za (HWA.o _ (Bf (i:=0) (by omega)));clear heb hesa hna hDa;generalize hxa:Ao args 0=xa at y0 y1 y2 y3 y4 HESa HNa IHXa HWXa;have HXa:=Za hxa;clear hxa;have za0:w3.cell? ⟨eb,off,none⟩=some (.int .i64 xa.kind):=by simpa using y0
 have za1:w3.cell? ⟨eb,off+1,none⟩=some (.int .i64 xa.op):=by simpa using y1
 have za2:w3.cell? ⟨eb,off+2,none⟩=some (.int .i64 xa.n):=by simpa using y2
 have za3:w3.cell? ⟨eb,off+3,none⟩=some (.string (Aa xa.name)):=by simpa using y3
 have za4:w3.cell? ⟨eb,off+4,none⟩=some (.slice eaa xa.args.length eca):=by simpa using y4
 clear y0 y1 y2 y3 y4;go_wp2_with fail
 refine(Qy xa IHXa.out (Au o) b _ t _ w3 hb (HT.o.fr HF3.o HP.o hb) HP3.o HESa.o HNa.o HWXa.o (by have q:=HF.o;rw[HXa.o]at q;exact q.mono (by simp;try omega))).mono ?_;rintro r w4 ⟨rfl,hp4,hf4⟩;have HP4:=Za hp4;have HF4:=Za (HF3.o.trans hf4);have HL4:=Za (HL3.o.step hf4);clear hp4 hf4 c0 c1 c2 c3 c4 za0 za1 za2 za3 za4;go_wp2_with fail
 refine(put3 [32] (Ck o) [32] _ _ b _ t w4 rfl HP4.o (by have q:=HF.o;rw[HXa.o]at q;exact q.mono (by simp;try omega))).mono ?_;rintro r w5 ⟨rfl,hp5,hf5⟩;have HP5:=Za hp5;have HF5:=Za (HF4.o.trans hf5);have HL5:=Za (HL4.o.step hf5);clear hp5 hf5;have c0:=HL5.o.cell 0 (by simp);have c1:=HL5.o.cell 1 (by simp);have c2:=HL5.o.cell 2 (by simp);have c3:=HL5.o.cell 3 (by simp);have c4:=HL5.o.cell 4 (by simp);simp only[Zc,Zd]at c0 c1 c2 c3 c4;obtain⟨eb',off',esc,heb,hDc,y0,y1,y2,y3,y4,hesc,hnc⟩:=(HS.o.keep (HF5.o.keeps HP.o)).cellAt 1 (by omega);obtain⟨eac,ecc,rfl⟩:=hesc.shape;obtain⟨rfl,rfl⟩:eb=eb'∧off=off':=by cases heb;exact⟨rfl,rfl⟩
 have HESc:=Za hesc;have HNc:=Za hnc;have IHXc:=Za (IH.out _ (Bf (i:=1) (by omega)));have HWXc:=Za (HWA.o _ (Bf (i:=1) (by omega)));clear heb hesc hnc hDc;generalize hxc:Ao args 1=xc at y0 y1 y2 y3 y4 HESc HNc IHXc HWXc;have HXc:=Za hxc;clear hxc;have zc0:w5.cell? ⟨eb,off+5,none⟩=some (.int .i64 xc.kind):=by simpa using y0
 have zc1:w5.cell? ⟨eb,off+5+1,none⟩=some (.int .i64 xc.op):=by simpa using y1
 have zc2:w5.cell? ⟨eb,off+5+2,none⟩=some (.int .i64 xc.n):=by simpa using y2
 have zc3:w5.cell? ⟨eb,off+5+3,none⟩=some (.string (Aa xc.name)):=by simpa using y3
 have zc4:w5.cell? ⟨eb,off+5+4,none⟩=some (.slice eac xc.args.length ecc):=by simpa using y4
 clear y0 y1 y2 y3 y4;go_wp2_with fail
 refine(Qy xc IHXc.out (Au o+1) b _ t _ w5 hb (HT.o.fr HF5.o HP.o hb) HP5.o HESc.o HNc.o HWXc.o (by have q:=HF.o;rw[HXa.o,HXc.o]at q;exact q.mono (by simp;try omega))).mono ?_;rintro r w6 ⟨rfl,hp6,hf6⟩;have HP6:=Za hp6;have HF6:=Za (HF5.o.trans hf6);have HL6:=Za (HL5.o.step hf6);clear hp6 hf6 c0 c1 c2 c3 c4 zc0 zc1 zc2 zc3 zc4;go_wp2_with fail
 go_end0
 exact⟨rfl,by rw[HXa.o,HXc.o];simpa using HP6.o,HF6.o⟩
theorem expr_5(o n:Int)(nm:Bs)(args:List Ex)(ih:∀x,x∈args→Fq x):Fq (.mk 5 o n nm args):=by
 intro b bs t s w hb ht hp hs hn hw hf;have hs:Aj (· <b) w args s:=hs;have hn:I64 n:=hn;have hwh:=(Cc hw).1;have hwa:∀x,x∈args→Bb x=true:=(Cc hw).2;obtain⟨sa,sc,rfl⟩:=hs.shape;have E:Hid (Ae (.mk 5 o n nm args)=nm++[40]++Ba (args.map Ae)++[41]):=by exact Iu o n nm args
 rw[E.out]at hf ⊢;show Calls _ _ #[.pointer (some ⟨b,0,none⟩),.agg #[.int .i64 5,.int .i64 o,.int .i64 n,.string (Aa nm),.slice sa args.length sc]] _ _
 have IH:=Za ih;have HT:=Za ht;have HP:=Za hp;have HN:=Za hn;have HF:=Za hf;have HS:=Za hs;have HWA:=Za hwa;have hp1:=Za (hp.alloc (.cells #[.int .i64 5,.int .i64 o,.int .i64 n,.string (Aa nm),.slice sa args.length sc] 31));have hf1:=Za (Zb hp (.cells #[.int .i64 5,.int .i64 o,.int .i64 n,.string (Aa nm),.slice sa args.length sc] 31));have hl1:=Za (Loc.new hp [.int .i64 5,.int .i64 o,.int .i64 n,.string (Aa nm),.slice sa args.length sc] 31);clear ih ht hp hs hw hf hn hwh hwa;go_enter Zg,Zh
 go_wp2_with fail
 refine(It o _).mono ?_;rintro r w2 ⟨rfl,hb2⟩;have hf2:=Zf hb2 hp1.out.lt;have HP2:=Za (hp1.out.old hb2);have HF2:=Za (hf1.out.trans hf2);have HL2:=Za (hl1.out.step hf2);clear hb2 hf2 hp1 hf1 hl1;have c0:=HL2.o.cell 0 (by simp);have c1:=HL2.o.cell 1 (by simp);have c2:=HL2.o.cell 2 (by simp);have c3:=HL2.o.cell 3 (by simp);have c4:=HL2.o.cell 4 (by simp);simp only[Zc,Zd]at c0 c1 c2 c3 c4;go_wp2_with fail
 refine(put2 nm [40] _ _ b _ t w2 rfl HP2.o (HF.o.mono (by simp;try omega))).mono ?_;rintro r w3 ⟨rfl,hp3,hf3⟩;have HP3:=Za hp3;have HF3:=Za (HF2.o.trans hf3);have HL3:=Za (HL2.o.step hf3);clear hp3 hf3 c0 c1 c2 c3 c4;have c0:=HL3.o.cell 0 (by simp);have c1:=HL3.o.cell 1 (by simp);have c2:=HL3.o.cell 2 (by simp);have c3:=HL3.o.cell 3 (by simp);have c4:=HL3.o.cell 4 (by simp);simp only[Zc,Zd]at c0 c1 c2 c3 c4;go_wp2_with fail
 refine(jS args IH.out b _ t _ w3 hb (HT.o.fr HF3.o HP.o hb) HP3.o (HS.o.keep (HF3.o.keeps HP.o)) HWA.o (HF.o.mono (by simp;try omega))).mono ?_;rintro r w4 ⟨rfl,hp4,hf4⟩;have HP4:=Za hp4;have HF4:=Za (HF3.o.trans hf4);have HL4:=Za (HL3.o.step hf4);clear hp4 hf4 c0 c1 c2 c3 c4;go_wp2_with fail
 refine(Nh [41] _ _ b _ t w4 rfl HP4.o (HF.o.mono (by simp;try omega))).mono ?_;rintro r w5 ⟨rfl,hp5,hf5⟩;have HP5:=Za hp5;have HF5:=Za (HF4.o.trans hf5);have HL5:=Za (HL4.o.step hf5);clear hp5 hf5;go_wp2_with fail
 go_end0
 exact⟨rfl,by simpa using HP5.o,HF5.o⟩
theorem expr_6(o n:Int)(nm:Bs)(args:List Ex)(ih:∀x,x∈args→Fq x):Fq (.mk 6 o n nm args):=by
 intro b bs t s w hb ht hp hs hn hw hf;have hs:Aj (· <b) w args s:=hs;have hn:I64 n:=hn;have hwh:=(Cc hw).1;have hwa:∀x,x∈args→Bb x=true:=(Cc hw).2;obtain⟨sa,sc,rfl⟩:=hs.shape;have hlen:args.length=1:=by have q:=hwh;simp [Bw,Ca,Ex.kind,Ex.args]at q;omega
 have hl0:0<args.length:=by omega
 obtain⟨eb,off,_,rfl,_⟩:=hs.cellAt 0 (by omega);clear hlen;have E:Hid (Ae (.mk 6 o n nm args)=nm++[91]++Ae (Ao args 0)++[93]):=by exact Iv o n nm args hl0
 rw[E.out]at hf ⊢;show Calls _ _ #[.pointer (some ⟨b,0,none⟩),.agg #[.int .i64 6,.int .i64 o,.int .i64 n,.string (Aa nm),.slice (some ⟨eb,off,none⟩) args.length sc]] _ _
 have IH:=Za ih;have HT:=Za ht;have HP:=Za hp;have HN:=Za hn;have HF:=Za hf;have HS:=Za hs;have HWA:=Za hwa;have hp1:=Za (hp.alloc (.cells #[.int .i64 6,.int .i64 o,.int .i64 n,.string (Aa nm),.slice (some ⟨eb,off,none⟩) args.length sc] 31));have hf1:=Za (Zb hp (.cells #[.int .i64 6,.int .i64 o,.int .i64 n,.string (Aa nm),.slice (some ⟨eb,off,none⟩) args.length sc] 31));have hl1:=Za (Loc.new hp [.int .i64 6,.int .i64 o,.int .i64 n,.string (Aa nm),.slice (some ⟨eb,off,none⟩) args.length sc] 31);clear ih ht hp hs hw hf hn hwh hwa;go_enter Zg,Zh
 go_wp2_with fail
 refine(It o _).mono ?_;rintro r w2 ⟨rfl,hb2⟩;have hf2:=Zf hb2 hp1.out.lt;have HP2:=Za (hp1.out.old hb2);have HF2:=Za (hf1.out.trans hf2);have HL2:=Za (hl1.out.step hf2);clear hb2 hf2 hp1 hf1 hl1;have c0:=HL2.o.cell 0 (by simp);have c1:=HL2.o.cell 1 (by simp);have c2:=HL2.o.cell 2 (by simp);have c3:=HL2.o.cell 3 (by simp);have c4:=HL2.o.cell 4 (by simp);simp only[Zc,Zd]at c0 c1 c2 c3 c4;go_wp2_with fail
 refine(put2 nm [91] _ _ b _ t w2 rfl HP2.o (HF.o.mono (by simp;try omega))).mono ?_;rintro r w3 ⟨rfl,hp3,hf3⟩;have HP3:=Za hp3;have HF3:=Za (HF2.o.trans hf3);have HL3:=Za (HL2.o.step hf3);clear hp3 hf3 c0 c1 c2 c3 c4;have c0:=HL3.o.cell 0 (by simp);have c1:=HL3.o.cell 1 (by simp);have c2:=HL3.o.cell 2 (by simp);have c3:=HL3.o.cell 3 (by simp);have c4:=HL3.o.cell 4 (by simp);simp only[Zc,Zd]at c0 c1 c2 c3 c4;obtain⟨eb',off',esa,heb,hDa,y0,y1,y2,y3,y4,hesa,hna⟩:=(HS.o.keep (HF3.o.keeps HP.o)).cellAt 0 (by omega);obtain⟨eaa,eca,rfl⟩:=hesa.shape;obtain⟨rfl,rfl⟩:eb=eb'∧off=off':=by cases heb;exact⟨rfl,rfl⟩
 have HESa:=Za hesa;have HNa:=Za hna;have IHXa:=Za (IH.out _ (Bf (i:=0) (by omega)));have HWXa:=Za (HWA.o _ (Bf (i:=0) (by omega)));clear heb hesa hna hDa;generalize hxa:Ao args 0=xa at y0 y1 y2 y3 y4 HESa HNa IHXa HWXa;have HXa:=Za hxa;clear hxa;have za0:w3.cell? ⟨eb,off,none⟩=some (.int .i64 xa.kind):=by simpa using y0
 have za1:w3.cell? ⟨eb,off+1,none⟩=some (.int .i64 xa.op):=by simpa using y1
 have za2:w3.cell? ⟨eb,off+2,none⟩=some (.int .i64 xa.n):=by simpa using y2
 have za3:w3.cell? ⟨eb,off+3,none⟩=some (.string (Aa xa.name)):=by simpa using y3
 have za4:w3.cell? ⟨eb,off+4,none⟩=some (.slice eaa xa.args.length eca):=by simpa using y4
 clear y0 y1 y2 y3 y4;go_wp2_with fail
 refine(IHXa.out b _ t _ w3 hb (HT.o.fr HF3.o HP.o hb) HP3.o HESa.o HNa.o HWXa.o (by have q:=HF.o;rw[HXa.o]at q;exact q.mono (by simp;try omega))).mono ?_;rintro r w4 ⟨rfl,hp4,hf4⟩;have HP4:=Za hp4;have HF4:=Za (HF3.o.trans hf4);have HL4:=Za (HL3.o.step hf4);clear hp4 hf4 c0 c1 c2 c3 c4 za0 za1 za2 za3 za4;go_wp2_with fail
 refine(Nh [93] _ _ b _ t w4 rfl HP4.o (by have q:=HF.o;rw[HXa.o]at q;exact q.mono (by simp;try omega))).mono ?_;rintro r w5 ⟨rfl,hp5,hf5⟩;have HP5:=Za hp5;have HF5:=Za (HF4.o.trans hf5);have HL5:=Za (HL4.o.step hf5);clear hp5 hf5;go_wp2_with fail
 go_end0
 exact⟨rfl,by rw[HXa.o];simpa using HP5.o,HF5.o⟩
theorem fM(e:Ex)(ih:∀x,x∈e.args→Fq x):Fq e:=by
 intro b bs t s w hb ht hp hs hn hw hf;have hk:=Kd (Cc hw).1;obtain⟨k,o,n,nm,args⟩:=e;simp only[Ex.kind]at hk;rcases hk with rfl|rfl|rfl|rfl|rfl|rfl|rfl
 ·exact expr_1 o n nm args ih b bs t s w hb ht hp hs hn hw hf
 ·exact expr_2 o n nm args ih b bs t s w hb ht hp hs hn hw hf
 ·exact expr_3 o n nm args ih b bs t s w hb ht hp hs hn hw hf
 ·exact expr_4 o n nm args ih b bs t s w hb ht hp hs hn hw hf
 ·exact expr_5 o n nm args ih b bs t s w hb ht hp hs hn hw hf
 ·exact expr_6 o n nm args ih b bs t s w hb ht hp hs hn hw hf
 ·exact expr_7 o n nm args ih b bs t s w hb ht hp hs hn hw hf
theorem Qq:∀(n:Nat) (e:Ex),SizeOf.sizeOf e≤n→Fq e
 |0,e,h=>by cases e;simp at h
 |n+1,e,h=>fM e fun x hx=>Qq n x (by have:=Ex.size_lt hx;omega)
inductive WIt where
 |s (x:Bs)
 |e (x:Ex) (v:Value)
def WIt.val:WIt→Value
 |.s x=>.iface 9 (.string (Aa x))
 |.e x v=>.iface 31 (exV x v)
def WIt.text:WIt→Bs
 |.s x=>x
 |.e x _=>Ae x
def WIt.ok(b:Nat)(w:World):WIt→Prop
 |.s _=>True
 |.e x v=>Aj (· <b) w x.args v∧I64 x.n∧Bb x=true
def Xr:WIt:=.s []
theorem WIt.ok.keep {b:Nat}{w w':World}(hk:Fe (· <b) w w'){x:WIt}(h:x.ok b w):x.ok b w':=by
 cases x with
 |s x=>trivial
 |e x v=>exact⟨h.1.keep hk,h.2⟩
def Fg(l:List WIt):Bs:=l.flatMap WIt.text
@[go_sem] theorem asExEx (v:Value) (w:World):(Instr.typeAssert (.iface 31 v) 20 31 true).run Ze w=.ok (.tuple #[v,.bool true]) w:=by kernel_rfl
@[go_sem] theorem asStEx (v:Value) (w:World):(Instr.typeAssert (.iface 9 v) 20 31 true).run Ze w=.ok (.tuple #[.agg #[.int .i64 0,.int .i64 0,.int .i64 0,.string ByteArray.empty,.slice none 0 0],.bool false]) w:=by kernel_rfl
@[go_sem] theorem asStSt (v:Value) (w:World):(Instr.typeAssert (.iface 9 v) 20 9 false).run Ze w=.ok v w:=by kernel_rfl
theorem Xn(l:List WIt)(k:Nat)(h:k<l.length):Fg (l.take (k+1))=Fg (l.take k)++(l.getD k Xr).text:=by
 unfold Fg;rw[List.take_succ_eq_append_getElem h,List.flatMap_append];simp [Zk h]
theorem Qk(l:List WIt)(k:Nat):(Fg (l.take k)).length≤(Fg l).length:=by
 have e:Fg l=Fg (l.take k)++Fg (l.drop k):=by unfold Fg;rw[←List.flatMap_append,List.take_append_drop]
 rw[e];simp
theorem fE(its:List WIt)(X cap b:Nat)(bs:Bs)(t:Int)(w:World)(hb:3<b)(ht:Da w)(hp:Bt w b bs t)(hl:Loc w b X (its.map WIt.val))(ho:∀x,x∈its→x.ok b w)(hf:Ci (bs.length+(Fg its).length))(hn:its.length≤1000):
  Calls Ze 66 #[.pointer (some ⟨b,0,none⟩),.slice (some ⟨X,0,none⟩) its.length cap] w (Hw w b bs t (Fg its)):=by
 have HP:=Za hp;have HL:=Za hl;have HF:=Za hf;have HO:=Za ho;have HT:=Za ht;clear hp hl hf ho ht;go_enter func66,ntmps66
 go_wp2_with fail
 go_loopw [5,6,7,10] (fun _ _ _ s10 wr=> ∃k:Nat,k≤its.length∧s10=.int .i64 k∧Bt wr b (bs++Fg (its.take k)) t∧PFr b w wr) (fun _ _ _ s10 _=>its.length-(intOf s10).toNat)
 case atStart=>exact⟨0,Nat.zero_le _,rfl,by simpa [Fg]using HP.o,PFr.refl _ _⟩
 case round=>
  obtain⟨k,hk,rfl,hp,hfr⟩:=hrel;have HPK:=Za hp;have HFR:=Za hfr;have hbl:=hp.lt;have HLK:=Za (HL.o.step hfr);clear hp hfr
  by_cases hlt:k<its.length
  ·have c:=HLK.o.cell k (by simpa using hlt)
   have hmem:its.getD k Xr∈its:=by rw[List.getD_eq_getElem?_getD,Zk hlt];exact List.getElem_mem hlt
   have ec:(its.map WIt.val)[k]'(by simpa using hlt)=(its.getD k Xr).val:=by simp [Zk hlt]
   rw[ec]at c;have hsp:=Za (Xn its k hlt);have hfit:Hid (Ci ((bs++Fg (its.take k)).length+((its.getD k Xr).text).length)):=by
    refine HF.o.mono ?_;have e:=Qk its (k+1);rw[hsp.out]at e;simp at e;simp;omega
   have HOK:=Za (HO.o _ hmem);clear ec hmem;generalize its.getD k Xr=x at c hsp hfit HOK
   cases x with
   |s x=>
    simp only[WIt.val,WIt.text]at c hsp hfit;go_wp2_with fail
    refine(Nh x _ _ b _ t _ (by simp) (HPK.o.alloc _) hfit.out).mono ?_;rintro r w3 ⟨rfl,hp3,hf3⟩;have HP3:=Za hp3;have HF3:=Za hf3;clear hp3 hf3;go_wp2_with fail
    go_roundw
    case rel=>exact⟨k+1,by omega,by go_num,by rw[hsp.out,←List.append_assoc];exact HP3.o,HFR.o.trans ((Zb HPK.o _).trans HF3.o)⟩
    case measure=>simp [intOf];omega
   |e e v=>
    obtain⟨hes,hn,hw⟩:=HOK.o;obtain⟨ea,ec,rfl⟩:=hes.shape;have HES:=Za hes;have HN:=Za hn;have HW:=Za hw;clear hes hn hw HOK;simp only[WIt.val,WIt.text,exV]at c hsp hfit;go_wp2_with fail
    refine(Qq _ e (Nat.le_refl _) b _ t _ _ hb (HT.o.fr (HFR.o.trans (Zb HPK.o _)) HP.o hb) (HPK.o.alloc _) (HES.o.keep ((HFR.o.trans (Zb HPK.o _)).keeps HP.o)) HN.o HW.o hfit.out).mono ?_;rintro r w3 ⟨rfl,hp3,hf3⟩;have HP3:=Za hp3;have HF3:=Za hf3;clear hp3 hf3;go_wp2_with fail
    go_roundw
    case rel=>exact⟨k+1,by omega,by go_num,by rw[hsp.out,←List.append_assoc];exact HP3.o,HFR.o.trans ((Zb HPK.o _).trans HF3.o)⟩
    case measure=>simp [intOf];omega
  ·go_wp2_with fail
   go_end0
   exact⟨rfl,by have e:its.take k=its:=List.take_of_length_le (by omega);have q:=HPK.o;rwa[e]at q,HFR.o⟩
theorem Xc(c:Nat):Lib.repeatL [9] c=Am c:=by
 induction c with
 |zero=>rfl
 |succ n ih=>simp [Lib.repeatL,Am,List.replicate_succ]at*;try exact ih
theorem Bt.tab {w:World}{b:Nat}{bs:Bs}{t:Int}(h:Bt w b bs t):w.cell? ⟨b,2,none⟩=some (.int .i64 t):=by
 obtain⟨p,v,hb,_⟩:=h;rw[Lib.cell_of_heap hb];rfl
theorem iK(its:List WIt)(X cap b:Nat)(bs:Bs)(t:Nat)(w:World)(hb:3<b)(ht:Da w)(hp:Bt w b bs t)(hl:Loc w b X (its.map WIt.val))(ho:∀x,x∈its→x.ok b w)
  (htt:t≤1000000) (hf:Ci (bs.length+(Am t++Fg its++[10]).length)) (hn:its.length≤1000):
  Calls Ze 30 #[.pointer (some ⟨b,0,none⟩),.slice (some ⟨X,0,none⟩) its.length cap] w (Hw w b bs t (Am t++Fg its++[10])):=by
 have c2:=hp.tab;have HP:=Za hp;have HL:=Za hl;have HF:=Za hf;have HO:=Za ho;have HT:=Za ht;clear hp hl hf ho ht;go_enter func30,ntmps30
 go_wp2_with fail
 refine(Tryz.strings_Repeat _ t _ (by omega) (by show 1*t≤_;omega)).mono ?_;rintro r w1 ⟨rfl,hb1⟩;have e1:((ByteArray.mk #[9]).data.toList)=[9]:=rfl;rw[e1,Xc];have HP1:=Za (HP.o.old hb1);have HF1:=Za (Zf hb1 HP.o.lt);clear hb1 c2 e1;go_wp2_with fail
 refine(Nh (Am t) _ _ b _ t w1 rfl HP1.o (HF.o.mono (by simp))).mono ?_;rintro r w2 ⟨rfl,hp2,hf2⟩;have HP2:=Za hp2;have HF2:=Za (HF1.o.trans hf2);clear hp2 hf2;go_wp2_with fail
 refine(fE its X cap b _ t w2 hb (HT.o.fr HF2.o HP.o hb) HP2.o (HL.o.step HF2.o) (fun x hx=>(HO.o x hx).keep (HF2.o.keeps HP.o)) (HF.o.mono (by simp;omega)) hn).mono ?_;rintro r w3 ⟨rfl,hp3,hf3⟩;have HP3:=Za hp3;have HF3:=Za (HF2.o.trans hf3);clear hp3 hf3;go_wp2_with fail
 refine(Nh [10] _ _ b _ t w3 rfl HP3.o (HF.o.mono (by simp;omega))).mono ?_;rintro r w4 ⟨rfl,hp4,hf4⟩;have HP4:=Za hp4;have HF4:=Za (HF3.o.trans hf4);clear hp4 hf4;go_wp2_with fail
 go_end0
 exact⟨rfl,by simpa using HP4.o,HF4.o⟩
def Xf(t:Nat)(its:List WIt):Bs:=ln t (its.map WIt.text)
theorem line_at(its:List WIt)(T:TypeId)(X b:Nat)(bs:Bs)(t:Nat)(w:World)(hX:X=w.heap.size)(hb:3<b)(ht:Da w)(hp:Bt w b bs t)(ho:∀x,x∈its→x.ok b w)
  (htt:t≤1000000) (hf:Ci (bs.length+(Xf t its).length)) (hn:its.length≤1000):
  Calls Ze 30 #[.pointer (some ⟨b,0,none⟩),.slice (some ⟨X,0,none⟩) its.length its.length] (w.alloc (.cells (its.map WIt.val).toArray T)) (Hw w b bs t (Xf t its)):=by
 subst hX;refine(iK its w.heap.size its.length b bs t _ hb (ht.fr (Zb hp _) hp hb) (hp.alloc _) (Loc.new hp (its.map WIt.val) T) (fun x hx=>(ho x hx).keep ((Zb hp _).keeps hp)) htt hf hn).mono ?_;rintro r w' ⟨rfl,h2,h3⟩;exact⟨rfl,h2,(Zb hp _).trans h3⟩
theorem Ci.left {n:Nat}{a c:Bs}(h:Ci (n+(a++c).length)):Ci (n+a.length):=h.mono (by simp only[List.length_append];omega)
theorem Ci.right {bs a c:Bs}(h:Ci (bs.length+(a++c).length)):Ci ((bs++a).length+c.length):=h.mono (by simp only[List.length_append];omega)
def Gi(b:Nat)(w:World)(l:List WIt):Prop:= ∀x,x∈l→x.ok b w
theorem Gi.nil {b:Nat}{w:World}:Gi b w []:=fun _ h=>by cases h
theorem Gi.s {b:Nat}{w:World}{x:Bs}{l:List WIt}(h:Gi b w l):Gi b w (.s x::l):=fun y hy=>by
 rcases List.mem_cons.1 hy with rfl|hy
 ·trivial
 ·exact h y hy
theorem Gi.e {b:Nat}{w:World}{x:Ex}{v:Value}{l:List WIt}(hx:Aj (· <b) w x.args v)(hn:I64 x.n)(hw:Bb x=true)(h:Gi b w l):Gi b w (.e x v::l):=fun y hy=>by
 rcases List.mem_cons.1 hy with rfl|hy
 ·exact⟨hx,hn,hw⟩
 ·exact h y hy
theorem Eo(its:List WIt)(T:TypeId)(X b:Nat)(bs:Bs)(t:Nat)(w:World)(hX:X=w.heap.size)(hb:3<b)(ht:Da w)(hp:Bt w b bs t)(ho:Gi b w its)
  (htt:t≤1000000) (hf:Ci (bs.length+(ln t (its.map WIt.text)).length)) (hn:its.length≤1000):
  Calls Ze 30 #[.pointer (some ⟨b,0,none⟩),.slice (some ⟨X,0,none⟩) its.length its.length] (w.alloc (.cells (its.map WIt.val).toArray T)) (Hw w b bs t (ln t (its.map WIt.text))):=
 line_at its T X b bs t w hX hb ht hp ho htt hf hn
theorem Aj.at0 {D:Nat→Prop}{w:World}{l:List Ex}{a:Option Addr}{n cap:Nat}(h:Aj D w l (.slice a n cap))(hl:0<l.length):∃b off s,a=some ⟨b,off,none⟩∧D b∧b<w.heap.size∧
  w.cell? ⟨b,off,none⟩=some (.int .i64 (Ao l 0).kind)∧w.cell? ⟨b,off+1,none⟩=some (.int .i64 (Ao l 0).op)∧w.cell? ⟨b,off+2,none⟩=some (.int .i64 (Ao l 0).n)∧
  w.cell? ⟨b,off+3,none⟩=some (.string (Aa (Ao l 0).name))∧w.cell? ⟨b,off+4,none⟩=some s∧Aj D w (Ao l 0).args s∧I64 (Ao l 0).n:=by
 obtain⟨b,off,s,ha,hD,h0,h1,h2,h3,h4,h5,h6⟩:=h.cellAt 0 hl;exact⟨b,off,s,ha,hD,World.block_lt_of_cell? _ _ h0,by simpa using h0,by simpa using h1,by simpa using h2,by simpa using h3,by simpa using h4,h5,h6⟩
theorem Aj.at1 {D:Nat→Prop}{w:World}{l:List Ex}{b off:Nat}{n cap:Nat}(h:Aj D w l (.slice (some ⟨b,off,none⟩) n cap))(hl:1<l.length):∃s,
  w.cell? ⟨b,off+5,none⟩=some (.int .i64 (Ao l 1).kind)∧w.cell? ⟨b,off+5+1,none⟩=some (.int .i64 (Ao l 1).op)∧w.cell? ⟨b,off+5+2,none⟩=some (.int .i64 (Ao l 1).n)∧
  w.cell? ⟨b,off+5+3,none⟩=some (.string (Aa (Ao l 1).name))∧w.cell? ⟨b,off+5+4,none⟩=some s∧Aj D w (Ao l 1).args s∧I64 (Ao l 1).n:=by
 obtain⟨b',off',s,ha,_,h0,h1,h2,h3,h4,h5,h6⟩:=h.cellAt 1 hl
 cases ha
 exact⟨s,by simpa using h0,by simpa using h1,by simpa using h2,by simpa using h3,by simpa using h4,h5,h6⟩
theorem Ed {m:Nat}{k:Int}{nm:Bs}{args:List Ex}{thn els:List St}(h:De (m+1) (.mk k nm args thn els)=true):
  (args.length:Int)=Ea k∧(1≤k∧k≤10)∧(∀x,x∈args→Bb x=true)∧thn.all (De m)=true∧els.all (De m)=true:=by
 simp only[De,Ge,St.kind,St.args,St.thn,St.els,Zi,Bool.not_eq_true',Bool.or_eq_false_iff,Bool.not_eq_false',beq_iff_eq,fOk,decide_eq_true_eq,Zj]at h;obtain⟨⟨⟨⟨h1,h2⟩,h3⟩,h4⟩,h5⟩:=h;refine⟨by have:=h1.1.1.2;simpa using this,of_decide_eq_true h1.1.1.1.1,fun x hx=>?_,Zj.2 h4,Zj.2 h5⟩;have:=h3 x hx;unfold Be at this;exact(Zi _ _ ▸ this:_∧_).2
def cZ(m:Nat):Prop:= ∀(x:St),De m x=true→∀(b:Nat) (bs:Bs) (t:Nat) (s st se:Value) (w:World),3<b→Da w→Bt w b bs t→Aj (· <b) w x.args s→Ap (· <b) w x.thn st→Ap (· <b) w x.els se→
 t+m≤1000→Ci (bs.length+(Br t x).length)→
 Calls Ze 114 #[.pointer (some ⟨b,0,none⟩),stV x s st se] w (Hw w b bs t (Br t x))
def Jj(m:Nat):Prop:= ∀(l:List St),l.all (De m)=true→∀(b:Nat) (bs:Bs) (t:Nat) (v:Value) (w:World),3<b→Da w→Bt w b bs t→Ap (· <b) w l v→
 t+1+m≤1000→Ci (bs.length+(Ag (t+1) l).length)→
 Calls Ze 70 #[.pointer (some ⟨b,0,none⟩),v] w (Hw w b bs t (Ag (t+1) l))
end Go.Proofs.YtfhbinbjkpfedaaGreatDoor

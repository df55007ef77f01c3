/-
  ParseWhere: for every input the law returns true. Conditions: the raw numbers lie in memory; the library's tables, too.
-/
import Derived.Test.YtcfpfnoldgnloaaGreatDoorPw19
import Derived.Test.YtcfpfnoldgnloaaGreatDoorPw09
import Derived.Test.YtcfpfnoldgnloaaGreatDoorPw11
set_option linter.unusedVariables false
set_option linter.unusedSimpArgs false
namespace Go.Proofs.YtcfpfnoldgnloaaGreatDoor
open Go.RowKit
set_option maxHeartbeats 20000000
set_option maxRecDepth 100000
open Go.Lib renaming hid→Za
open List renaming length_append→Zb,mem_cons_self→Zc,length_cons→Ze,mem_cons_of_mem→Zf,append_assoc→Zh,length_nil→Zj,all_eq_true→Zm,getElem?_eq_getElem→Zp,flatMap_cons→Zq,flatten_cons→Zr,flatten_nil→Zs
open Ff renaming app→Zd
open Go.Proofs.Tryz renaming prog→Zg
open Bool renaming and_eq_true→Zi
open Nat renaming mul_le_mul_right→Zk,le_refl→Zl,add_mul→Zo
open Be renaming cons→Zn
theorem Ij {S:Int→Bs→Bool}{t:Nat}{l:List Pc}{z:Bs}(h:Ff S l (10::z)):Ff S (Ef t l) z:=
 Zd (a:=[.g (Jx t)]++l) (b:=[.g [10]]) h trivial
theorem Gp {S:Int→Bs→Bool}(hS:Mw S)(s:Bs)(c:UInt8)(z:Bs)(hc:bZ c=true):Ff S [sg s] (c::z):=⟨hS.ofSoft (Ga hc) 4,trivial⟩
theorem Qs {S:Int→Bs→Bool}:∀(l:List St),(∀x,x∈l→∀t z,Ff S (Gl t x) z)→∀t z,Ff S (Fg t l) z
 |[],_,t,z=>trivial
 |x::l,h,t,z=>by
  rw[Fg];exact Zd (h x Zc t _) (Qs l (fun y hy=>h y (Zf _ hy)) t z)
theorem Od {S:Int→Bs→Bool}(hS:Mw S)(hd:Wv){e:Ex}(h:WEx e)(l:List Pc)(z:Bs)(hz:Ug (Ay l++z))(hl:Ff S l z):Ff S (Cn e++l) z:=Zd (ex_sep hS hd h _ hz) hl
theorem cS {S:Int→Bs→Bool}(hS:Mw S)(hd:Wv){e:Ex}(h:WEx e)(w:Bs)(t:Nat)(z:Bs):Ff S (Ef t (wd w:: .g [32]::sg [40]::(Cn e++[sg [41],.g [32],sg [123]]))) z:=by
 refine Ij ⟨hS.soft 2 32 _ (by decide),?_,Od hS hd h _ _ (Ga (by decide)) ⟨hS.soft 4 32 _ (by decide),Gp hS _ 10 _ (by decide)⟩⟩;rw[As,Zh];exact hS.ofHead (Kb hd h).app
theorem st_sep {S:Int→Bs→Bool}(hS:Mw S)(hd:Wv){x:St}(h:WSt x):∀t z,Ff S (Gl t x) z:=by
 induction h with
 |set s x h hx=>
  intro t z;rw[stp1];exact Ij ⟨hS.soft 1 32 _ (by decide),hS.soft 4 32 _ (by decide),Od hS hd hx _ _ (Ga (by decide)) (Gp hS _ 10 _ (by decide))⟩
 |store s x y h hx hy=>
  intro t z;rw[stp2];refine Ij ⟨(hS.opens 1 _ (by decide)).2,?_,Od hS hd hx _ _ (Ga (by decide)) ⟨hS.soft 4 32 _ (by decide),hS.soft 4 32 _ (by decide),Od hS hd hy _ _ (Ga (by decide)) (Gp hS _ 10 _ (by decide))⟩⟩;rw[As,Zh];exact hS.ofHead (Kb hd hx).app
 |cond x a b hx ha hb iha ihb=>
  intro t z;rw[stp3];refine Zd (cS hS hd hx _ t _) (Zd (Qs a iha _ _) (Zd ?_ (Ij (Gp hS _ 10 _ (by decide)))))
  cases b with
  |nil=>exact trivial
  |cons y l=>
   rw[if_neg (by simp)];exact Zd (Ij ⟨hS.soft 4 32 _ (by decide),hS.soft 2 32 _ (by decide),Gp hS _ 10 _ (by decide)⟩) (Qs (y::l) ihb _ _)
 |loop x a hx ha iha=>
  intro t z;rw[stp4];exact Zd (cS hS hd hx _ t _) (Zd (Qs a iha _ _) (Ij (Gp hS _ 10 _ (by decide))))
 |brk=>intro t z;rw[stp5];exact Ij ⟨hS.soft 2 59 _ (by decide),Gp hS _ 10 _ (by decide)⟩
 |cont=>intro t z;rw[stp6];exact Ij ⟨hS.soft 2 59 _ (by decide),Gp hS _ 10 _ (by decide)⟩
 |ret x hx=>
  intro t z;rw[stp7];exact Ij ⟨hS.soft 2 32 _ (by decide),Od hS hd hx _ _ (Ga (by decide)) (Gp hS _ 10 _ (by decide))⟩
 |print x hx=>
  intro t z;rw[stp8];refine Ij ⟨(hS.opens 2 _ (by decide)).1,?_,Od hS hd hx _ _ (Ga (by decide)) ⟨hS.soft 4 59 _ (by decide),Gp hS _ 10 _ (by decide)⟩⟩;rw[As,Zh];exact hS.ofHead (Kb hd hx).app
 |trap x hx=>
  intro t z;rw[stp9];refine Ij ⟨(hS.opens 2 _ (by decide)).1,?_,Od hS hd hx _ _ (Ga (by decide)) ⟨hS.soft 4 59 _ (by decide),Gp hS _ 10 _ (by decide)⟩⟩;rw[As,Zh];exact hS.ofHead (Kb hd hx).app
 |call s l hx=>
  intro t z;have e:Gl t (.mk 10 [] [.mk 5 0 0 s l] [] [])=Ef t (Cn (.mk 5 0 0 s l)++[sg [59]]):=by rw[nY,Ml];simp only[Zh,List.cons_append,List.nil_append]
  rw[e];exact Ij (Od hS hd hx _ _ (Ga (by decide)) (Gp hS _ 10 _ (by decide)))
theorem rD {S:Int→Bs→Bool}(hS:Mw S)(x:Bs)(z:Bs)(hz:Ug z):Ff S (Hj x) z:=⟨hS.soft 2 32 _ (by decide),hS.ofSoft hz 1,trivial⟩
theorem kM {S:Int→Bs→Bool}(hS:Mw S)(z:Bs)(hz:Ug z):∀(l:List Bs),Ff S (l.flatMap (fun y=>[sg [44],.g [32]]++Hj y)) z∧Ug (Ay (l.flatMap (fun y=>[sg [44],.g [32]]++Hj y))++z)
 |[]=>⟨trivial,hz⟩
 |y::l=>by
  obtain⟨h1,h2⟩:=kM hS z hz l;rw[Zq];exact⟨Zd (a:=[sg [44],.g [32]]++Hj y) ⟨hS.soft 4 32 _ (by decide),rD hS y _ h2⟩ h1,Ga (by decide)⟩
theorem qV {S:Int→Bs→Bool}(hS:Mw S):∀(l:List Bs) (z:Bs),Ff S (l.flatMap Qy) z
 |[],z=>trivial
 |y::l,z=>by
  rw[Zq];exact Zd (Ij ⟨hS.soft 2 32 _ (by decide),hS.soft 1 59 _ (by decide),Gp hS _ 10 _ (by decide)⟩) (qV hS l z)
theorem fu_sep {S:Int→Bs→Bool}(hS:Mw S)(hd:Wv){g:Fu}(hg:WFu g)(z:Bs):Ff S (Vn g) z:=by
 obtain⟨nm,ps,ls,bd⟩:=g;obtain⟨_,_,_,hb⟩:=hg;dsimp only at hb;have hbd:Ff S ([sg [41],.g [32],sg [123],.g [10]]++(ls.flatMap Qy++(Fg 1 bd++Ef 0 [sg [125]]))) z:=
  ⟨hS.soft 4 32 _ (by decide),hS.soft 4 10 _ (by decide),(show Ff S (ls.flatMap Qy++(Fg 1 bd++Ef 0 [sg [125]])) z from Zd (qV hS ls _) (Zd (Qs bd (fun x hx=>st_sep hS hd (hb x hx)) _ _) (Ij (Gp hS _ 10 _ (by decide)))))⟩
 refine⟨hS.soft 2 32 _ (by decide),(hS.opens 1 _ (by decide)).1,?_,?_⟩
 ·cases ps with
  |nil=>exact hS.soft 4 41 _ (by decide)
  |cons x l=>exact hS.head 105 _ (by decide)
 ·show Ff S (Jf (ps.map Hj)++([sg [41],.g [32],sg [123],.g [10]]++(ls.flatMap Qy++(Fg 1 bd++Ef 0 [sg [125]])))) z
  refine Zd ?_ hbd
  cases ps with
  |nil=>exact trivial
  |cons x l=>
   have e:Jf ((x::l).map Hj)=Hj x++l.flatMap (fun y=>[sg [44],.g [32]]++Hj y):=by
    show Hj x++(l.map Hj).flatMap _=_;rw[List.flatMap_map]
   rw[e];obtain⟨h1,h2⟩:=kM hS (Ay ([sg [41],.g [32],sg [123],.g [10]]++(ls.flatMap Qy++(Fg 1 bd++Ef 0 [sg [125]])))++z) (Ga (by decide)) l;exact Zd (rD hS x _ h2) h1
theorem ar_sep {S:Int→Bs→Bool}(hS:Mw S)(hd:Wv){a:Ar}(ha:0≤a.size)(z:Bs):Ff S (bV a) z:=by
 refine Ij ⟨hS.soft 2 32 _ (by decide),(hS.opens 1 _ (by decide)).2,?_,hS.soft 3 93 _ (by decide),hS.soft 4 59 _ (by decide),Gp hS _ 10 _ (by decide)⟩;exact hS.ofHead (Nh.app (show Nh (Ay [nu a.size,sg [93],sg [59]])from by rw[Nj];exact(eZ ha hd).app))
theorem jF {S:Int→Bs→Bool}(hS:Mw S)(hd:Wv):∀(m:List Ar) (l:List Fu) (z:Bs),(∀a,a∈m→0≤a.size)→(∀x,x∈l→WFu x)→Ff S (m.flatMap bV++l.flatMap Vn) z
 |[],[],z,_,_=>trivial
 |[],g::l,z,h1,h2=>by
  show Ff S ((g::l).flatMap Vn) z
  rw[Zq];exact Zd (fu_sep hS hd (h2 g Zc) _) (jF hS hd [] l z h1 (fun x hx=>h2 x (Zf _ hx)))
 |a::m,l,z,h1,h2=>by
  rw[Zq,Zh];exact Zd (ar_sep hS hd (h1 a Zc) _) (jF hS hd m l z (fun x hx=>h1 x (Zf _ hx)) h2)
inductive Wr:St→Prop
 |mk (k:Int) (nm:Bs) (args:List Ex) (thn els:List St) (ha:∀x,x∈args→N64 x) (ht:∀y,y∈thn→Wr y) (he:∀y,y∈els→Wr y):Wr (.mk k nm args thn els)
theorem fP {b:Bs}(h:b.all Fc=true):match Pc.g b with| .t x=>Oc x| .g b=> ∀c,c∈b→Fc c=true:=fun c hc=>Zm.1 h c hc
theorem word_ok {x:Bs}(h1:Ia x=true)(h2:Mm x=true):Oc ⟨2,x,0⟩:=⟨bL h1 h2,fun e=>absurd (show(2:Int)=3 from e) (by decide),Gi⟩
theorem iE(t:Nat):(Jx t).all Fc=true:=by
 unfold Jx;rw[Zm];intro c hc;rw[List.eq_of_mem_replicate hc];rfl
theorem Le {t:Nat}{l:List Pc}(h:Be l):Be (Ef t l):=Be.app (Be.app (Zn (fP (iE t)) Be.nil) h) (Zn (fP (by decide)) Be.nil)
theorem Be.sg {s:Bs}{l:List Pc}(h:Ld s=true)(hl:Be l):Be (sg s::l):=Zn (Ii h) hl
theorem Be.wd {s:Bs}{l:List Pc}(h:(Ia s && Mm s)=true)(hl:Be l):Be (wd s::l):=Zn (word_ok ((Zi _ _).mp h).1 ((Zi _ _).mp h).2) hl
theorem Be.nm {s:Bs}{l:List Pc}(h:Au s=true)(hl:Be l):Be (nmp s::l):=Zn (Tu h) hl
theorem Be.sp {b:Bs}{l:List Pc}(h:b.all Fc=true)(hl:Be l):Be (.g b::l):=Zn (fP h) hl
theorem Nt:∀(l:List St),(∀x,x∈l→∀t,Be (Gl t x))→∀t,Be (Fg t l)
 |[],_,t=>Be.nil
 |x::l,h,t=>by
  rw[Fg];exact Be.app (h x Zc t) (Nt l (fun y hy=>h y (Zf _ hy)) t)
theorem Yf {e:Ex}(h:Be (Cn e)){w:Bs}(hw:(Ia w && Mm w)=true)(t:Nat):Be (Ef t (wd w:: .g [32]::sg [40]::(Cn e++[sg [41],.g [32],sg [123]]))):=
 Le (.wd hw (.sp (by decide) (.sg (by decide) (.app h (.sg (by decide) (.sp (by decide) (.sg (by decide) .nil)))))))
theorem st_toks {x:St}(h:WSt x)(hn:Wr x):∀t,Be (Gl t x):=by
 induction h with
 |set s x h hx=>
  cases hn with|mk _ _ _ _ _ ha ht he=>
  intro t;rw[stp1];exact Le (.nm h (.sp (by decide) (.sg (by decide) (.sp (by decide) (.app (Kt hx (ha x Zc)) (.sg (by decide) .nil))))))
 |store s x y h hx hy=>
  cases hn with|mk _ _ _ _ _ ha ht he=>
  intro t;rw[stp2];exact Le (.nm h (.sg (by decide) (.app (Kt hx (ha x Zc)) (.sg (by decide) (.sp (by decide) (.sg (by decide) (.sp (by decide) (.app (Kt hy (ha y (by simp))) (.sg (by decide) .nil)))))))))
 |cond x a b hx h1 h2 iha ihb=>
  cases hn with|mk _ _ _ _ _ ha ht he=>
  intro t;rw[stp3];refine .app (Yf (Kt hx (ha x Zc)) (by decide) t) (.app (Nt a (fun y hy=>iha y hy (ht y hy)) _) (.app ?_ (Le (.sg (by decide) .nil))));split
  ·exact .nil
  ·exact .app (Le (.sg (by decide) (.sp (by decide) (.wd (by decide) (.sp (by decide) (.sg (by decide) .nil)))))) (Nt b (fun y hy=>ihb y hy (he y hy)) _)
 |loop x a hx h1 iha=>
  cases hn with|mk _ _ _ _ _ ha ht he=>
  intro t;rw[stp4];exact .app (Yf (Kt hx (ha x Zc)) (by decide) t) (.app (Nt a (fun y hy=>iha y hy (ht y hy)) _) (Le (.sg (by decide) .nil)))
 |brk=>intro t;rw[stp5];exact Le (.wd (by decide) (.sg (by decide) .nil))
 |cont=>intro t;rw[stp6];exact Le (.wd (by decide) (.sg (by decide) .nil))
 |ret x hx=>
  cases hn with|mk _ _ _ _ _ ha ht he=>
  intro t;rw[stp7];exact Le (.wd (by decide) (.sp (by decide) (.app (Kt hx (ha x Zc)) (.sg (by decide) .nil))))
 |print x hx=>
  cases hn with|mk _ _ _ _ _ ha ht he=>
  intro t;rw[stp8];exact Le (.wd (by decide) (.sg (by decide) (.app (Kt hx (ha x Zc)) (.sg (by decide) (.sg (by decide) .nil)))))
 |trap x hx=>
  cases hn with|mk _ _ _ _ _ ha ht he=>
  intro t;rw[stp9];exact Le (.wd (by decide) (.sg (by decide) (.app (Kt hx (ha x Zc)) (.sg (by decide) (.sg (by decide) .nil)))))
 |call s l hx=>
  cases hn with|mk _ _ _ _ _ ha ht he=>
  intro t;have e:Gl t (.mk 10 [] [.mk 5 0 0 s l] [] [])=Ef t (Cn (.mk 5 0 0 s l)++[sg [59]]):=by rw[nY,Ml];simp only[Zh,List.cons_append,List.nil_append]
  rw[e];exact Le (.app (Kt hx (ha _ Zc)) (.sg (by decide) .nil))
theorem Tx {α:Type}(f:α→List Pc)(l:List α)(h:∀x,x∈l→Be (f x)):Be (l.flatMap f):=fun p hp=>by
 obtain⟨x,hx,hp⟩:=List.mem_flatMap.1 hp;exact h x hx p hp
theorem pa_ok {x:Bs}(h:Au x=true):Be (Hj x):= .wd (by decide) (.sp (by decide) (.nm h .nil))
theorem fu_toks {g:Fu}(hg:WFu g)(hn:∀x,x∈g.body→Wr x):Be (Vn g):=by
 obtain⟨nm,ps,ls,bd⟩:=g;obtain⟨h1,h2,h3,hb⟩:=hg;dsimp only at h1 h2 h3 hb hn;have htail:Be (ls.flatMap Qy++(Fg 1 bd++Ef 0 [sg [125]])):= .app (Tx Qy ls fun x hx=>(show Be (Ef 1 [wd [105,110,116],.g [32],nmp x,sg [59]])from Le (.wd (by decide) (.sp (by decide) (.nm (h3 x hx) (.sg (by decide) .nil)))))) (.app (Nt bd (fun y hy=>st_toks (hb y hy) (hn y hy)) _) (Le (.sg (by decide) .nil)));have hps:Be (Jf (ps.map Hj)):=by
  cases ps with
  |nil=>exact .nil
  |cons x l=>
   have e:Jf ((x::l).map Hj)=Hj x++l.flatMap (fun y=>[sg [44],.g [32]]++Hj y):=by
    show Hj x++(l.map Hj).flatMap _=_;rw[List.flatMap_map]
   rw[e];exact .app (pa_ok (h2 x Zc)) (Tx _ _ fun y hy=> .sg (by decide) (.sp (by decide) (pa_ok (h2 y (Zf _ hy)))))
 show Be (wd [105,110,116]:: .g [32]::nmp nm::sg [40]::(Jf (ps.map Hj)++(sg [41]:: .g [32]::sg [123]:: .g [10]::(ls.flatMap Qy++(Fg 1 bd++Ef 0 [sg [125]])))))
 exact .wd (by decide) (.sp (by decide) (.nm h1 (.sg (by decide) (.app hps (.sg (by decide) (.sp (by decide) (.sg (by decide) (.sp (by decide) htail))))))))
theorem kI {a:Ar}(h:Dq a=true):Be (bV a)∧0≤a.size:=by
 unfold Dq at h;obtain⟨h1,h2⟩:=(Zi _ _).mp h;have h2:=of_decide_eq_true h2;exact⟨Le (.wd (by decide) (.sp (by decide) (.nm h1 (.sg (by decide) (.cons (pY (by omega) ⟨by omega,by omega⟩) (.sg (by decide) (.sg (by decide) .nil))))))),by omega⟩
theorem pr_gap:∀(m:List Ar) (l:List Fu),Ct (m.flatMap bV++l.flatMap Vn)=[]
 |[],[]=>rfl
 |[],g::l=>rfl
 |a::m,l=>rfl
theorem Mh {p:Pr}(h:Ez p=true):(∀a,a∈p.arrays→Dq a=true)∧∀x,x∈p.funcs→WFu x:=by
 unfold Ez at h;simp only[Zi,Zm]at h;exact⟨h.1,fun x hx=>wfu_of (h.2 x hx)⟩
inductive Uz:Ex→Prop
 |num (n:Int) (h:0≤n):Uz (.mk 1 0 n [] [])
 |var (nm:Bs) (h:Au nm=true):Uz (.mk 2 0 0 nm [])
 |one (o:Int) (x:Ex) (h:o=17∨o=18∨o=19) (hx:Ch x=true):Uz (.mk 3 o 0 [] [x])
 |two (o:Int) (x y:Ex) (h:0<Am o) (hx:Ch x=true) (hy:Ch y=true):Uz (.mk 4 o 0 [] [x,y])
 |call (nm:Bs) (l:List Ex) (h:Au nm=true) (hn:l.length≤6) (hl:∀x,x∈l→Ch x=true):Uz (.mk 5 0 0 nm l)
 |index (nm:Bs) (x:Ex) (h:Au nm=true) (hx:Ch x=true):Uz (.mk 6 0 0 nm [x])
 |read:Uz (.mk 7 0 0 [] [])
def SOk(x:St):Prop:= ∃m,Ec m x=true
inductive Lq:St→Prop
 |set (nm:Bs) (x:Ex) (h:Au nm=true) (hx:Ch x=true):Lq (.mk 1 nm [x] [] [])
 |store (nm:Bs) (x y:Ex) (h:Au nm=true) (hx:Ch x=true) (hy:Ch y=true):Lq (.mk 2 nm [x,y] [] [])
 |iff (x:Ex) (t e:List St) (hx:Ch x=true) (ht:∀y,y∈t→SOk y) (he:∀y,y∈e→SOk y):Lq (.mk 3 [] [x] t e)
 |loop (x:Ex) (t:List St) (hx:Ch x=true) (ht:∀y,y∈t→SOk y):Lq (.mk 4 [] [x] t [])
 |brk:Lq (.mk 5 [] [] [] [])
 |cont:Lq (.mk 6 [] [] [] [])
 |ret (x:Ex) (hx:Ch x=true):Lq (.mk 7 [] [x] [] [])
 |prt (x:Ex) (hx:Ch x=true):Lq (.mk 8 [] [x] [] [])
 |trp (x:Ex) (hx:Ch x=true):Lq (.mk 9 [] [x] [] [])
 |call (nm:Bs) (l:List Ex) (h:Au nm=true) (hn:l.length≤6) (hl:∀x,x∈l→Ch x=true):Lq (.mk 10 [] [.mk 5 0 0 nm l] [] [])
structure FOk (f:Fu):Prop where
 name:Au f.name=true
 params:∀x,x∈f.params→Au x=true
 locals:∀x,x∈f.locals→Au x=true
 body:∀x,x∈f.body→SOk x
theorem lL {f:Fu}(h:Gb f=true):FOk f:=by
 unfold Gb at h;simp only[Zi,Zm]at h;exact⟨h.1.1.1.1,h.1.1.1.2,h.1.1.2,fun x hx=>⟨40,h.2 x hx⟩⟩
theorem Fx {l:Bs}(h:Au l=true):l.length≤20:=by
 unfold Au at h;simp only[Zi,decide_eq_true_eq]at h;exact h.1.1.2
theorem jQ(L:Nat):∀l:List Bs,(∀x,x∈l→x.length≤L)→(Bo l).length≤l.length*(L+2)
 |[],_=>by simp [Bo]
 |x::l,h=>by
  have more:∀m:List Bs,(∀x,x∈m→x.length≤L)→(m.flatMap (fun y=>[44,32]++y)).length≤m.length*(L+2):=by
   intro m
   induction m with
   |nil=>intro _;simp
   |cons y m ih=>
    intro hm;have h1:=hm y Zc;have h2:=ih (fun z hz=>hm z (Zf _ hz));simp only[Zq,Zb,Ze,Zj]at h2 ⊢;rw[Zo];omega
  have h1:=h x Zc;have h2:=more l (fun z hz=>h z (Zf _ hz));rw[Bo,Zb,Ze,Zo];omega
theorem Vf(e:Ex)(lev:Int)(t:Bs):(Fo e lev t).length≤t.length+2:=by
 unfold Fo;split
 ·simp
 ·omega
theorem aB:∀i:Fin 20,(Aq i.val).length≤2:=by decide+kernel
theorem dV(o:Int):(Aq o).length≤2:=by
 by_cases h:0≤o∧o≤19
 ·have e1:((o.toNat:Nat):Int)=o:=Int.toNat_of_nonneg (by omega)
  have:=aB ⟨o.toNat,by omega⟩;simp only[e1]at this;exact this
 ·unfold Aq
  rw[if_neg (by omega),if_neg (by omega),if_neg (by omega),if_neg (by omega),if_neg (by omega),if_neg (by omega),if_neg (by omega),if_neg (by omega),if_neg (by omega),if_neg (by omega),if_neg (by omega),if_neg (by omega),if_neg (by omega),if_neg (by omega),if_neg (by omega),if_neg (by omega),if_neg (by omega),if_neg (by omega),if_neg (by omega)];exact Nat.zero_le _
theorem ex1_len(n:Int)(h:0≤n∧n≤9223372036854775807)(o:Int)(nm:Bs)(l:List Ex):(Al (.mk 1 o n nm l)).length≤21:=by
 rw[dH];exact Lib.itoa_length_le n (by omega) h.2
theorem eN {L:Nat}{nm:Bs}{l:List Ex}(hn:nm.length≤20)(h6:l.length≤6)(hl:∀x,x∈l→(Al x).length≤L):(Al (.mk 5 0 0 nm l)).length≤6*L+64:=by
 rw[cW];have:=jQ L (l.map Al) (fun x hx=>by
  obtain⟨y,hy,rfl⟩:=List.mem_map.1 hx;exact hl y hy)
 simp only[List.length_map,Zb,Ze,Zj]at this ⊢;have:l.length*(L+2)≤6*(L+2):=Zk _ h6;omega
theorem Wz {sc:Sc}(hs:sc.Ok)(raw:List Int)(g:Nat→Ex ×Nat)(L:Nat)(hg:∀a,(Al (g a).1).length≤L)(a:Nat):(Al (Hz sc raw g a).1).length≤6*L+64:=by
 unfold Hz;split
 ·have h7:=Aj raw (Ac raw a 312).2 7 (by decide)
  exact eN (Fx (Jy _)) (by rw[Hs];omega) (Jr g (fun x=>(Al x).length≤L) hg _ _)
 ·rename_i hn
  have hl:=bO hn;have hr:=Aj raw a sc.funcs.length (by omega);have hf:Au (Eb sc.funcs (Ac raw a sc.funcs.length).1.toNat).name=true∧(Eb sc.funcs (Ac raw a sc.funcs.length).1.toNat).params.length≤6:=hs.funcs _ (rP (d:=Fu.nil) (i:=(Ac raw a sc.funcs.length).1.toNat) (by omega));dsimp only;generalize Eb sc.funcs (Ac raw a sc.funcs.length).1.toNat=f at hf ⊢;exact eN (Fx hf.1) (by rw[Hs];exact hf.2) (Jr g (fun x=>(Al x).length≤L) hg _ _)
theorem Xb {sc:Sc}(hs:sc.Ok)(raw:List Int)(g:Nat→Ex ×Nat)(L:Nat)(hg:∀a,(Al (g a).1).length≤L)(k:Int)(a:Nat):(Al (Eh sc raw g k a).1).length≤6*L+64:=by
 unfold Eh;split
 ·have:=Fx (Pz hs raw a)
  dsimp only;rw[dU];omega
 split
 ·dsimp only;rw[cB];simp
 split
 ·have h1:=Aj raw (if k=3 then(Ac raw a 3).2 else a) 1000 (by decide)
  have h2:=Nz _ (Ac raw (Ac raw (if k=3 then(Ac raw a 3).2 else a) 1000).2 8).1 h1;have:=ex1_len _ h2 0 [] [];dsimp only;omega
 split
 ·have:=hg (Ac raw a 3).2
  dsimp only;rw[eL _ _ _ _ (by simp)];have h2:=dV (17+(Ac raw a 3).1);have h3:=Vf (g (Ac raw a 3).2).1 9 (Al (g (Ac raw a 3).2).1);show(Aq _++Fo (g (Ac raw a 3).2).1 9 (Al (g (Ac raw a 3).2).1)).length≤_
  rw[Zb];omega
 split
 ·have h1:=Fx (Om hs raw a)
  have h2:=hg (Cr sc.free sc.arrays raw a).2;dsimp only;rw[cU _ _ _ _ (by simp)];show(_++[91]++Al (g (Cr sc.free sc.arrays raw a).2).1++[93]).length≤_
  simp only[Zb,Ze,Zj];omega
 split
 ·exact Wz hs raw g L hg a
 ·dsimp only;rw[dZ _ _ _ _ (by simp)]
  have h1:=hg (Ac raw a 16).2;have h2:=hg (g (Ac raw a 16).2).2;have h3:=dV (1+(Ac raw a 16).1);have h4:=Vf (g (Ac raw a 16).2).1 (Am (1+(Ac raw a 16).1)) (Al (g (Ac raw a 16).2).1);have h5:=Vf (g (g (Ac raw a 16).2).2).1 (Am (1+(Ac raw a 16).1)+1) (Al (g (g (Ac raw a 16).2).2).1);show(Fo (g (Ac raw a 16).2).1 (Am (1+(Ac raw a 16).1)) (Al (g (Ac raw a 16).2).1)++([32]++(Aq _++[32]))++Fo (g (g (Ac raw a 16).2).2).1 (Am (1+(Ac raw a 16).1)+1) (Al (g (g (Ac raw a 16).2).2).1)).length≤_
  simp only[Zb,Ze,Zj];omega
def exB:Nat→Nat
 |0=>64
 |d+1=>6*exB d+64
theorem Ot {sc:Sc}(hs:sc.Ok)(raw:List Int):∀d a,(Al (Aw sc raw d a).1).length≤exB d
 |0,a=>by
  rw[Aw];unfold Ta;have:=Xb hs raw (fun a=>(Ex.nil,a)) 0 (fun a=>by show(Al (.mk 0 0 0 [] [])).length≤0;rw[Gx];decide) (gK raw 0 a) (Ac raw a 12).2;simp only[exB];omega
 |d+1,a=>by
  rw[Aw];unfold Ta;exact Xb hs raw _ (exB d) (Ot hs raw d) _ _
theorem qF(t:Nat):(Jx t).length=t:=List.length_replicate
theorem Yt(t:Nat)(l:List Bs):(ln t l).length=t+l.flatten.length+1:=by unfold ln;rw[Zb,Zb,qF];rfl
theorem qD {t N L T E:Nat}{k:Int}{nm:Bs}{args:List Ex}{thn els:List St}(hn:nm.length≤N)(ha:∀x,x∈args→(Al x).length≤L)(hT:(Bw (t+1) thn).length≤T)(hE:(Bw (t+1) els).length≤E):(Cl t (.mk k nm args thn els)).length≤3*t+N+2*L+T+E+40:=by
 have hx:∀i,(Al (Bx args i)).length≤L:=fun i=>by
  unfold Bx;rcases Nat.lt_or_ge i args.length with h|h
  ·rw[List.getD_eq_getElem?_getD,Zp h];exact ha _ (List.getElem_mem h)
  ·rw[List.getD_eq_getElem?_getD,List.getElem?_eq_none h]
   show(Al (.mk 0 0 0 [] [])).length≤L
   rw[Gx];exact Nat.zero_le _
 have h0:=hx 0;have h1:=hx 1;rw[Fk];unfold De
 repeat' split
 all_goals
  try simp only[Yt,Zb,Zr,Zs,Ze,Zj]
  try omega
theorem Yr {t B:Nat}:∀l:List St,(∀x,x∈l→(Cl t x).length≤B)→(Bw t l).length≤l.length*B
 |[],_=>by simp [Bw]
 |x::l,h=>by
  have h1:=h x Zc;have h2:=Yr l (fun z hz=>h z (Zf _ hz));rw[Bw,Zb,Ze,Zo];omega
theorem fF {sc:Sc}(hs:sc.Ok)(raw:List Int)(gs gl:Nat→List St ×Nat)(T:Nat)(t:Nat)(hgs:∀a,(Bw (t+1) (gs a).1).length≤T)(hgl:∀a,(Bw (t+1) (gl a).1).length≤T)(k:Int)(a:Nat):
  ∃k' nm args thn els,(By sc raw gs gl k a).1= .mk k' nm args thn els∧nm.length≤20∧(∀x,x∈args→(Al x).length≤exB 3)∧(Bw (t+1) thn).length≤T∧(Bw (t+1) els).length≤T:=by
 have z:(Bw (t+1) []).length≤T:=Nat.zero_le _;have nn:∀x:Ex,x∈([]:List Ex)→(Al x).length≤exB 3:=fun x hx=>by cases hx
 have n0:([]:Bs).length≤20:=Nat.zero_le _;have ee:∀a,∀x,x∈[(Aw sc raw 3 a).1]→(Al x).length≤exB 3:=fun a x hx=>by rw[List.mem_singleton.1 hx];exact Ot hs raw 3 a
 unfold By;split
 ·exact⟨_,_,_,_,_,rfl,Fx (Pz hs raw a),nn,z,z⟩
 split
 ·exact⟨_,_,_,_,_,rfl,Fx (Om hs raw a),ee _,z,z⟩
 split
 ·exact⟨_,_,_,_,_,rfl,n0,fun x hx=>by rw[List.mem_singleton.1 hx];exact Wz hs raw _ (exB 2) (Ot hs raw 2) a,z,z⟩
 split
 ·exact⟨_,_,_,_,_,rfl,n0,nn,z,z⟩
 split
 ·exact⟨_,_,_,_,_,rfl,n0,ee _,hgs _,hgs _⟩
 split
 ·exact⟨_,_,_,_,_,rfl,n0,ee _,hgl _,z⟩
 split
 ·exact⟨_,_,_,_,_,rfl,n0,nn,z,z⟩
 ·exact⟨_,_,_,_,_,rfl,n0,nn,z,z⟩
theorem kG {sc:Sc}(hs:sc.Ok)(raw:List Int)(gs gl:Nat→List St ×Nat)(T:Nat)(t d:Nat)(hgs:∀a,(Bw (t+1) (gs a).1).length≤T)(hgl:∀a,(Bw (t+1) (gl a).1).length≤T)(a:Nat):(Cl t (gSt sc raw gs gl d a).1).length≤3*t+2*exB 4+2*T+60:=by
 unfold gSt;dsimp only;obtain⟨k,nm,args,thn,els,h,h1,h2,h3,h4⟩:=fF hs raw gs gl T t hgs hgl (Rh raw d a) (Ac raw a 14).2;generalize (By sc raw gs gl (Rh raw d a) (Ac raw a 14).2).2=b;rw[h];have h2:∀x,x∈args→(Al x).length≤exB 4:=fun x hx=>Nat.le_trans (h2 x hx) (by decide)
 unfold Kg;split
 ·have:=qD (k:=k) (N:=20) (L:=exB 4) h1 (args:=args++[(Aw sc raw 4 b).1]) (fun x hx=>by
   rcases List.mem_append.1 hx with hx|hx
   ·exact h2 x hx
   ·rw[List.mem_singleton.1 hx];exact Ot hs raw 4 b) h3 h4
  show(Cl t (.mk k nm (args++[(Aw sc raw 4 b).1]) thn els)).length≤_
  omega
 ·have:=qD (k:=k) (N:=20) (L:=exB 4) h1 h2 h3 h4
  show(Cl t (.mk k nm args thn els)).length≤_
  omega
def stB:Nat→Nat
 |0=>4*(2*exB 4+100)
 |d+1=>4*(2*exB 4+2*stB d+100)
theorem Ux(one:Nat→St ×Nat)(P:St→Prop)(hg:∀a,P (one a).1)(c a:Nat):∀x,x∈(Ig one c a).1→P x:=Oh one P hg c a
theorem five(raw:List Int)(a:Nat):(Ac raw a 5).1.toNat≤4:=by have:=Aj raw a 5 (by decide);omega
theorem Pw(raw:List Int):∀(d t:Nat) (sc:Sc),sc.Ok→t+d≤10→∀a,(Bw t (Gg raw d sc a).1).length≤stB d
 |0,t,sc,hs,ht,a=>by
  rw[Gg];have h1:=Yr (t:=t) (B:=2*exB 4+100) _ (Ux _ (fun x=>(Cl t x).length≤2*exB 4+100) (fun b=>Nat.le_trans (kG hs raw (fun a=>([],a)) (fun a=>([],a)) 0 t 0 (fun _=>Zl _) (fun _=>Zl _) b) (by omega)) (Ac raw a 5).1.toNat (Ac raw a 5).2);rw[Lz]at h1;exact Nat.le_trans h1 (Zk _ (five raw a))
 |d+1,t,sc,hs,ht,a=>by
  rw[Gg];have h1:=Yr (t:=t) (B:=2*exB 4+2*stB d+100) _ (Ux _ (fun x=>(Cl t x).length≤2*exB 4+2*stB d+100) (fun b=>Nat.le_trans (kG hs raw (Gg raw d sc) (Gg raw d sc.inLoop) (stB d) t (d+1) (Pw raw d (t+1) sc hs (by omega)) (Pw raw d (t+1) sc.inLoop hs.inLoop (by omega)) b) (by omega)) (Ac raw a 5).1.toNat (Ac raw a 5).2);rw[Lz]at h1;exact Nat.le_trans h1 (Zk _ (five raw a))
def fuB:Nat:=1000+stB 4
def prB:Nat:=200+3*fuB
theorem qW:2*prB≤140737488355328:=by decide+kernel
theorem fX {a:Ar}(h:Dq a=true):(Nu a).length≤100:=by
 unfold Dq at h;simp only[Zi,decide_eq_true_eq]at h;have h1:=Fx h.1;have h2:=Lib.itoa_length_le a.size (by omega) (by omega);unfold Nu;rw[Yt];simp only[Zr,Zs,Zb,Ze,Zj];omega
theorem Ss:∀l:List Ar,(∀a,a∈l→Dq a=true)→(Em l).length≤l.length*100
 |[],_=>by simp [Em]
 |a::l,h=>by
  have h1:=fX (h a Zc);have h2:=Ss l (fun x hx=>h x (Zf _ hx));show(Nu a++Em l).length≤_
  rw[Zb,Ze,Zo];omega
theorem Tc:∀l:List Bs,(∀x,x∈l→Au x=true)→(Fm l).length≤l.length*40
 |[],_=>by simp [Fm]
 |x::l,h=>by
  have h1:=Fx (h x Zc);have h2:=Tc l (fun y hy=>h y (Zf _ hy));show(ln 1 [[105,110,116,32],x,[59]]++Fm l).length≤_
  rw[Zb,Yt,Ze,Zo];simp only[Zr,Zs,Zb,Ze,Zj];omega
theorem iO {f:Fu}(h:FOk f)(hp:f.params.length≤6)(hl:f.locals.length≤5)(hb:(Bw 1 f.body).length≤stB 4):(Im f).length≤fuB:=by
 have h1:=Fx h.name;have h2:=jQ 24 (f.params.map Jn) (fun x hx=>by
  obtain⟨y,hy,rfl⟩:=List.mem_map.1 hx;have:=Fx (h.params y hy);unfold Jn;rw[Zb];simp;omega)
 have h3:=Tc f.locals h.locals;have h4:(f.params.map Jn).length*(24+2)≤6*26:=Zk _ (by rw[List.length_map];exact hp);have h5:f.locals.length*40≤5*40:=Zk _ hl;unfold Im fuB;simp only[Zb,Yt,Zr,Zs,Ze,Zj];omega
theorem Sw:∀l:List Fu,(∀f,f∈l→(Im f).length≤fuB)→(Fd l).length≤l.length*fuB
 |[],_=>by simp [Fd]
 |a::l,h=>by
  have h1:=h a Zc;have h2:=Sw l (fun x hx=>h x (Zf _ hx));show(Im a++Fd l).length≤_
  rw[Zb,Ze,Zo];omega
theorem So(raw:List Int)(sc:Sc)(P:Fu→Prop)(hP:∀f,f∈sc.funcs→∀a,P (Pe raw sc f a).1):∀(l:List Fu),(∀f,f∈l→f∈sc.funcs)→∀a,∀x,x∈(Df raw sc l a).1→P x
 |[],_,a,x,hx=>by cases hx
 |f::l,hl,a,x,hx=>by
  rw[Df]at hx;rcases List.mem_cons.1 hx with rfl|hx
  ·exact hP f (hl f Zc) a
  ·exact So raw sc P hP l (fun g hg=>hl g (Zf _ hg)) _ x hx
theorem Nx(raw:List Int)(sc:Sc):∀(l:List Fu) (a:Nat),(Df raw sc l a).1.length=l.length
 |[],a=>rfl
 |g::l,a=>by rw[Df,Ze,Ze,Nx raw sc l]
theorem Qc(free:Bool)(raw:List Int):∀n a,(Io free raw n a).1.length=n
 |0,a=>rfl
 |n+1,a=>by rw[Io,Ze,Qc free raw n]
theorem Qv(raw:List Int):∀n a,(If raw n a).1.length=n
 |0,a=>rfl
 |n+1,a=>by rw[If,Ze,Qv raw n]
theorem gSc_ok(raw:List Int)(free:Bool){f:Fu}(hf:f∈(Jk raw free).funcs)(k:Nat):Sc.Ok ⟨f.params++Dj.take k,(Jk raw free).arrays,(Jk raw free).funcs,free,false⟩:=by
 refine⟨fun x hx=> ?_,fun x hx=> ?_,fun x hx=>⟨(Hq raw free x hx).1,(Hq raw free x hx).2.1⟩⟩
 ·rcases List.mem_append.1 hx with hx|hx
  ·exact(Hq raw free f hf).2.2 x hx
  ·exact Xl x (List.mem_of_mem_take hx)
 ·have:=Mu raw free x hx
  unfold Dq at this;exact((Zi _ _).mp this).1
theorem dR(raw:List Int)(free:Bool):∀f,f∈(Kn raw free).funcs→(Im f).length≤fuB:=by
 intro f hf;have hr:=Nw raw free;unfold Ez at hr;simp only[Zi,Zm]at hr;have hok:=lL (hr.2 f hf);have h:=So (raw.take 400) (Jk (raw.take 400) free) (fun f=>f.params.length≤6∧f.locals.length≤5∧(Bw 1 f.body).length≤stB 4) (fun g hg a=>by
  have hh:=Hq (raw.take 400) free g hg;refine⟨hh.2.1,?_,?_⟩
  ·show(Dj.take _).length≤5
   rw[List.length_take];exact Nat.min_le_right _ _
  ·exact Pw (raw.take 400) 4 1 _ (gSc_ok (raw.take 400) free hg _) (by omega) _) (Jk (raw.take 400) free).funcs (fun f hf=>hf) _ f hf
 exact iO hok h.1 h.2.1 h.2.2
theorem Qg(raw:List Int)(free:Bool):(Kn raw free).arrays.length≤2∧(Kn raw free).funcs.length≤3∧0<(Kn raw free).funcs.length:=by
 have h1:=Aj (raw.take 400) 0 3 (by decide);have h2:=Aj (raw.take 400) (Ji (raw.take 400) free).2 3 (by decide);have ea:(Kn raw free).arrays.length=(Ac (raw.take 400) 0 3).1.toNat:=Qc _ _ _ _;have ef:(Kn raw free).funcs.length=(Ac (raw.take 400) (Ji (raw.take 400) free).2 3).1.toNat+1:=by
  show(Df _ _ _ _).1.length=_
  rw[Nx];show(Kq::(Pm _ _).1).length=_
  rw[Ze];show(If _ _ _).1.length+1=_
  rw[Qv]
 rw[ea,ef];omega
theorem mM(raw:List Int)(free:Bool):(Fi (Kn raw free)).length≤prB:=by
 have hr:=Nw raw free;unfold Ez at hr;simp only[Zi,Zm]at hr;obtain⟨c1,c2,_⟩:=Qg raw free;have h1:=Ss _ hr.1;have h2:=Sw _ (dR raw free);have h3:(Kn raw free).arrays.length*100≤2*100:=Zk _ c1;have h4:(Kn raw free).funcs.length*fuB≤3*fuB:=Zk _ c2;unfold Fi prB;rw[Zb];omega
theorem nA {p:Pr}(h:0<p.funcs.length):Fi p≠[]:=by
 obtain⟨a,l⟩:=p
 cases l with
 |nil=>cases h
 |cons f l=>
  unfold Fi;intro e;have:=(List.append_eq_nil_iff.1 e).2;simp [Fd,Im]at this
def Nb:Nat→List Pc→List Tk
 |_,[]=>[]
 |n,.g b::l=>Nb (n+Bv b) l
 |n,.t x::l=>⟨x.kind,x.text,x.num,n⟩::Nb n l
def fS:List Pc→Nat
 |[]=>0
 | .g b::l=>Bv b+fS l
 | .t _::l=>fS l
theorem aK:∀(l:List Pc) (n:Nat),Ms (n+Bv (Ct l)) (Fq l)=Nb n l
 |[],n=>rfl
 | .g b::l,n=>by
  show Ms (n+Bv (b++Ct l)) (Fq l)=Nb (n+Bv b) l
  rw[Sj,←Nat.add_assoc];exact aK l (n+Bv b)
 | .t x::l,n=>by
  have eg:Ag (Ct l) []=Ct l:=by unfold Ag;simp
  show(⟨x.kind,x.text,x.num,((n+0:Nat):Int)⟩:Tk)::Ms (n+0+Bv (Ag (Ct l) [])) (Fq l)=⟨x.kind,x.text,x.num,n⟩::Nb n l
  rw[eg,Nat.add_zero,aK l n]
theorem Ut:∀(a b:List Pc) (n:Nat),Nb n (a++b)=Nb n a++Nb (n+fS a) b
 |[],b,n=>rfl
 | .g x::a,b,n=>by
  show Nb (n+Bv x) (a++b)=Nb (n+Bv x) a++Nb (n+(Bv x+fS a)) b
  rw[Ut a b,Nat.add_assoc]
 | .t x::a,b,n=>by
  show _::Nb n (a++b)=_::(Nb n a++Nb (n+fS a) b)
  rw[Ut a b]
theorem oK(l:List Pc)(hp:Be l)(hs:Ff Lu l [])(hlen:(Ay l).length≤20000)(hb:Mg (Ct l) [])(Q:Pr ×Int ×Int→Prop)
  (hz:∀N:Int,∃z,Ev (fun f=>Ca f ⟨[],[]⟩ (Nb 1 l++[⟨5,[],0,N⟩])) z∧Q (Ph (Wd z))) (w:World) (hl:Iy w):
  Calls Zg 14 #[.string (Aa (Ay l))] w fun e w'=> ∃r,Q r∧WhP w r e w':=by
 obtain⟨i1,i2⟩:=aD [] l hp hs;have ht:=Nv l;have hil:=Tq l hp;have eg:Ag (Ct l) []=Ct l:=by unfold Ag;simp
 have e0:Ag (Ct l) []++Cs (Fq l)=Ay l:=by rw[eg];exact ht
 obtain⟨z,⟨f0,hf⟩,hq⟩:=hz (iQ (1+Bv (Ag (Ct l) [])) (Fq l));have hx:=Si (Ct l) [] hb (Fq l) i1 i2 (by rw[e0];exact hlen) (by omega) (f0+4*((Fq l).length+1)+4) (by omega) w hl;rw[e0]at hx;refine hx.mono ?_;intro e w' hp;have e1:Ca (f0+4*((Fq l).length+1)+4) ⟨[],[]⟩ (Dx (1+Bv (Ag (Ct l) [])) (Fq l))=z:=by
  have:=hf (f0+4*((Fq l).length+1)+4) (by omega);have e2:Nb 1 l=Ms (1+Bv (Ag (Ct l) [])) (Fq l):=by rw[eg];exact(aK l 1).symm
  rw[e2]at this;exact this
 rw[e1]at hp;exact⟨_,hq,hp⟩
def Dy {α β:Type}(p:PR α)(k:α→List Tk→PR β):PR β:=match p with
 | .error e=> .error e
 | .ok (x,r)=>k x r
def orP {α:Type}(s:Bs)(l:List Tk)(p:List Tk→PR α)(q:PR α):PR α:=match Bh s l with
 |some r=>p r
 |none=>q
def Dg {α:Type}(s:Bs)(l:List Tk)(p:List Tk→PR α):PR α:=match Ao s l with
 | .error e=> .error e
 | .ok r=>p r
def RelZ {α:Type}(B Z:List Tk)(L:Int)(x:α)(rest:List Tk)(z:PR α):Prop:=
 (∃A,rest=A++B∧z= .ok (x,A++Z))∨z= .error L∨∃x',z= .ok (x',Z)
def FinZ {α:Type}(Z:List Tk)(L:Int)(z:PR α):Prop:=z= .error L∨∃x',z= .ok (x',Z)
def EvZ {α:Type}(Z:List Tk)(L:Int)(q:Nat→List Tk→PR α):Prop:= ∃z,Ev (fun g=>q g Z) z∧FinZ Z L z
def Av {α:Type}(B Z:List Tk)(L:Int)(p:List Tk→PR α)(q:Nat→List Tk→PR α):Prop:=
 EvZ Z L q∧∀a A x rest,p (a::(A++B))= .ok (x,rest)→∃z,Ev (fun g=>q g (a::(A++Z))) z∧RelZ B Z L x rest z
section
variable {B Z:List Tk} {L:Int}
theorem Av.at {α:Type}{p:List Tk→PR α}{q:Nat→List Tk→PR α}(h:Av B Z L p q):∀A x rest,p (A++B)= .ok (x,rest)→∃z,Ev (fun g=>q g (A++Z)) z∧RelZ B Z L x rest z
 |[],x,rest,e=>by obtain⟨z,h1,h2⟩:=h.1;exact⟨z,h1,.inr h2⟩
 |a::A,x,rest,e=>h.2 a A x rest e
theorem Av.congr {α:Type}{p p':List Tk→PR α}{q q':Nat→List Tk→PR α}(h:Av B Z L p' q')(hp:∀l,p l=p' l)(hq:∀g l,q (g+1) l=q' g l):Av B Z L p q:=by
 refine⟨?_,fun a A x rest e=> ?_⟩
 ·obtain⟨z,h1,h2⟩:=h.1
  exact⟨z,Ev.one h1 (fun f e=>by(try dsimp only at e ⊢);rw[hq];exact e),h2⟩
 ·rw[hp]at e
  obtain⟨z,h1,h2⟩:=h.2 a A x rest e;exact⟨z,Ev.one h1 (fun f e=>by(try dsimp only at e ⊢);rw[hq];exact e),h2⟩
theorem Av.same {α:Type}{p p':List Tk→PR α}{q q':Nat→List Tk→PR α}(h:Av B Z L p' q')(hp:∀l,p l=p' l)(hq:∀g l,q g l=q' g l):Av B Z L p q:=by
 obtain rfl:p=p':=funext hp;obtain rfl:q=q':=funext fun g=>funext (hq g)
 exact h
theorem Av.zero {α:Type}{p:List Tk→PR α}{q:Nat→List Tk→PR α}(h:EvZ Z L q)(hp:∀l,p l= .error (Lc l)):Av B Z L p q:=
 ⟨h,fun a A x rest e=>by rw[hp]at e;cases e⟩
theorem Av.ret {α:Type}(x:α):Av B Z L (fun l=> .ok (x,l)) (fun _ l=> .ok (x,l)):=
 ⟨⟨_,Ev.pure (fun _=>rfl),.inr ⟨x,rfl⟩⟩,fun a A y rest e=>by cases e;exact⟨_,Ev.pure (fun _=>rfl),.inl ⟨a::A,rfl,rfl⟩⟩⟩
theorem Av.bind {α β:Type}{p:List Tk→PR α}{q:Nat→List Tk→PR α}{p2:α→List Tk→PR β}{q2:α→Nat→List Tk→PR β}(h1:Av B Z L p q)(h2:∀x,Av B Z L (p2 x) (q2 x)):
  Av B Z L (fun l=>Dy (p l) p2) (fun g l=>Dy (q g l) (fun x r=>q2 x g r)):=by
 refine⟨?_,fun a A x rest e=> ?_⟩
 ·obtain⟨z,ev,rfl|⟨x',rfl⟩⟩:=h1.1
  ·exact⟨_,Ev.map ev (fun g e=>by(try dsimp only at e ⊢);rw[e];rfl),.inl rfl⟩
  ·obtain⟨z2,ev2,hz⟩:=(h2 x').1
   exact⟨z2,Ev.map2 ev ev2 (fun g e e2=>by(try dsimp only at e e2 ⊢);rw[e];exact e2),hz⟩
 ·(try dsimp only at e)
  cases hp:p (a::(A++B))with
  |error o=>rw[hp]at e;cases e
  |ok yr=>
   obtain⟨y,r⟩:=yr;rw[hp]at e;replace e:p2 y r= .ok (x,rest):=e;obtain⟨z,ev,⟨A',rfl,rfl⟩|rfl|⟨x',rfl⟩⟩:=h1.2 a A y r hp
   ·obtain⟨z2,ev2,hz⟩:=(h2 y).at A' x rest e
    exact⟨z2,Ev.map2 ev ev2 (fun g e e2=>by(try dsimp only at e e2 ⊢);rw[e];exact e2),hz⟩
   ·exact⟨_,Ev.map ev (fun g e=>by(try dsimp only at e ⊢);rw[e];rfl),.inr (.inl rfl)⟩
   ·obtain⟨z2,ev2,hz⟩:=(h2 x').1
    exact⟨z2,Ev.map2 ev ev2 (fun g e e2=>by(try dsimp only at e e2 ⊢);rw[e];exact e2),.inr hz⟩
theorem gC {α:Type}{s:Bs}{a:Tk}{l:List Tk}{p:List Tk→PR α}{q:PR α}(h:isP s a=true):orP s (a::l) p q=p l:=by unfold orP;rw[An h]
theorem or_no {α:Type}{s:Bs}{a:Tk}{l:List Tk}{p:List Tk→PR α}{q:PR α}(h:isP s a=false):orP s (a::l) p q=q:=by unfold orP;rw[Af h]
theorem Xe {α:Type}{s:Bs}{a:Tk}{l:List Tk}{p:List Tk→PR α}(h:isP s a=true):Dg s (a::l) p=p l:=by unfold Dg;rw[Bz h]
theorem dX {α:Type}{s:Bs}{a:Tk}{l:List Tk}{p:List Tk→PR α}(h:isP s a=false):Dg s (a::l) p= .error a.line:=by unfold Dg Ao;rw[Af h];rfl
theorem Av.orW {α:Type}{s:Bs}{p1 p2:List Tk→PR α}{q1 q2:Nat→List Tk→PR α}(h1:Av B Z L p1 q1)(h2:Av B Z L p2 q2)(hz:EvZ Z L (fun g l=>orP s l (q1 g) (q2 g l))):
  Av B Z L (fun l=>orP s l p1 (p2 l)) (fun g l=>orP s l (q1 g) (q2 g l)):=by
 refine⟨hz,fun a A x rest e=> ?_⟩;(try dsimp only at e)
 cases hs:isP s a with
 |true=>
  rw[gC hs]at e;obtain⟨z,ev,hz⟩:=h1.at A x rest e;exact⟨z,Ev.map ev (fun g e=>by(try dsimp only at e ⊢);rw[gC hs];exact e),hz⟩
 |false=>
  rw[or_no hs]at e;obtain⟨z,ev,hz⟩:=h2.at (a::A) x rest e;exact⟨z,Ev.map ev (fun g e=>by(try dsimp only at e ⊢);rw[or_no hs];exact e),hz⟩
theorem Av.or {α:Type}{s:Bs}{p1 p2:List Tk→PR α}{q1 q2:Nat→List Tk→PR α}(hs:Bh s Z=none)(h1:Av B Z L p1 q1)(h2:Av B Z L p2 q2):
  Av B Z L (fun l=>orP s l p1 (p2 l)) (fun g l=>orP s l (q1 g) (q2 g l)):=by
 refine Av.orW h1 h2 ?_;obtain⟨z,ev,hz⟩:=h2.1;exact⟨z,Ev.map ev (fun g e=>by(try dsimp only at e ⊢);unfold orP;rw[hs];exact e),hz⟩
theorem Av.want {α:Type}{s:Bs}{p:List Tk→PR α}{q:Nat→List Tk→PR α}(hs:Ao s Z= .error L)(h:Av B Z L p q):
  Av B Z L (fun l=>Dg s l p) (fun g l=>Dg s l (q g)):=by
 refine⟨⟨.error L,Ev.pure (fun g=>by(try dsimp only);unfold Dg;rw[hs]),.inl rfl⟩,fun a A x rest e=> ?_⟩;(try dsimp only at e)
 cases hs:isP s a with
 |true=>
  rw[Xe hs]at e;obtain⟨z,ev,hz⟩:=h.at A x rest e;exact⟨z,Ev.map ev (fun g e=>by(try dsimp only at e ⊢);rw[Xe hs];exact e),hz⟩
 |false=>rw[dX hs]at e;cases e
theorem Av.kind {k:Int}(hz:Gt k Z= .error L):Av B Z L (Gt k) (fun _=>Gt k):=by
 refine⟨⟨_,Ev.pure (fun _=>hz),.inl rfl⟩,fun a A x rest e=> ?_⟩;replace e:(if a.kind=k then(.ok (a,A++B):PR Tk)else .error a.line)= .ok (x,rest):=e
 by_cases hk:a.kind=k
 ·rw[if_pos hk]at e
  cases e
  exact⟨_,Ev.pure (fun _=>(show(if a.kind=k then(.ok (a,A++Z):PR Tk)else .error a.line)= .ok (a,A++Z)by rw[if_pos hk])),.inl ⟨A,rfl,rfl⟩⟩
 ·rw[if_neg hk]at e;cases e
end
section
variable {B zr:List Tk} {L:Int} {e1 e2:Tk}
structure Iw (L:Int)(e1 e2:Tk):Prop where
 k1:e1.kind=2
 t1:e1.text=[101,108,115,101]
 l1:e1.line=L
 k2:e2.kind=2
 t2:e2.text=[101,108,115,101]
 l2:e2.line=L
variable (h:Iw L e1 e2)
include h
theorem Iw.isnt {s:Bs}(hs:([101,108,115,101]==s)=false):isP s e1=false:=Cy (by rw[h.t1];simpa using hs)
theorem Iw.take {s:Bs}(hs:([101,108,115,101]==s)=false):Bh s (e1::e2::zr)=none:=Af (h.isnt hs)
theorem Iw.want {s:Bs}(hs:([101,108,115,101]==s)=false):Ao s (e1::e2::zr)= .error L:=by unfold Ao;rw[h.take hs];show Except.error e1.line=_;rw[h.l1]
theorem Iw.kind {k:Int}(hk:k≠2):Gt k (e1::e2::zr)= .error L:=by
 show(if e1.kind=k then(.ok (e1,e2::zr):PR Tk)else .error e1.line)=_
 rw[if_neg (by rw[h.k1];exact fun e=>hk e.symm),h.l1]
theorem Iw.name:Dk (e1::e2::zr)= .error L:=by unfold Dk;rw[h.kind (by decide)]
theorem Iw.bin(lv:Int):Cw lv (e1::e2::zr)=0:=Xj (by rw[h.t1];decide)
theorem Iw.tight(f:Nat):Bf (f+1) (e1::e2::zr)= .error L:=by
 have u:Ea (e1::e2::zr)=none:=by unfold Ea;rw[h.take (by decide),h.take (by decide),h.take (by decide)]
 rw[Bf,u];dsimp only;rw[h.take (by decide)];dsimp only;rw[h.take (by decide)];dsimp only;rw[if_neg (by rw[h.k1];decide),if_neg (by rw[h.k1];decide),h.l1]
theorem Iw.climb(f:Nat)(lv:Int):Ba (f+2) lv (e1::e2::zr)= .error L:=by rw[Ba,h.tight]
theorem Iw.loop(f:Nat)(lv:Int)(x:Ex):Gh (f+1) lv x (e1::e2::zr)= .ok (x,e1::e2::zr):=by rw[Gh,if_pos (h.bin lv)]
theorem Iw.named(f:Nat)(s:Bs):Cp (f+1) s (e1::e2::zr)= .ok (.mk 2 0 0 s [],e1::e2::zr):=by
 rw[Cp,h.take (by decide)];dsimp only;rw[h.take (by decide)]
theorem Iw.more(f:Nat)(a:List Ex):Fy (f+3) a (e1::e2::zr)= .error L:=by rw[Fy,h.climb]
theorem Iw.args(f:Nat):Ej (f+4) (e1::e2::zr)= .error L:=by rw[Ej,h.take (by decide)];dsimp only;rw[h.more]
theorem Iw.simple(f:Nat):Ap f (e1::e2::zr)= .error L:=by
 unfold Ap;rw[h.take (by decide)];dsimp only;rw[h.take (by decide)];dsimp only;rw[h.take (by decide)];dsimp only;rw[h.take (by decide)];dsimp only;rw[h.take (by decide)];dsimp only;rw[h.name]
theorem Iw.stmt(f:Nat):Cx (f+1) (e1::e2::zr)= .error L:=by
 rw[Cx,h.take (by decide)];dsimp only;rw[h.take (by decide)];dsimp only;rw[h.simple]
theorem Iw.stmts(f:Nat)(a:List St):Co (f+2) a (e1::e2::zr)= .error L:=by
 rw[Co,h.take (by decide)];dsimp only;rw[h.stmt]
theorem Iw.pars(f:Nat)(a:List Bs):Ha (f+1) a (e1::e2::zr)= .error L:=by rw[Ha,h.want (by decide)]
theorem Iw.locals(f:Nat)(a:List Bs):Dv (f+1) a (e1::e2::zr)= .ok (a,e1::e2::zr):=by rw[Dv,h.take (by decide)]
theorem Iw.prog(f:Nat)(p:Pr):Ca (f+1) p (e1::e2::zr)= .error L:=by
 rw[Ca,if_neg (show ¬((e1::e2::zr).head?.map (·.kind)).getD 0=5 by show ¬e1.kind=5;rw[h.k1];decide),h.want (by decide)]
theorem Kc {α:Type}{q:Nat→List Tk→PR α}(k:Nat)(hq:∀f,q (f+k) (e1::e2::zr)= .error L):EvZ (e1::e2::zr) L q:=
 ⟨.error L,⟨k,fun f hf=>by obtain⟨m,rfl⟩:∃m,f=m+k:=⟨f - k,by omega⟩;exact hq m⟩,.inl rfl⟩
theorem Yn {α:Type}{q:Nat→List Tk→PR α}(x:α)(hq:∀f,q (f+1) (e1::e2::zr)= .ok (x,e1::e2::zr)):EvZ (e1::e2::zr) L q:=
 ⟨_,Ev.const hq,.inr ⟨x,rfl⟩⟩
def Wx(f:Nat)(l:List Tk):PR Ex:=match l with
 |[]=> .error 0
 |t::r=>if t.kind=3 then .ok (.mk 1 0 t.num [] [],r)else if t.kind=1 then Cp f t.text r else .error t.line
omit h in
theorem eO(f:Nat)(lv:Int)(l:List Tk):Ba (f+1) lv l=Dy (Bf f l) (fun x r=>Gh f lv x r):=by rw[Ba];kernel_rfl
omit h in
theorem cD(f:Nat)(l:List Tk):Bf (f+1) l=orP (Aq 17) l (fun r=>Dy (Bf f r) (fun x r=> .ok (.mk 3 17 0 [] [x],r))) (orP (Aq 18) l (fun r=>Dy (Bf f r) (fun x r=> .ok (.mk 3 18 0 [] [x],r))) (orP (Aq 19) l (fun r=>Dy (Bf f r) (fun x r=> .ok (.mk 3 19 0 [] [x],r)))
  (orP [40] l (fun r=>Dy (Ba f 1 r) (fun x r=>Dg [41] r (fun r=> .ok (x,r)))) (orP [114,101,97,100] l (fun r=>Dg [40] r (fun r=>Dg [41] r (fun r=> .ok (.mk 7 0 0 [] [],r)))) (Wx f l))))):=by
 rw[Bf.eq_def];dsimp only;unfold Ea;unfold orP
 cases Bh (Aq 17) l with
 |some r=>kernel_rfl
 |none=>
  cases Bh (Aq 18) l with
  |some r=>kernel_rfl
  |none=>
   cases Bh (Aq 19) l with
   |some r=>kernel_rfl
   |none=>kernel_rfl
omit h in
theorem eW(f:Nat)(s:Bs)(l:List Tk):Cp (f+1) s l=orP [40] l (fun r=>Dy (Ej f r) (fun a r=> .ok (.mk 5 0 0 s a,r))) (orP [91] l (fun r=>Dy (Ba f 1 r) (fun x r=>Dg [93] r (fun r=> .ok (.mk 6 0 0 s [x],r)))) (.ok (.mk 2 0 0 s [],l))):=by rw[Cp];kernel_rfl
omit h in
theorem kB(f:Nat)(l:List Tk):Ej (f+1) l=orP [41] l (fun r=> .ok ([],r)) (Fy f [] l):=by rw[Ej];kernel_rfl
omit h in
theorem kD(f:Nat)(a:List Ex)(l:List Tk):Fy (f+1) a l=Dy (Ba f 1 l) (fun x r=>orP [44] r (fun r=>Fy f (a++[x]) r) (Dg [41] r (fun r=> .ok (a++[x],r)))):=by rw[Fy];kernel_rfl
theorem Ty:∀f:Nat,(∀lv,Av B (e1::e2::zr) L (Ba f lv) (fun g=>Ba g lv))∧(∀lv x,Av B (e1::e2::zr) L (Gh f lv x) (fun g=>Gh g lv x))∧Av B (e1::e2::zr) L (Bf f) Bf∧(∀s,Av B (e1::e2::zr) L (Cp f s) (fun g=>Cp g s))∧Av B (e1::e2::zr) L (Ej f) Ej∧(∀a,Av B (e1::e2::zr) L (Fy f a) (fun g=>Fy g a))
 |0=>⟨fun lv=> .zero (Kc h 2 (fun f=>h.climb f lv)) (fun l=>by rw[Ba]),fun lv x=> .zero (Yn h x (fun f=>h.loop f lv x)) (fun l=>by rw[Gh]),.zero (Kc h 1 h.tight) (fun l=>by rw[Bf]),
  fun s=> .zero (Yn h _ (fun f=>h.named f s)) (fun l=>by rw[Cp]),.zero (Kc h 4 h.args) (fun l=>by rw[Ej]),fun a=> .zero (Kc h 3 (fun f=>h.more f a)) (fun l=>by rw[Fy])⟩
 |f+1=>by
  obtain⟨ic,il,it,inm,ia,im⟩:=Ty f;have h40:=h.take (zr:=zr) (s:=[40]) (by decide);have h41:=h.want (zr:=zr) (s:=[41]) (by decide);refine⟨fun lv=> ?_,fun lv x=> ?_,?_,fun s=> ?_,?_,fun a=> ?_⟩
  ·exact Av.congr (Av.bind it (fun x=>il lv x)) (eO f lv) (fun g=>eO g lv)
  ·refine⟨Yn h x (fun f=>h.loop f lv x),fun a A y rest e=> ?_⟩
   rw[Gh]at e;have eb:Cw lv (a::(A++(e1::e2::zr)))=Cw lv (a::(A++B)):=rfl;split at e
   ·rename_i h0
    cases e
    exact⟨_,Ev.const (fun g=>by(try dsimp only);rw[Gh,eb,if_pos h0];rfl),.inl ⟨a::A,rfl,rfl⟩⟩
   ·rename_i h0
    have ht:=Av.bind (ic (Am (Cw lv (a::(A++B)))+1)) (fun y=>il lv (.mk 4 (Cw lv (a::(A++B))) 0 [] [x,y]));obtain⟨z,ev,hz⟩:=ht.at A y rest (by
     rw[←e];kernel_rfl)
    exact⟨z,Ev.one ev (fun g e=>by(try dsimp only at e ⊢);rw[Gh,eb,if_neg h0];exact Eq.trans (by kernel_rfl) e),hz⟩
  ·have un:∀o:Int,Av B (e1::e2::zr) L (fun r=>Dy (Bf f r) (fun x r=>(.ok (Ex.mk 3 o 0 [] [x],r):PR Ex))) (fun g r=>Dy (Bf g r) (fun x r=>(.ok (Ex.mk 3 o 0 [] [x],r):PR Ex))):=fun o=>Av.bind it (fun x=>Av.ret _)
   refine Av.congr (Av.or (h.take (by decide)) (un 17) (Av.or (h.take (by decide)) (un 18) (Av.or (h.take (by decide)) (un 19) (Av.or h40 (Av.bind (ic 1) (fun x=>Av.want h41 (Av.ret _))) (Av.or (h.take (by decide)) (Av.want (h.want (by decide)) (Av.want h41 (Av.ret _))) (q2:=Wx) (p2:=Wx f) ?_))))) (cD f) (fun g=>cD g);refine⟨Kc h 0 (fun f=>by show(if e1.kind=3 then _ else _)=_;rw[if_neg (by rw[h.k1];decide),if_neg (by rw[h.k1];decide),h.l1]),fun a A x rest e=> ?_⟩;unfold Wx at e;dsimp only at e
   by_cases h3:a.kind=3
   ·rw[if_pos h3]at e
    cases e
    exact⟨_,Ev.pure (fun g=>by(try dsimp only);unfold Wx;dsimp only;rw[if_pos h3]),.inl ⟨A,rfl,rfl⟩⟩
   ·rw[if_neg h3]at e
    by_cases h1:a.kind=1
    ·rw[if_pos h1]at e
     obtain⟨z,ev,hz⟩:=(inm a.text).at A x rest e;exact⟨z,Ev.map ev (fun g e=>by(try dsimp only at e ⊢);unfold Wx;dsimp only;rw[if_neg h3,if_pos h1];exact e),hz⟩
    ·rw[if_neg h1]at e;cases e
  ·exact Av.congr (Av.or h40 (Av.bind ia (fun a=>Av.ret _)) (Av.or (h.take (by decide)) (Av.bind (ic 1) (fun x=>Av.want (h.want (by decide)) (Av.ret _))) (Av.ret _))) (eW f s) (fun g=>eW g s)
  ·exact Av.congr (Av.or (h.take (by decide)) (Av.ret _) (im [])) (kB f) kB
  ·exact Av.congr (Av.bind (ic 1) (fun x=>Av.or (h.take (by decide)) (im (a++[x])) (Av.want h41 (Av.ret _)))) (kD f a) (fun g=>kD g a)
theorem Op:Av B (e1::e2::zr) L Dk (fun _=>Dk):=
 Av.same (Av.bind (Av.kind (k:=1) (h.kind (by decide))) (fun t=>Av.ret t.text)) (fun l=>by unfold Dk Dy;kernel_rfl) (fun g l=>by unfold Dk Dy;kernel_rfl)
theorem Tb(f:Nat):Av B (e1::e2::zr) L (Ce f) Ce:=
 Av.same (Av.want (s:=[40]) (h.want (by decide)) (Av.bind ((Ty h f).1 1) (fun x=>Av.want (s:=[41]) (h.want (by decide)) (Av.ret x)))) (fun l=>by kernel_rfl) (fun g l=>by kernel_rfl)
theorem cK(f:Nat):Av B (e1::e2::zr) L (Ap f) Ap:=by
 have hi:=Tb (B:=B) (zr:=zr) h f;have hc:=(Ty (B:=B) (zr:=zr) h f).1 1;have ha:=(Ty (B:=B) (zr:=zr) h f).2.2.2.2.1;exact Av.same (Av.or (s:=[98,114,101,97,107]) (h.take (by decide)) (Av.ret (.mk 5 [] [] [] [])) (Av.or (s:=[99,111,110,116,105,110,117,101]) (h.take (by decide)) (Av.ret (.mk 6 [] [] [] [])) (Av.or (s:=[114,101,116,117,114,110]) (h.take (by decide)) (Av.bind hc (fun x=>Av.ret (.mk 7 [] [x] [] [])))
  (Av.or (s:=[112,114,105,110,116]) (h.take (by decide)) (Av.bind hi (fun x=>Av.ret (.mk 8 [] [x] [] []))) (Av.or (s:=[116,114,97,112]) (h.take (by decide)) (Av.bind hi (fun x=>Av.ret (.mk 9 [] [x] [] [])))
  (Av.bind (Op h) (fun s=>Av.or (s:=[40]) (h.take (by decide)) (Av.bind ha (fun a=>Av.ret (.mk 10 [] [.mk 5 0 0 s a] [] [])))
   (Av.or (s:=[91]) (h.take (by decide)) (Av.bind hc (fun x=>Av.want (s:=[93]) (h.want (by decide)) (Av.want (s:=[61]) (h.want (by decide)) (Av.bind hc (fun y=>Av.ret (.mk 2 s [x,y] [] []))))))
    (Av.want (s:=[61]) (h.want (by decide)) (Av.bind hc (fun x=>Av.ret (.mk 1 s [x] [] [])))))))))))) (fun l=>by kernel_rfl) (fun g l=>by kernel_rfl)
theorem mG {α:Type}{p1 p2:List Tk→PR α}{q1 q2:Nat→List Tk→PR α}(h1:Av B (e1::e2::zr) L p1 q1)(h2:Av B (e1::e2::zr) L p2 q2):
  Av B (e1::e2::zr) L (fun l=>orP [101,108,115,101] l (fun r=>Dg [123] r p1) (p2 l)) (fun g l=>orP [101,108,115,101] l (fun r=>Dg [123] r (q1 g)) (q2 g l)):=by
 refine Av.orW (q1:=fun g r=>Dg [123] r (q1 g)) (Av.want (h.want (by decide)) h1) h2 ⟨.error L,Ev.pure (fun g=> ?_),.inl rfl⟩;(try dsimp only);rw[gC (by unfold isP;rw[h.k1,h.t1];rfl),dX (Cy (by rw[h.t2];decide)),h.l2]
theorem jT:∀f:Nat,Av B (e1::e2::zr) L (Cx f) Cx∧∀a,Av B (e1::e2::zr) L (Co f a) (fun g=>Co g a)
 |0=>⟨.zero (Kc h 1 h.stmt) (fun l=>by rw[Cx]),fun a=> .zero (Kc h 2 (fun f=>h.stmts f a)) (fun l=>by rw[Co])⟩
 |f+1=>by
  obtain⟨is,il⟩:=jT f;have hi:=Tb (B:=B) (zr:=zr) h f;have hs:=cK (B:=B) (zr:=zr) h f;refine⟨?_,fun a=> ?_⟩
  ·refine Av.congr (Av.or (s:=[105,102]) (h.take (by decide)) (Av.bind hi (fun x=>Av.want (s:=[123]) (h.want (by decide)) (Av.bind (il []) (fun a=>mG h (Av.bind (il []) (fun b=>Av.ret (.mk 3 [] [x] a b))) (Av.ret (.mk 3 [] [x] a []))))))
    (Av.or (s:=[119,104,105,108,101]) (h.take (by decide)) (Av.bind hi (fun x=>Av.want (s:=[123]) (h.want (by decide)) (Av.bind (il []) (fun a=>Av.ret (.mk 4 [] [x] a [])))))
     (Av.bind hs (fun x=>Av.want (s:=[59]) (h.want (by decide)) (Av.ret x))))) (fun l=> ?_) (fun g l=> ?_)
   ·rw[Cx];unfold orP Dg Dy
    cases Bh [105,102] l with
    |none=>kernel_rfl
    |some r=>
     dsimp only
     cases Ce f r with
     |error e=>kernel_rfl
     |ok xr=>
      dsimp only
      cases Ao [123] xr.2 with
      |error e=>kernel_rfl
      |ok r=>
       dsimp only
       cases Co f [] r with
       |error e=>kernel_rfl
       |ok ar=>
        dsimp only
        cases Bh [101,108,115,101] ar.2<;>kernel_rfl
   ·rw[Cx];unfold orP Dg Dy
    cases Bh [105,102] l with
    |none=>kernel_rfl
    |some r=>
     dsimp only
     cases Ce g r with
     |error e=>kernel_rfl
     |ok xr=>
      dsimp only
      cases Ao [123] xr.2 with
      |error e=>kernel_rfl
      |ok r=>
       dsimp only
       cases Co g [] r with
       |error e=>kernel_rfl
       |ok ar=>
        dsimp only
        cases Bh [101,108,115,101] ar.2<;>kernel_rfl
  ·exact Av.congr (Av.or (s:=[125]) (h.take (by decide)) (Av.ret a) (Av.bind is (fun x=>il (a++[x])))) (fun l=>by rw[Co];kernel_rfl) (fun g l=>by rw[Co];kernel_rfl)
theorem Xz:∀(f:Nat) a,Av B (e1::e2::zr) L (Ha f a) (fun g=>Ha g a)
 |0,a=> .zero (Kc h 1 (fun f=>h.pars f a)) (fun l=>by rw[Ha])
 |f+1,a=>Av.congr (Av.want (s:=[105,110,116]) (h.want (by decide)) (Av.bind (Op h) (fun s=>Av.or (s:=[44]) (h.take (by decide)) (Xz f (a++[s])) (Av.want (s:=[41]) (h.want (by decide)) (Av.ret (a++[s])))))) (fun l=>by rw[Ha];kernel_rfl) (fun g l=>by rw[Ha];kernel_rfl)
theorem Sz:∀(f:Nat) a,Av B (e1::e2::zr) L (Dv f a) (fun g=>Dv g a)
 |0,a=> .zero (Yn h a (fun f=>h.locals f a)) (fun l=>by rw[Dv])
 |f+1,a=>Av.congr (Av.or (s:=[105,110,116]) (h.take (by decide)) (Av.bind (Op h) (fun s=>Av.want (s:=[59]) (h.want (by decide)) (Sz f (a++[s])))) (Av.ret a)) (fun l=>by rw[Dv];unfold orP;cases Bh [105,110,116] l<;>kernel_rfl) (fun g l=>by rw[Dv];unfold orP;cases Bh [105,110,116] l<;>kernel_rfl)
theorem qL(f:Nat)(s:Bs):Av B (e1::e2::zr) L (Cj f s) (fun g=>Cj g s):=
 Av.same (Av.bind (Av.or (s:=[41]) (h.take (by decide)) (Av.ret []) (Xz h f [])) (fun ps=>Av.want (s:=[123]) (h.want (by decide)) (Av.bind (Sz h f []) (fun ls=>Av.bind ((jT h f).2 []) (fun b=>Av.ret ⟨s,ps,ls,b⟩))))) (fun l=>by kernel_rfl) (fun g l=>by kernel_rfl)
theorem Rj:∀(f:Nat) (p:Pr),Av B (e1::e2::zr) L (Ca f p) (fun g=>Ca g p)
 |0,p=> .zero (Kc h 1 (fun f=>h.prog f p)) (fun l=>by rw[Ca])
 |f+1,p=>by
  have hf:∀s,Av B (e1::e2::zr) L (fun r=>Dg [40] r (fun r=>Dy (Cj f s r) (fun x r=>Ca f {p with funcs:=p.funcs++[x]} r))) (fun g r=>Dg [40] r (fun r=>Dy (Cj g s r) (fun x r=>Ca g {p with funcs:=p.funcs++[x]} r))):=fun s=>Av.want (s:=[40]) (h.want (by decide)) (Av.bind (qL h f s) (fun x=>Rj f {p with funcs:=p.funcs++[x]}))
  have ha:∀s,Av B (e1::e2::zr) L (fun r=>Dy (Gt 3 r) (fun t r=>Dg [93] r (fun r=>Dg [59] r (fun r=>Ca f {p with arrays:=p.arrays++[⟨s,t.num⟩]} r)))) (fun g r=>Dy (Gt 3 r) (fun t r=>Dg [93] r (fun r=>Dg [59] r (fun r=>Ca g {p with arrays:=p.arrays++[⟨s,t.num⟩]} r)))):=fun s=>Av.bind (Av.kind (k:=3) (h.kind (by decide))) (fun t=>Av.want (s:=[93]) (h.want (by decide)) (Av.want (s:=[59]) (h.want (by decide)) (Rj f {p with arrays:=p.arrays++[⟨s,t.num⟩]})))
  have hw:Av B (e1::e2::zr) L (fun l=>Dg [105,110,116] l (fun r=>Dy (Dk r) (fun s r=>if p.funcs.isEmpty=true then orP [91] r (fun r=>Dy (Gt 3 r) (fun t r=>Dg [93] r (fun r=>Dg [59] r (fun r=>Ca f {p with arrays:=p.arrays++[⟨s,t.num⟩]} r)))) (Dg [40] r (fun r=>Dy (Cj f s r) (fun x r=>Ca f {p with funcs:=p.funcs++[x]} r)))else Dg [40] r (fun r=>Dy (Cj f s r) (fun x r=>Ca f {p with funcs:=p.funcs++[x]} r)))))
    (fun g l=>Dg [105,110,116] l (fun r=>Dy (Dk r) (fun s r=>if p.funcs.isEmpty=true then orP [91] r (fun r=>Dy (Gt 3 r) (fun t r=>Dg [93] r (fun r=>Dg [59] r (fun r=>Ca g {p with arrays:=p.arrays++[⟨s,t.num⟩]} r)))) (Dg [40] r (fun r=>Dy (Cj g s r) (fun x r=>Ca g {p with funcs:=p.funcs++[x]} r)))else Dg [40] r (fun r=>Dy (Cj g s r) (fun x r=>Ca g {p with funcs:=p.funcs++[x]} r))))):=by
   refine Av.want (s:=[105,110,116]) (h.want (by decide)) (Av.bind (Op h) (fun s=> ?_) (q2:=fun s g r=>if p.funcs.isEmpty=true then orP [91] r (fun r=>Dy (Gt 3 r) (fun t r=>Dg [93] r (fun r=>Dg [59] r (fun r=>Ca g {p with arrays:=p.arrays++[⟨s,t.num⟩]} r)))) (Dg [40] r (fun r=>Dy (Cj g s r) (fun x r=>Ca g {p with funcs:=p.funcs++[x]} r)))else Dg [40] r (fun r=>Dy (Cj g s r) (fun x r=>Ca g {p with funcs:=p.funcs++[x]} r))))
   by_cases he:p.funcs.isEmpty=true
   ·simp only[if_pos he]
    exact Av.or (s:=[91]) (h.take (by decide)) (ha s) (hf s)
   ·simp only[if_neg he]
    exact hf s
  have eq:∀g l,Ca (g+1) p l=if(l.head?.map (·.kind)).getD 0=5 then .ok (p,l)else Dg [105,110,116] l (fun r=>Dy (Dk r) (fun s r=>if p.funcs.isEmpty=true then orP [91] r (fun r=>Dy (Gt 3 r) (fun t r=>Dg [93] r (fun r=>Dg [59] r (fun r=>Ca g {p with arrays:=p.arrays++[⟨s,t.num⟩]} r)))) (Dg [40] r (fun r=>Dy (Cj g s r) (fun x r=>Ca g {p with funcs:=p.funcs++[x]} r)))else Dg [40] r (fun r=>Dy (Cj g s r) (fun x r=>Ca g {p with funcs:=p.funcs++[x]} r)))):=by
   intro g l;rw[Ca]
   by_cases h5:(l.head?.map (·.kind)).getD 0=5
   ·rw[if_pos h5,if_pos h5]
   ·rw[if_neg h5,if_neg h5]
    by_cases he:p.funcs.isEmpty=true
    ·simp only[if_pos he];kernel_rfl
    ·simp only[if_neg he];kernel_rfl
  refine⟨Kc h 1 (fun f=>h.prog f p),fun a A x rest e=> ?_⟩;rw[eq]at e
  by_cases h5:a.kind=5
  ·rw[if_pos (show((a::(A++B)).head?.map (·.kind)).getD 0=5 from h5)]at e
   cases e
   exact⟨_,Ev.const (fun g=>by(try dsimp only);rw[eq,if_pos (show((a::(A++(e1::e2::zr))).head?.map (·.kind)).getD 0=5 from h5)];rfl),.inl ⟨a::A,rfl,rfl⟩⟩
  ·rw[if_neg (show ¬((a::(A++B)).head?.map (·.kind)).getD 0=5 from h5)]at e
   obtain⟨z,ev,hz⟩:=hw.2 a A x rest e;exact⟨z,Ev.one ev (fun g e=>by(try dsimp only at e ⊢);rw[eq,if_neg (show ¬((a::(A++(e1::e2::zr))).head?.map (·.kind)).getD 0=5 from h5)];exact e),hz⟩
omit h in
theorem Po:∀(f:Nat) (p x:Pr) (l rest:List Tk),Ca f p l= .ok (x,rest)→(rest.head?.map (·.kind)).getD 0=5
 |0,p,x,l,rest,e=>by rw[Ca]at e;cases e
 |f+1,p,x,l,rest,e=>by
  rw[Ca]at e;split at e
  ·rename_i h5;cases e;exact h5
  ·split at e
   ·cases e
   ·split at e
    ·cases e
    ·split at e
     ·split at e
      ·cases e
      ·split at e
       ·cases e
       ·split at e
        ·cases e
        ·exact Po f _ _ _ _ e
     ·split at e
      ·cases e
      ·split at e
       ·cases e
       ·exact Po f _ _ _ _ e
theorem Uh {f:Nat}{p0 p:Pr}{A:List Tk}{b u:Tk}{B':List Tk}(hb:Ca f p0 (A++b::B')= .ok (p,[u])):Ev (fun g=>Ca g p0 (A++e1::e2::zr)) (.error L):=by
 obtain⟨z,ev,hz⟩:=(Rj (zr:=zr) h f p0).at A p [u] hb;have no:∀x',z= .ok (x',e1::e2::zr)→False:=fun x' e=>by
  obtain⟨g,hg⟩:=ev;have:=Po g p0 x' _ _ ((hg g (Zl _)).trans e);have:e1.kind=5:=this;rw[h.k1]at this;exact absurd this (by decide)
 rcases hz with⟨A',e,ez⟩|rfl|⟨x',e⟩
 ·cases A' with
  |nil=>exact absurd ez (no p)
  |cons c A'=>
   have:=congrArg List.length e;simp at this
 ·exact ev
 ·exact absurd e (no x')
end
abbrev Lj(l:List Tk)(i:Nat):Tk:=l.getD i ⟨0,[],0,0⟩
def Vo(w:World)(l:List Tk)(v:Value):Prop:=
 ∃a cap b off,v= .slice a l.length cap∧l.length≤cap∧(l.length=0∨a=some ⟨b,off,none⟩)∧l.length≤1000000∧
  ∀i,i<l.length→w.cell? ⟨b,off+i*4,none⟩=some (.int .i64 (Lj l i).kind)∧w.cell? ⟨b,off+i*4+1,none⟩=some (.string (Aa (Lj l i).text))∧w.cell? ⟨b,off+i*4+2,none⟩=some (.int .i64 (Lj l i).num)∧w.cell? ⟨b,off+i*4+3,none⟩=some (.int .i64 (Lj l i).line)
theorem Vo.old {w w':World}{l:List Tk}{v:Value}(h:Vo w l v)(hb:Below w.heap.size w w'):Vo w' l v:=by
 obtain⟨a,cap,b,off,h1,hc,h2,h3,h4⟩:=h;exact⟨a,cap,b,off,h1,hc,h2,h3,fun i hi=>⟨Ad hb (h4 i hi).1,Ad hb (h4 i hi).2.1,Ad hb (h4 i hi).2.2.1,Ad hb (h4 i hi).2.2.2⟩⟩
theorem Vo.slice {w:World}{l:List Tk}{v:Value}(h:Vo w l v):∃a cap,v= .slice a l.length cap∧l.length≤cap:=by
 obtain⟨a,cap,b,off,h1,hc,_⟩:=h;exact⟨a,cap,h1,hc⟩
theorem Vo.at {w:World}{l:List Tk}{a:Option Addr}{n cap:Nat}(h:Vo w l (.slice a n cap))(i:Nat)(hi:i<l.length):∃b off,a=some ⟨b,off,none⟩∧b<w.heap.size∧
  w.cell? ⟨b,off+i*4,none⟩=some (.int .i64 (Lj l i).kind)∧w.cell? ⟨b,off+i*4+1,none⟩=some (.string (Aa (Lj l i).text))∧w.cell? ⟨b,off+i*4+2,none⟩=some (.int .i64 (Lj l i).num)∧w.cell? ⟨b,off+i*4+3,none⟩=some (.int .i64 (Lj l i).line):=by
 obtain⟨a',cap',b,off,h1,hc,h2,h3,h4⟩:=h
 cases h1
 rcases h2 with h2|h2
 ·omega
 ·exact⟨b,off,h2,World.block_lt_of_cell? _ _ (h4 i hi).1,h4 i hi⟩
theorem Gn.tks {w:World}{base:Nat}{l:List Tk}{v:Value}(h:Gn w base l v)(hl:l.length≤1000000):Vo w l v:=by
 have h0:=h;rcases h.2 with⟨rfl,hz⟩|⟨g,cap,cur,rfl,hb,hg,hc,r⟩
 ·have:l=[]:=List.length_eq_zero_iff.1 hz
  subst this;exact⟨none,0,0,0,rfl,Zl _,.inl rfl,hl,fun i hi=>absurd hi (Nat.not_lt_zero _)⟩
 ·refine⟨_,cap,g,0,rfl,hc,.inr rfl,hl,fun i hi=> ?_⟩
  have hp:l[i]? =some (Lj l i):=by simp [Lj,Zp hi]
  have c:∀q u,q<4→(Gd (Lj l i))[q]? =some u→w.cell? ⟨g,0+i*4+q,none⟩=some u:=fun q u hq hu=>by
   have:=zrow_at h0 (i*4+q) u (by rw[We Gd 4 (fun _=>rfl) l i q _ hp hq];exact hu)
   rwa[Nat.zero_add]
  exact⟨c 0 _ (by decide) rfl,c 1 _ (by decide) rfl,c 2 _ (by decide) rfl,c 3 _ (by decide) rfl⟩
theorem Ae.tks {w:World}{b:Nat}{l:List Tk}{T:TypeId}(h:Ae w b (l.flatMap Gd) T)(hl:l.length≤1000000):Vo w l (.slice (some ⟨b,0,none⟩) l.length l.length):=by
 refine⟨_,l.length,b,0,rfl,Zl _,.inr rfl,hl,fun i hi=> ?_⟩;have hp:l[i]? =some (Lj l i):=by simp [Lj,Zp hi]
 have c:∀q u,q<4→(Gd (Lj l i))[q]? =some u→w.cell? ⟨b,0+i*4+q,none⟩=some u:=fun q u hq hu=>by
  have:=h.at (i*4+q) u (by rw[We Gd 4 (fun _=>rfl) l i q _ hp hq];exact hu)
  rwa[Nat.zero_add]
 exact⟨c 0 _ (by decide) rfl,c 1 _ (by decide) rfl,c 2 _ (by decide) rfl,c 3 _ (by decide) rfl⟩
def whL:List T3→List Pc
 |[]=>[]
 |x::l=> .t x:: .g [10]::whL l
def Ro:List Pc:=[wd [101,108,115,101],.g [32],wd [101,108,115,101]]
def Wh:Nat→List T3→List Tk
 |_,[]=>[]
 |n,x::l=>⟨x.kind,x.text,x.num,n⟩::Wh (n+1) l
theorem jX:∀(l:List T3) (n:Nat),Nb n (whL l)=Wh n l
 |[],n=>rfl
 |x::l,n=>by show _::Nb (n+Bv [10]) (whL l)=_::Wh (n+1) l;rw[jX l];rfl
theorem kL:∀(l:List T3),fS (whL l)=l.length
 |[]=>rfl
 |x::l=>by show Bv [10]+fS (whL l)=l.length+1;rw[kL l,Nat.add_comm];rfl
theorem aQ:∀(l:List T3) (n:Nat),(Wh n l).map t3=l
 |[],n=>rfl
 |x::l,n=>by show x::(Wh (n+1) l).map t3=_;rw[aQ l]
theorem Wf {x:T3}:∀ {l:List Pc},x∈Gw l→Pc.t x∈l
 | .g b::l,h=>Zf _ (Wf (l:=l) h)
 | .t y::l,h=>by
  rcases List.mem_cons.1 (show x∈y::Gw l from h)with rfl|h
  ·exact Zc
  ·exact Zf _ (Wf h)
theorem pcs_tok {l:List Pc}(h:Be l):∀x,x∈Gw l→Oc x:=fun x hx=>h _ (Wf hx)
theorem rE:∀(l:List T3),(∀x,x∈l→Oc x)→Be (whL l)
 |[],_=> .nil
 |x::l,h=> .cons (h x Zc) (.sp (by decide) (rE l (fun y hy=>h y (Zf _ hy))))
theorem jO {S:Int→Bs→Bool}(hS:Mw S)(z:Bs):∀l:List T3,Ff S (whL l) z
 |[]=>trivial
 |x::l=>⟨hS.soft x.kind 10 _ (by decide),jO hS z l⟩
def In(l:List T3):Bs:=l.flatMap (fun x=>x.text++[10])
theorem eC:∀l:List T3,Ay (whL l)=In l
 |[]=>rfl
 |x::l=>by
  show x.text++([10]++Ay (whL l))=(x.text++[10])++In l
  rw[eC l,Zh]
theorem Rb:∀(l:List Pc),Be l→(In (Gw l)).length≤2*(Ay l).length
 |[],h=>Zl _
 | .g b::l,h=>by
  have:=Rb l (fun p hp=>h p (Zf _ hp));show(In (Gw l)).length≤2*(b++Ay l).length
  rw[Zb];omega
 | .t x::l,h=>by
  have:=Rb l (fun p hp=>h p (Zf _ hp));have h1:x.text≠[]:=rT (h (.t x) Zc);have h2:0<x.text.length:=List.length_pos_iff.2 h1;show((x.text++[10])++In (Gw l)).length≤2*(x.text++Ay l).length
  rw[Zb,Zb,Zb,List.length_singleton];omega
theorem bS(l:List T3)(k:Nat):(In (l.take k)).length≤(In l).length:=by
 have e:In l=In (l.take k)++In (l.drop k):=by unfold In;rw[←List.flatMap_append,List.take_append_drop]
 rw[e,Zb];omega
theorem bD {p:Pr}(hr:Ez p=true)(hn:∀g,g∈p.funcs→∀x,x∈g.body→Wr x):Be (Km p):=by
 obtain⟨h1,h2⟩:=Mh hr;exact .app (Tx _ _ fun a ha=>(kI (h1 a ha)).1) (Tx _ _ fun x hx=>fu_toks (h2 x hx) (hn x hx))
def Qf:Bs:=[101,108,115,101,32,101,108,115,101]
theorem nP {p:Pr}(hr:Ez p=true)(hn:∀g,g∈p.funcs→∀x,x∈g.body→Wr x)(hlen:(Fi p).length≤5000)(k:Nat)(hk:k≤(Gw (Km p)).length)(w:World)(hl:Iy w):
  Calls Zg 14 #[.string (Aa (In ((Gw (Km p)).take k)++Qf))] w (WhP w (⟨[],[]⟩,40,((1+k:Nat):Int))):=by
 obtain⟨h1,h2⟩:=Mh hr;have hok:=bD hr hn;have htk:=pcs_tok hok;have hsum:=Rb _ hok;rw[Rx]at hsum;have htake:=bS (Gw (Km p)) k;obtain⟨T,hT⟩:∃T,Gw (Km p)=T:=⟨_,rfl⟩;rw[hT]at hk htk hsum htake ⊢;have e0:Ay (whL (T.take k)++Ro)=In (T.take k)++Qf:=by rw[As,eC];rfl
 have hlt:(T.take k).length=k:=by rw[List.length_take];omega
 have hg:Mg (Ct (whL (T.take k)++Ro)) []:=by
  have:Ct (whL (T.take k)++Ro)=[]:=by
   cases T.take k with
   |nil=>rfl
   |cons a l=>rfl
  rw[this];exact Og
 have hs:Ff Lu (whL (T.take k)++Ro) []:=Zd (jO sepR _ _) ⟨sepR.soft 2 32 _ (by decide),sepR.nil 2,trivial⟩;rw[←e0];refine(oK (whL (T.take k)++Ro) (.app (rE _ fun x hx=>htk x (List.mem_of_mem_take hx)) (.wd (by decide) (.sp (by decide) (.wd (by decide) .nil)))) hs (by rw[e0,Zb,show Qf.length=9 from rfl];omega) hg (fun r=>r=(⟨[],[]⟩,40,((1+k:Nat):Int))) ?_ w hl).mono ?_
 ·intro N
  refine⟨.error ((1+k:Nat):Int),?_,rfl⟩;rw[Ut,jX,kL,hlt];obtain⟨u,hu⟩:∃u:Tk,u.kind=5:=⟨⟨5,[],0,0⟩,rfl⟩;have hf:For (Wh 1 (T.take k)++Wh 0 (T.drop k)) (Km p):=by
   show List.map t3 _=_
   rw[List.map_append,aQ,aQ,List.take_append_drop,hT]
  obtain⟨f0,hp⟩:=gV h2 hf hu;have hp:=hp f0 (Zl _);have hz:Iw ((1+k:Nat):Int) ⟨2,[101,108,115,101],0,((1+k:Nat):Int)⟩ ⟨2,[101,108,115,101],0,((1+k:Nat):Int)⟩:=⟨rfl,rfl,rfl,rfl,rfl,rfl⟩;have e9:Nb (1+k) Ro=[⟨2,[101,108,115,101],0,((1+k:Nat):Int)⟩,⟨2,[101,108,115,101],0,((1+k:Nat):Int)⟩]:=rfl;rw[e9,Zh]
  cases hd:T.drop k with
  |nil=>
   rw[hd]at hp;replace hp:Ca f0 ⟨[],[]⟩ ((Wh 1 (T.take k)++[])++[u])= .ok (p,[u]):=hp;rw[List.append_nil]at hp;exact Uh hz (B':=[]) hp
  |cons b B=>
   rw[hd]at hp;replace hp:Ca f0 ⟨[],[]⟩ ((Wh 1 (T.take k)++(⟨b.kind,b.text,b.num,(0:Nat)⟩::Wh 1 B))++[u])= .ok (p,[u]):=hp;rw[Zh]at hp;exact Uh hz (B':=Wh 1 B++[u]) hp
 ·rintro r w' ⟨R,rfl,hp⟩;exact hp
theorem scan_pr {p:Pr}(hr:Ez p=true)(hn:∀g,g∈p.funcs→∀x,x∈g.body→Wr x)(hlen:(Fi p).length≤20000)(w:World)(hl:Iy w):
  Calls Zg 20 #[.string (Aa (Fi p))] w fun e w'=>Below w.heap.size w w'∧∃v T u,e= .returned (.tuple #[v,.int .i64 0,.int .i64 0])∧Vo w' (T++[u]) v∧T.map t3=Gw (Km p)∧T.length≤20000:=by
 obtain⟨h1,h2⟩:=Mh hr;have hok:=bD hr hn;have hg:Ct (Km p)=[]:=pr_gap _ _;have hs:Ff Lu (Km p) []:=jF sepR digL p.arrays p.funcs [] (fun a ha=>(kI (h1 a ha)).2) h2;obtain⟨i1,i2⟩:=aD [] (Km p) hok hs;have ht:=Nv (Km p);have hil:=Tq (Km p) hok;rw[hg,List.nil_append]at ht;rw[Rx]at ht hil;have e0:Ag [] []++Cs (Fq (Km p))=Fi p:=by rw[←ht];rfl
 have hx:=Wb [] [] Og (Fq (Km p)) i1 (by rw[e0];exact hlen) w hl;rw[e0]at hx;refine hx.mono ?_;rintro e w' ⟨hb,v,he,hT⟩;have hl2:(Ms (1+Bv (Ag [] [])) (Fq (Km p))).length=(Fq (Km p)).length:=Ub _ _;exact⟨hb,v,_,_,he,hT.tks (by show(_++[_]).length≤_;rw[Zb,hl2];show _+1≤_;omega),aH _ _,by rw[hl2];omega⟩
def Kk(l:List Tk):Bs:=l.flatMap (fun t=>t.text++[10])
theorem kP(l:List Tk):Kk l=In (l.map t3):=by unfold Kk In;rw[List.flatMap_map];rfl
theorem Az.n64 {D:Nat→Prop}{w:World}{l:List St}{v:Value}(h:Az D w l v):∀x,x∈l→Wr x:=by
 induction h with
 |mk l a cap b off sa st se hcap hfit ha h0 h1 h2 h3 h4 ea et ee ih1 ih2=>
  intro x hx;obtain⟨i,hi,rfl⟩:=List.getElem_of_mem hx;have e:Il l i=l[i]:=by simp [Il,Zp hi]
  have k1:=(ea i hi).n64;have k2:=ih1 i hi;have k3:=ih2 i hi;rw[e]at k1 k2 k3;generalize l[i]=y at k1 k2 k3;obtain⟨k,nm,args,thn,els⟩:=y;exact .mk k nm args thn els k1 k2 k3
theorem Cd.n64 {D:Nat→Prop}{w:World}{l:List Fu}{v:Value}(h:Cd D w l v):∀g,g∈l→∀x,x∈g.body→Wr x:=by
 obtain⟨a,cap,b,off,pv,lv,bv,hv,h1,h2,h3,h4⟩:=h;intro g hg;obtain⟨i,hi,rfl⟩:=List.getElem_of_mem hg;have e:Eb l i=l[i]:=by simp [Eb,Zp hi]
 have:=(h4 i hi).2.2.2.n64;rw[e]at this;exact this
def awP:List It:=[⟨[105,110,116],2,0,[32],[]⟩,⟨[109,97,105,110],1,0,[],[]⟩,⟨[40],4,0,[],[]⟩,⟨[41],4,0,[32],[]⟩,⟨[123],4,0,[32],[]⟩,⟨[112,114,105,110,116],2,0,[],[]⟩,⟨[40],4,0,[],[]⟩,⟨[49],3,1,[32],[]⟩,⟨[43],4,0,[32],[]⟩,⟨[50],3,2,[32],[]⟩,⟨[42],4,0,[32],[]⟩,⟨[51],3,3,[],[]⟩,⟨[41],4,0,[],[]⟩,⟨[59],4,0,[32],[]⟩,⟨[125],4,0,[],[]⟩]
def awQ:List It:=[⟨[105,110,116],2,0,[32],[]⟩,⟨[109,97,105,110],1,0,[],[]⟩,⟨[40],4,0,[],[]⟩,⟨[41],4,0,[32],[]⟩,⟨[123],4,0,[10],[]⟩]
def awX:List It:=[⟨[97],1,0,[32],[]⟩,⟨[45],4,0,[32],[]⟩,⟨[98],1,0,[32],[]⟩,⟨[45],4,0,[32],[]⟩,⟨[99],1,0,[],[]⟩]
theorem awP_ok:nC [] awP=true:=by kernel_rfl
theorem awQ_ok:nC [] awQ=true:=by kernel_rfl
theorem awX_ok:nC [] awX=true:=by kernel_rfl
theorem aw_p(w:World)(hl:Iy w):
  Calls Zg 14 #[.string ⟨#[105,110,116,32,109,97,105,110,40,41,32,123,32,112,114,105,110,116,40,49,32,43,32,50,32,42,32,51,41,59,32,125]⟩] w fun e w'=>
   Below w.heap.size w w'∧∃aa an ac b off cap b2 o2 c2,e= .returned (.tuple #[.agg #[.slice aa an ac,.slice (some ⟨b,off,none⟩) 1 cap],.int .i64 0,.int .i64 0])∧w'.cell? ⟨b,off+3,none⟩=some (.slice (some ⟨b2,o2,none⟩) 1 c2)∧w'.cell? ⟨b2,o2,none⟩=some (.int .i64 8)∧1≤cap∧1≤c2:=by
 obtain⟨h1,h2⟩:=Ts [] awP awP_ok;refine(Si [] [] Og awP h1 h2 (by decide) (by decide) 100 (by decide) w hl).mono ?_;intro e w' hp;obtain⟨hb,v,he,av,fv,hv,hxa,hxf⟩:=hp;have e1:(Ph (Wd (Ca 100 ⟨[],[]⟩ (Dx (1+Bv (Ag [] [])) awP)))).2.1=0:=by kernel_rfl
 have e2:(Ph (Wd (Ca 100 ⟨[],[]⟩ (Dx (1+Bv (Ag [] [])) awP)))).2.2=0:=by kernel_rfl
 have e3:(Ph (Wd (Ca 100 ⟨[],[]⟩ (Dx (1+Bv (Ag [] [])) awP)))).1.funcs.length=1:=by kernel_rfl
 have e4:(Eb (Ph (Wd (Ca 100 ⟨[],[]⟩ (Dx (1+Bv (Ag [] [])) awP)))).1.funcs 0).body.length=1:=by kernel_rfl
 have e5:(Il (Eb (Ph (Wd (Ca 100 ⟨[],[]⟩ (Dx (1+Bv (Ag [] [])) awP)))).1.funcs 0).body 0).kind=8:=by kernel_rfl
 generalize Ph (Wd (Ca 100 ⟨[],[]⟩ (Dx (1+Bv (Ag [] [])) awP)))=R at*;obtain⟨a,cap,b,off,pv,lv,bv,rfl,hc,_,hz,hall⟩:=hxf;rw[e3]at hc hz hall;obtain⟨⟨_,_,_,g3⟩,_,_,hst⟩:=hall 0 (by decide);obtain⟨a2,c2,hs2⟩:=hst.shape;rw[hs2]at hst g3;rcases hz with hz|⟨rfl,_⟩
 ·omega
 have hq:∃b2 o2,a2=some ⟨b2,o2,none⟩∧w'.cell? ⟨b2,o2,none⟩=some (.int .i64 8)∧1≤c2:=by
  rw[←e5]
  cases hst with
  |mk _ _ _ b2 o2 sa st se hcap hfit ha h0=>
   rcases ha with ha|⟨ha,_⟩
   ·omega
   ·exact⟨b2,o2,ha,by simpa using h0 0 (by omega),by omega⟩
 obtain⟨b2,o2,rfl,hk,hc2⟩:=hq;rw[e4]at g3;obtain⟨aa,an,ac,rfl⟩:∃a n c,av=Value.slice a n c:=by obtain⟨a,c,h⟩:=hxa.yshape;exact⟨a,_,c,h⟩
 refine⟨hb,aa,an,ac,b,off,cap,b2,o2,c2,?_,by simpa using g3,hk,hc,hc2⟩;rw[he,hv,e1,e2,e3]
theorem aw_q(w:World)(hl:Iy w):
  Calls Zg 14 #[.string ⟨#[105,110,116,32,109,97,105,110,40,41,32,123,10]⟩] w fun e w'=>
   Below w.heap.size w w'∧∃aa an ac fa fn fc,e= .returned (.tuple #[.agg #[.slice aa an ac,.slice fa fn fc],.int .i64 40,.int .i64 2]):=by
 obtain⟨h1,h2⟩:=Ts [] awQ awQ_ok;refine(Si [] [] Og awQ h1 h2 (by decide) (by decide) 100 (by decide) w hl).mono ?_;intro e w' hp;obtain⟨hb,v,he,av,fv,hv,hxa,hxf⟩:=hp;obtain⟨aa,an,ac,rfl⟩:∃a n c,av=Value.slice a n c:=by obtain⟨a,c,h⟩:=hxa.yshape;exact⟨a,_,c,h⟩
 obtain⟨fa,fn,fc,rfl⟩:∃a n c,fv=Value.slice a n c:=by obtain⟨a,c,h⟩:=hxf.yshape;exact⟨a,_,c,h⟩
 refine⟨hb,aa,an,ac,fa,fn,fc,?_⟩;rw[he,hv];rfl
theorem aw_x(w:World)(hl:Iy w):
  Calls Zg 13 #[.string ⟨#[97,32,45,32,98,32,45,32,99]⟩] w fun e w'=>
   Below w.heap.size w w'∧∃k o n s b off cap,e= .returned (.tuple #[.agg #[.int .i64 k,.int .i64 o,.int .i64 n,.string s,.slice (some ⟨b,off,none⟩) 2 cap],.int .i64 0,.int .i64 0])∧w'.cell? ⟨b,off+8,none⟩=some (.string ⟨#[99]⟩):=by
 obtain⟨h1,h2⟩:=Ts [] awX awX_ok;refine(rR [] [] Og awX h1 h2 (by decide) (by decide) 100 (by decide) w hl).mono ?_;intro e w' hp;obtain⟨hb,v,he,s,hv,hx,hn⟩:=hp;have e1:(Sa (aJ (Ba 100 1 (Dx (1+Bv (Ag [] [])) awX)))).2.1=0:=by kernel_rfl
 have e2:(Sa (aJ (Ba 100 1 (Dx (1+Bv (Ag [] [])) awX)))).2.2=0:=by kernel_rfl
 have e3:(Sa (aJ (Ba 100 1 (Dx (1+Bv (Ag [] [])) awX)))).1.args.length=2:=by kernel_rfl
 have e4:(Bx (Sa (aJ (Ba 100 1 (Dx (1+Bv (Ag [] [])) awX)))).1.args 1).name=[99]:=by kernel_rfl
 generalize Sa (aJ (Ba 100 1 (Dx (1+Bv (Ag [] [])) awX)))=R at*;obtain⟨a,cap,rfl⟩:=hx.shape;obtain⟨b,off,s2,rfl,_,_,_,_,h4,_⟩:=hx.cellAt 1 (by omega);rw[e4]at h4;refine⟨hb,R.1.kind,R.1.op,R.1.n,Aa R.1.name,b,off,cap,?_,h4⟩;rw[he,hv,e1,e2,e3]
theorem fQ(w:World)(hl:Iy w):
  Calls Zg 11 #[] w fun e w'=>e= .returned (.bool true)∧Below w.heap.size w w':=by
 have HL:=Za hl;clear hl;go_enter Tryz.func11,Tryz.ntmps11
 go_wp2_with fail
 refine(aw_p w HL.out).mono ?_;rintro e w1 ⟨hb1,aa,an,ac,b,off,cap,b2,o2,c2,rfl,h3,hk,hc,hc2⟩;have hal:Below w1.heap.size w1 (w1.alloc (.cells #[.slice aa an ac,.slice (some ⟨b,off,none⟩) 1 cap] 34)):=bA;have HO:=Za (Ae.new w1 [.slice aa an ac,.slice (some ⟨b,off,none⟩) 1 cap] 34);have HL1:=Za ((HL.out.old hb1).old hal);have HB1:=Za (hb1.trans (hal.mono hb1.size));have H3:=Za (Ad hal h3);have HK:=Za (Ad hal hk);clear hb1 h3 hk hal;go_upto_region 2 with(fail)
 generalize w1.alloc (.cells #[.slice aa an ac,.slice (some ⟨b,off,none⟩) 1 cap] 34)=w2 at*;obtain⟨pb,hpb⟩:∃pb,w1.heap.size=pb:=⟨_,rfl⟩;rw[hpb]at HO ⊢;clear hpb;go_wp2_with fail
 refine(aw_q w2 HL1.out).mono ?_;rintro e w3 ⟨hb3,a3,n3,d3,f3,m3,e3,rfl⟩;have hal:Below w3.heap.size w3 (w3.alloc (.cells #[.slice a3 n3 d3,.slice f3 m3 e3] 34)):=bA;have HO3:=Za ((HO.out.old hb3).old hal);have HL3:=Za ((HL1.out.old hb3).old hal);have HB3:=Za (HB1.out.trans ((hb3.trans (hal.mono hb3.size)).mono HB1.out.size));have H33:=Za (Ad hal (Ad hb3 H3.out));have HK3:=Za (Ad hal (Ad hb3 HK.out));clear hb3 hal HO HL1 HB1 H3 HK;go_upto_region 3 with(fail)
 generalize w3.alloc (.cells #[.slice a3 n3 d3,.slice f3 m3 e3] 34)=w4 at*;go_wp2_with fail
 refine(aw_x w4 HL3.out).mono ?_;rintro e w5 ⟨hb5,k,o,n,s,b5,off5,cap5,rfl,h5⟩;have hal:Below w5.heap.size w5 (w5.alloc (.cells #[.int .i64 k,.int .i64 o,.int .i64 n,.string s,.slice (some ⟨b5,off5,none⟩) 2 cap5] 27)):=bA;have HO5:=Za ((HO3.out.old hb5).old hal);have HX5:=Za (Ae.new w5 [.int .i64 k,.int .i64 o,.int .i64 n,.string s,.slice (some ⟨b5,off5,none⟩) 2 cap5] 27);have HB5:=Za (HB3.out.trans ((hb5.trans (hal.mono hb5.size)).mono HB3.out.size));have H35:=Za (Ad hal (Ad hb5 H33.out));have HK5:=Za (Ad hal (Ad hb5 HK3.out));have H85:=Za (Ad hal h5);clear hb5 hal HO3 HL3 HB3 H33 HK3 h5;go_upto_region 4 with(fail)
 generalize w5.alloc (.cells #[.int .i64 k,.int .i64 o,.int .i64 n,.string s,.slice (some ⟨b5,off5,none⟩) 2 cap5] 27)=w6 at*;obtain⟨xb,hxb⟩:∃xb,w5.heap.size=xb:=⟨_,rfl⟩;rw[hxb]at HX5 ⊢;clear hxb;have p1:=HO5.out.at 1 _ rfl;have q4:=HX5.out.at 4 _ rfl;have c3:=H35.out;have ck:=HK5.out;have c8:=H85.out;have hcI:(1:Int)≤(cap:Int):=by omega
 go_wp2_with fail
 go_ret
 exact⟨rfl,HB5.out⟩
def Tz(c n:Int):Int:=if c<0 then(-(c+1)) % n else c % n
theorem kT(c n:Int)(hc:I64 c)(h0:0<n)(h1:n≤9223372036854775807)(w:World):
  Calls Zg 12 #[.int .i64 c,.int .i64 n] w fun e w'=>e= .returned (.int .i64 (Tz c n))∧w'=w:=by
 obtain⟨l,u⟩:=hc;unfold Tz
 by_cases hneg:c<0
 ·rw[if_pos hneg]
  have hn0:(n==0)=false:=by simp;omega
  go_enter Tryz.func12,Tryz.ntmps12
  go_wp2_with fail
  go_ret
  exact⟨Hb (by show -((c+1).tmod n)=_;rw[←Int.neg_tmod,Int.tmod_eq_emod_of_nonneg (by omega)]),rfl⟩
 ·rw[if_neg hneg]
  have hneg':0≤c:=by omega
  go_enter Tryz.func12,Tryz.ntmps12
  go_wp2_with fail
  go_ret
  exact⟨rfl,rfl⟩
theorem dY(c n:Int)(h:0<n):∃k:Nat,Tz c n=k∧(k:Int)<n:=by
 unfold Tz;split
 ·exact⟨((-(c+1)) % n).toNat,by have:=Int.emod_nonneg (-(c+1)) (show n≠0 by omega);omega,by have:=Int.emod_nonneg (-(c+1)) (show n≠0 by omega);have:=Int.emod_lt_of_pos (-(c+1)) h;omega⟩
 ·exact⟨(c % n).toNat,by have:=Int.emod_nonneg c (show n≠0 by omega);omega,by have:=Int.emod_nonneg c (show n≠0 by omega);have:=Int.emod_lt_of_pos c h;omega⟩
theorem Pu(a b:Bs):Aa a++Aa b=Aa (a++b):=by
 apply ByteArray.ext;simp [Aa]
theorem lA(L:List Tk)(j:Nat)(h:j<L.length):Kk (L.take (j+1))=Kk (L.take j)++((Lj L j).text++[10]):=by
 unfold Kk;rw[List.take_succ_eq_append_getElem h,List.flatMap_append];simp [Lj,Zp h]
theorem whTk_le(L:List Tk)(j:Nat):(Kk (L.take j)).length≤(Kk L).length:=by
 have e:Kk L=Kk (L.take j)++Kk (L.drop j):=by unfold Kk;rw[←List.flatMap_append,List.take_append_drop]
 rw[e,Zb];omega
theorem wh_bad {p:Pr}{D:Nat→Prop}{w0:World}{vf:Value}(hr:Ez p=true)(hf:Cd D w0 p.funcs vf)(hlen:(Fi p).length≤5000)(T:List Tk)(u:Tk)(hT:T.map t3=Gw (Km p))(k:Nat)(hk:k≤T.length)(w:World)(hl:Iy w):
  Calls Zg 14 #[.string (Aa (Kk ((T++[u]).take k))++⟨#[101,108,115,101,32,101,108,115,101]⟩)] w fun e w'=>Below w.heap.size w w'∧∃aa an ac fa fn fc,e= .returned (.tuple #[.agg #[.slice aa an ac,.slice fa fn fc],.int .i64 40,.int .i64 ((k:Int)+1)]):=by
 show Calls _ _ #[.string (Aa (Kk ((T++[u]).take k))++Aa Qf)] _ _
 have hTl:T.length=(Gw (Km p)).length:=by rw[←hT,List.length_map]
 rw[Pu,List.take_append_of_le_length hk,kP,List.map_take,hT];refine(nP hr hf.n64 hlen k (by omega) w hl).mono ?_;rintro e w' ⟨hb,v,rfl,av,fv,rfl,ha,hf⟩;obtain⟨aa,ac,rfl⟩:=ha.yshape;obtain⟨fa,fc,rfl⟩:=hf.yshape;exact⟨hb,aa,_,ac,fa,_,fc,by rw[show((1+k:Nat):Int)=(k:Int)+1 by omega]⟩
theorem iF(raw0:List Int)(rv:Value)(n:Int)(hn:I64 n)(w:World)(hr:Iq (· <w.heap.size) w raw0 rv)(hl:Iy w):
  Calls Zg 5 #[rv,.int .i64 n] w fun e w'=>e= .returned (.bool true)∧Below w.heap.size w w':=by
 have HL:=Za hl;have HRA:=Za hr;have HN:=Za hn;clear hl hr hn;go_enter Tryz.func5,Tryz.ntmps5
 go_wp2_with fail
 refine(fQ w HL.out).mono ?_;rintro e w1 ⟨rfl,hb1⟩;have HB1:=Za hb1;clear hb1;go_wp2_with fail
 refine(pE raw0 false rv w1 (Iq.old HB1.out HRA.out)).mono ?_;rintro e w2 ⟨va,vf,ds,rfl,hb2,ha2,hds,hd3,hf2⟩;have pr:=Nw raw0 false;have pl:Cu (Fi (Kn raw0 false)).length:=by have h1:=mM raw0 false;have h2:=qW;show _≤_;omega
 have pc:=(Qg raw0 false).2.2;generalize Kn raw0 false=p at*;have hO:=Lm.of ha2 hds hd3 hf2;have HB2:=Za (HB1.out.trans (hb2.mono HB1.out.size));have HP2:=Za hO;have PR:=Za pr;have PL:=Za pl;have PC:=Za pc;have HL2:=Za (HL.out.old HB2.out);clear hb2 ha2 hds hd3 hf2 hO pr pl pc HB1;go_wp2_with fail
 refine(fM p _ _ w2 HL2.out.lt HL2.out.pow HP2.out.ars HP2.out.fus PR.out (nA PC.out) PL.out).mono ?_;rintro e w3 ⟨rfl,hb3⟩;have HB3:=Za (HB2.out.trans (hb3.mono HB2.out.size));have HP3:=Za (HP2.out.old hb3);have HL3:=Za (HL2.out.old hb3);have HSC:Hid (∀w,(Fi p).length≤5000→Iy w→Calls Zg 20 #[.string (Aa (Fi p))] w fun e w'=>Below w.heap.size w w'∧∃v T u,e= .returned (.tuple #[v,.int .i64 0,.int .i64 0])∧Vo w' (T++[u]) v∧T.map t3=Gw (Km p)∧T.length≤20000):=Za fun w h hl=>scan_pr PR.out HP3.out.fus.n64 (by omega) w hl
 have HWB:Hid ((Fi p).length≤5000→∀(T:List Tk) (u:Tk),T.map t3=Gw (Km p)→∀k,k≤T.length→∀w,Iy w→Calls Zg 14 #[.string (Aa (Kk ((T++[u]).take k))++⟨#[101,108,115,101,32,101,108,115,101]⟩)] w fun e w'=>Below w.heap.size w w'∧∃aa an ac fa fn fc,e= .returned (.tuple #[.agg #[.slice aa an ac,.slice fa fn fc],.int .i64 40,.int .i64 ((k:Int)+1)])):=Za fun h T u hT k hk w hl=>wh_bad PR.out HP3.out.fus h T u hT k hk w hl
 have HWL:Hid (∀(T:List Tk),T.map t3=Gw (Km p)→(Kk T).length≤2*(Fi p).length):=Za fun T hT=>by
  rw[kP,hT,←Rx];exact Rb _ (bD PR.out HP3.out.fus.n64)
 clear hb3 HB2 HP2 HL2 PL;generalize Km p=PP at*;generalize Fi p=tp at*
 by_cases h1:tp.length≤5000
 ·have a1:¬((tp.length:Int)>5000):=by omega
  have a2:¬((5000:Int)<(tp.length:Int)):=by omega
  have H1:=Za h1;clear h1;go_wp2_with fail
  refine(HSC.out _ H1.out HL3.out).mono ?_;rintro e w4 ⟨hb4,v,T,u,rfl,hz4,hT,hTl⟩;obtain⟨va',vc',rfl,hvc⟩:=hz4.slice;have HB4:=Za (HB3.out.trans (hb4.mono HB3.out.size));have HZ4:=Za hz4;have HW:=Za fun k hk w h=>HWB.out H1.out T u hT k hk w h
  have hwl:(Kk T).length≤10000:=by have:=HWL.out T hT;have:=H1.out;omega
  have hTu:(T++[u]).length=T.length+1:=by rw[Zb];rfl
  have HWT:Hid (∀k,k≤T.length→(Kk ((T++[u]).take k)).length≤10000):=Za fun k hk=>by
   rw[List.take_append_of_le_length hk];have:=whTk_le T k;omega
  clear hb4 hz4 HSC HWB HWL HB3 HL3 hwl hT;obtain⟨L,hL⟩:∃L,T++[u]=L:=⟨_,rfl⟩;rw[hL]at hTu HWT HW HZ4 ⊢;clear hL;obtain⟨m,hm⟩:∃m,T.length=m:=⟨_,rfl⟩;rw[hm]at hTu HWT HW hTl;clear hm;have hz:(L.length:Int)=((m+1:Nat):Int):=by omega
  go_wp2_with fail
  refine(kT n _ HN.out (by omega) (by omega) w4).mono ?_;rintro e w5 ⟨he,rfl⟩;obtain⟨k,hk,hk51⟩:=dY n ((m:Int)+1) (by omega);rw[hk]at he;subst he;have hkm:k≤m:=by omega
  have HKM:=Za hkm;clear hk hk51 hkm hz HN;go_wp2_with fail
  go_loopw [12,13] (fun s12 s13 wq=> ∃j:Nat,s12= .string (Aa (Kk (L.take j)))∧s13= .int .i64 j∧j≤k∧wq=w5) (fun _ s13 _=>match s13 with| .int _ n=>k - n.toNat|_=>0)
  case atStart=>exact⟨0,rfl,rfl,Nat.zero_le _,rfl⟩
  case round=>
   obtain⟨j,rfl,rfl,hj,rfl⟩:=hrel;have hkm:=HKM.out
   by_cases hjk:j<k
   ·obtain⟨tb,tof,rfl,htb,t0,t1,t2,t3⟩:=HZ4.out.at j (by omega)
    have hsl:=HWT.out (j+1) (by omega);have hsu:=lA L j (by omega);rw[hsu,Zb,Zb,List.length_singleton]at hsl;have n1:¬(9223372036854775807<(Kk (L.take j)).length+(Lj L j).text.length):=by omega
    have n2:¬(9223372036854775807<(Kk (L.take j)).length+(Lj L j).text.length+1):=by omega
    have hS1:Hid (Aa (Kk (L.take j))++Aa (Lj L j).text++⟨#[10]⟩=Aa (Kk (L.take (j+1)))):=Za (by
     show Aa (Kk (L.take j))++Aa (Lj L j).text++Aa [10]=_
     rw[Pu,Pu,hsu,Zh])
    have hjI:(j:Int)<(k:Int):=by omega
    have hjm:(j:Int)<(m:Int)+1:=by omega
    clear hsl hsu t0 t2 t3;generalize Kk (L.take j)=A at*;generalize (Lj L j).text=B at*;go_wp2_with fail
    go_roundw
    case rel=>exact⟨j+1,congrArg Value.string hS1.out,rfl,hjk,by first|rfl|trivial⟩
    case measure=>simp;omega
   ·have hjk':j=k:=by omega
    subst hjk';have hw1:=HWT.out j hkm;have HP:=Za (HW.out j hkm);have n1:¬(9223372036854775807<(Kk (L.take j)).length+9):=by omega
    have HL5:=Za (HL.out.old HB4.out);clear hw1 hj hjk HW HWT;generalize Kk (L.take j)=A at*;go_wp2_with fail
    refine(HP.out _ HL5.out).mono ?_;rintro e w6 ⟨hb6,aa,an,ac,fa,fn,fc,rfl⟩;have hal:Below w6.heap.size w6 (w6.alloc (.cells #[.slice aa an ac,.slice fa fn fc] 34)):=bA;have hbb:=hb6.trans (hal.mono hb6.size);have HB7:=Za (HB4.out.trans (hbb.mono HB4.out.size));have HZ7:=Za (HZ4.out.old hbb);clear hb6 hal hbb HP HB4 HZ4 HL5;go_upto_region 15 with(fail)
    generalize w6.alloc (.cells #[.slice aa an ac,.slice fa fn fc] 34)=w7 at*;obtain⟨tb,tof,rfl,htb,t0,t1,t2,t3⟩:=HZ7.out.at j (by omega);have hjm:(j:Int)<(m:Int)+1:=by omega
    have e9:((j:Int)+1==(j:Int)+1)=true:=by simp
    have hlast:Hid (0<j→∃x:Bs,w7.cell? ⟨tb,tof+(j - 1)*4+1,none⟩=some (.string (Aa x))):=Za fun h0=>by
     obtain⟨tb',tof',h,_,_,s1,_⟩:=HZ7.out.at (j - 1) (by omega)
     cases h
     exact⟨_,s1⟩
    clear t2 t3 HZ7;generalize (Lj L j).kind=kk at*;generalize (Lj L j).text=tt at*
    by_cases hk2:kk=2
    ·cases c2:(tt==[101,108,115,101])with
     |true=>
      have c1:(kk==2)=true:=by rw[hk2];rfl
      clear hlast;go_wp2_with fail
      all_goals(go_ret;exact⟨rfl,HB7.out⟩)
     |false=>
      have c1:(kk==2)=true:=by rw[hk2];rfl
      by_cases h0:0<j
      ·obtain⟨x,hx⟩:=hlast h0
       have j0:(0:Int)<(j:Int):=by omega
       have j1:((j:Int)>0):=by omega
       have j2:((j:Int) - 1)=((j - 1:Nat):Int):=by omega
       have j3:(0:Int)≤(j:Int) - 1:=by omega
       have j4:(j:Int) - 1<(m:Int)+1:=by omega
       have j5:((j:Int) - 1).toNat=j - 1:=by omega
       clear hlast;go_wp2_with fail
       all_goals(go_ret;exact⟨rfl,HB7.out⟩)
      ·have j0:¬((0:Int)<(j:Int)):=by omega
       have j1:¬((j:Int)>0):=by omega
       clear hlast;go_wp2_with fail
       all_goals(go_ret;exact⟨rfl,HB7.out⟩)
    ·have c1:(kk==2)=false:=by rw[beq_eq_false_iff_ne];exact hk2
     by_cases h0:0<j
     ·obtain⟨x,hx⟩:=hlast h0
      have j0:(0:Int)<(j:Int):=by omega
      have j1:((j:Int)>0):=by omega
      have j2:((j:Int) - 1)=((j - 1:Nat):Int):=by omega
      have j3:(0:Int)≤(j:Int) - 1:=by omega
      have j4:(j:Int) - 1<(m:Int)+1:=by omega
      have j5:((j:Int) - 1).toNat=j - 1:=by omega
      clear hlast;go_wp2_with fail
      all_goals(go_ret;exact⟨rfl,HB7.out⟩)
     ·have j0:¬((0:Int)<(j:Int)):=by omega
      have j1:¬((j:Int)>0):=by omega
      clear hlast;go_wp2_with fail
      all_goals(go_ret;exact⟨rfl,HB7.out⟩)
 ·have a1:((tp.length:Int)>5000):=by omega
  have a2:((5000:Int)<(tp.length:Int)):=by omega
  clear h1 HSC HWB HWL;go_wp2_with fail
  go_ret
  exact⟨rfl,HB3.out⟩
end Go.Proofs.YtcfpfnoldgnloaaGreatDoor

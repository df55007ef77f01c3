/-
  The pieces of statements, functions and programs may stand beside each other, and are tokens; Parse of a right program's text.
-/
import Derived.Test.YtcfpfnoldgnloaaGreatDoorBk19
import Derived.Test.YtcfpfnoldgnloaaGreatDoorBk05
import Derived.Test.YtcfpfnoldgnloaaGreatDoorBk11
set_option linter.unusedVariables false
set_option linter.unusedSimpArgs false
namespace Go.Proofs.YtcfpfnoldgnloaaGreatDoor
open Go.RowKit
set_option maxHeartbeats 20000000
set_option maxRecDepth 100000
open Go.Lib renaming hid→Za
open List renaming length_append→Zb,length_cons→Zc,mem_cons_self→Zd,mem_cons_of_mem→Zj,length_nil→Zk,append_assoc→Zo,flatMap_cons→Zr,all_eq_true→Zs,flatten_cons→Zw,flatten_nil→Zx,getElem?_eq_getElem→Zy
open Go.Proofs.Tryz renaming prog→Ze
open Ff renaming app→Zf
open Nat renaming zero_le→Zg,le_refl→Zi,mul_le_mul_right→Zp,le_trans→Zq,add_mul→Zu,lt_succ_iff_lt_or_eq→Zv
open Bool renaming and_eq_true→Zh
open Below renaming refl→Zl
open World renaming cell?_alloc_lt→Zm
open Ba renaming old→Zn
open Be renaming cons→Zt
theorem Ir {S:Int→Bs→Bool}{t:Nat}{l:List Pc}{z:Bs}(h:Ff S l (10::z)):Ff S (Ef t l) z:=
 Zf (a:=[.g (Kd t)]++l) (b:=[.g [10]]) h trivial
theorem Gt {S:Int→Bs→Bool}(hS:Nk S)(s:Bs)(c:UInt8)(z:Bs)(hc:eB c=true):Ff S [sg s] (c::z):=⟨hS.ofSoft (Fm hc) 4,trivial⟩
theorem Qt {S:Int→Bs→Bool}:∀(l:List St),(∀x,x∈l→∀t z,Ff S (Gf t x) z)→∀t z,Ff S (Fg t l) z
 |[],_,t,z=>trivial
 |x::l,h,t,z=>by
  rw[Fg];exact Zf (h x Zd t _) (Qt l (fun y hy=>h y (Zj _ hy)) t z)
theorem Om {S:Int→Bs→Bool}(hS:Nk S)(hd:Us){e:Ex}(h:WEx e)(l:List Pc)(z:Bs)(hz:Uq (Az l++z))(hl:Ff S l z):Ff S (Ck e++l) z:=Zf (oT hS hd h _ hz) hl
theorem dS {S:Int→Bs→Bool}(hS:Nk S)(hd:Us){e:Ex}(h:WEx e)(w:Bs)(t:Nat)(z:Bs):Ff S (Ef t (wd w:: .g [32]::sg [40]::(Ck e++[sg [41],.g [32],sg [123]]))) z:=by
 refine Ir ⟨hS.soft 2 32 _ (by decide),?_,Om hS hd h _ _ (Fm (by decide)) ⟨hS.soft 4 32 _ (by decide),Gt hS _ 10 _ (by decide)⟩⟩;rw[Ap,Zo];exact hS.ofHead (Jh hd h).app
theorem st_sep {S:Int→Bs→Bool}(hS:Nk S)(hd:Us){x:St}(h:WSt x):∀t z,Ff S (Gf t x) z:=by
 induction h with
 |set s x h hx=>
  intro t z;rw[stp1];exact Ir ⟨hS.soft 1 32 _ (by decide),hS.soft 4 32 _ (by decide),Om hS hd hx _ _ (Fm (by decide)) (Gt hS _ 10 _ (by decide))⟩
 |store s x y h hx hy=>
  intro t z;rw[stp2];refine Ir ⟨(hS.opens 1 _ (by decide)).2,?_,Om hS hd hx _ _ (Fm (by decide)) ⟨hS.soft 4 32 _ (by decide),hS.soft 4 32 _ (by decide),Om hS hd hy _ _ (Fm (by decide)) (Gt hS _ 10 _ (by decide))⟩⟩;rw[Ap,Zo];exact hS.ofHead (Jh hd hx).app
 |cond x a b hx ha hb iha ihb=>
  intro t z;rw[stp3];refine Zf (dS hS hd hx _ t _) (Zf (Qt a iha _ _) (Zf ?_ (Ir (Gt hS _ 10 _ (by decide)))))
  cases b with
  |nil=>exact trivial
  |cons y l=>
   rw[if_neg (by simp)];exact Zf (Ir ⟨hS.soft 4 32 _ (by decide),hS.soft 2 32 _ (by decide),Gt hS _ 10 _ (by decide)⟩) (Qt (y::l) ihb _ _)
 |loop x a hx ha iha=>
  intro t z;rw[stp4];exact Zf (dS hS hd hx _ t _) (Zf (Qt a iha _ _) (Ir (Gt hS _ 10 _ (by decide))))
 |brk=>intro t z;rw[stp5];exact Ir ⟨hS.soft 2 59 _ (by decide),Gt hS _ 10 _ (by decide)⟩
 |cont=>intro t z;rw[stp6];exact Ir ⟨hS.soft 2 59 _ (by decide),Gt hS _ 10 _ (by decide)⟩
 |ret x hx=>
  intro t z;rw[stp7];exact Ir ⟨hS.soft 2 32 _ (by decide),Om hS hd hx _ _ (Fm (by decide)) (Gt hS _ 10 _ (by decide))⟩
 |print x hx=>
  intro t z;rw[stp8];refine Ir ⟨(hS.opens 2 _ (by decide)).1,?_,Om hS hd hx _ _ (Fm (by decide)) ⟨hS.soft 4 59 _ (by decide),Gt hS _ 10 _ (by decide)⟩⟩;rw[Ap,Zo];exact hS.ofHead (Jh hd hx).app
 |trap x hx=>
  intro t z;rw[stp9];refine Ir ⟨(hS.opens 2 _ (by decide)).1,?_,Om hS hd hx _ _ (Fm (by decide)) ⟨hS.soft 4 59 _ (by decide),Gt hS _ 10 _ (by decide)⟩⟩;rw[Ap,Zo];exact hS.ofHead (Jh hd hx).app
 |call s l hx=>
  intro t z;have e:Gf t (.mk 10 [] [.mk 5 0 0 s l] [] [])=Ef t (Ck (.mk 5 0 0 s l)++[sg [59]]):=by rw[rF,Me];simp only[Zo,List.cons_append,List.nil_append]
  rw[e];exact Ir (Om hS hd hx _ _ (Fm (by decide)) (Gt hS _ 10 _ (by decide)))
theorem rE {S:Int→Bs→Bool}(hS:Nk S)(x:Bs)(z:Bs)(hz:Uq z):Ff S (Ho x) z:=⟨hS.soft 2 32 _ (by decide),hS.ofSoft hz 1,trivial⟩
theorem kS {S:Int→Bs→Bool}(hS:Nk S)(z:Bs)(hz:Uq z):∀(l:List Bs),Ff S (l.flatMap (fun y=>[sg [44],.g [32]]++Ho y)) z∧Uq (Az (l.flatMap (fun y=>[sg [44],.g [32]]++Ho y))++z)
 |[]=>⟨trivial,hz⟩
 |y::l=>by
  obtain⟨h1,h2⟩:=kS hS z hz l;rw[Zr];exact⟨Zf (a:=[sg [44],.g [32]]++Ho y) ⟨hS.soft 4 32 _ (by decide),rE hS y _ h2⟩ h1,Fm (by decide)⟩
theorem pF {S:Int→Bs→Bool}(hS:Nk S):∀(l:List Bs) (z:Bs),Ff S (l.flatMap Rl) z
 |[],z=>trivial
 |y::l,z=>by
  rw[Zr];exact Zf (Ir ⟨hS.soft 2 32 _ (by decide),hS.soft 1 59 _ (by decide),Gt hS _ 10 _ (by decide)⟩) (pF hS l z)
theorem fu_sep {S:Int→Bs→Bool}(hS:Nk S)(hd:Us){g:Fu}(hg:WFu g)(z:Bs):Ff S (Xd g) z:=by
 obtain⟨nm,ps,ls,bd⟩:=g;obtain⟨_,_,_,hb⟩:=hg;dsimp only at hb;have hbd:Ff S ([sg [41],.g [32],sg [123],.g [10]]++(ls.flatMap Rl++(Fg 1 bd++Ef 0 [sg [125]]))) z:=
  ⟨hS.soft 4 32 _ (by decide),hS.soft 4 10 _ (by decide),(show Ff S (ls.flatMap Rl++(Fg 1 bd++Ef 0 [sg [125]])) z from Zf (pF hS ls _) (Zf (Qt bd (fun x hx=>st_sep hS hd (hb x hx)) _ _) (Ir (Gt hS _ 10 _ (by decide)))))⟩
 refine⟨hS.soft 2 32 _ (by decide),(hS.opens 1 _ (by decide)).1,?_,?_⟩
 ·cases ps with
  |nil=>exact hS.soft 4 41 _ (by decide)
  |cons x l=>exact hS.head 105 _ (by decide)
 ·show Ff S (Jq (ps.map Ho)++([sg [41],.g [32],sg [123],.g [10]]++(ls.flatMap Rl++(Fg 1 bd++Ef 0 [sg [125]])))) z
  refine Zf ?_ hbd
  cases ps with
  |nil=>exact trivial
  |cons x l=>
   have e:Jq ((x::l).map Ho)=Ho x++l.flatMap (fun y=>[sg [44],.g [32]]++Ho y):=by
    show Ho x++(l.map Ho).flatMap _=_;rw[List.flatMap_map]
   rw[e];obtain⟨h1,h2⟩:=kS hS (Az ([sg [41],.g [32],sg [123],.g [10]]++(ls.flatMap Rl++(Fg 1 bd++Ef 0 [sg [125]])))++z) (Fm (by decide)) l;exact Zf (rE hS x _ h2) h1
theorem ar_sep {S:Int→Bs→Bool}(hS:Nk S)(hd:Us){a:Ar}(ha:0≤a.size)(z:Bs):Ff S (dQ a) z:=by
 refine Ir ⟨hS.soft 2 32 _ (by decide),(hS.opens 1 _ (by decide)).2,?_,hS.soft 3 93 _ (by decide),hS.soft 4 59 _ (by decide),Gt hS _ 10 _ (by decide)⟩;exact hS.ofHead (Mq.app (show Mq (Az [nu a.size,sg [93],sg [59]])from by rw[Oq];exact(fA ha hd).app))
theorem jE {S:Int→Bs→Bool}(hS:Nk S)(hd:Us):∀(m:List Ar) (l:List Fu) (z:Bs),(∀a,a∈m→0≤a.size)→(∀x,x∈l→WFu x)→Ff S (m.flatMap dQ++l.flatMap Xd) z
 |[],[],z,_,_=>trivial
 |[],g::l,z,h1,h2=>by
  show Ff S ((g::l).flatMap Xd) z
  rw[Zr];exact Zf (fu_sep hS hd (h2 g Zd) _) (jE hS hd [] l z h1 (fun x hx=>h2 x (Zj _ hx)))
 |a::m,l,z,h1,h2=>by
  rw[Zr,Zo];exact Zf (ar_sep hS hd (h1 a Zd) _) (jE hS hd m l z (fun x hx=>h1 x (Zj _ hx)) h2)
inductive dM:St→Prop
 |mk (k:Int) (nm:Bs) (args:List Ex) (thn els:List St) (ha:∀x,x∈args→N64 x) (ht:∀y,y∈thn→dM y) (he:∀y,y∈els→dM y):dM (.mk k nm args thn els)
theorem jS {b:Bs}(h:b.all Fe=true):match Pc.g b with| .t x=>Rb x| .g b=> ∀c,c∈b→Fe c=true:=fun c hc=>Zs.1 h c hc
theorem word_ok {x:Bs}(h1:Ig x=true)(h2:Nn x=true):Rb ⟨2,x,0⟩:=⟨bM h1 h2,fun e=>absurd (show(2:Int)=3 from e) (by decide),Gg⟩
theorem jH(t:Nat):(Kd t).all Fe=true:=by
 unfold Kd;rw[Zs];intro c hc;rw[List.eq_of_mem_replicate hc];rfl
theorem Lm {t:Nat}{l:List Pc}(h:Be l):Be (Ef t l):=Be.app (Be.app (Zt (jS (jH t)) Be.nil) h) (Zt (jS (by decide)) Be.nil)
theorem Be.sg {s:Bs}{l:List Pc}(h:Lo s=true)(hl:Be l):Be (sg s::l):=Zt (Hc h) hl
theorem Be.wd {s:Bs}{l:List Pc}(h:(Ig s && Nn s)=true)(hl:Be l):Be (wd s::l):=Zt (word_ok ((Zh _ _).mp h).1 ((Zh _ _).mp h).2) hl
theorem Be.nm {s:Bs}{l:List Pc}(h:Aq s=true)(hl:Be l):Be (nmp s::l):=Zt (Va h) hl
theorem Be.sp {b:Bs}{l:List Pc}(h:b.all Fe=true)(hl:Be l):Be (.g b::l):=Zt (jS h) hl
theorem Og:∀(l:List St),(∀x,x∈l→∀t,Be (Gf t x))→∀t,Be (Fg t l)
 |[],_,t=>Be.nil
 |x::l,h,t=>by
  rw[Fg];exact Be.app (h x Zd t) (Og l (fun y hy=>h y (Zj _ hy)) t)
theorem Yo {e:Ex}(h:Be (Ck e)){w:Bs}(hw:(Ig w && Nn w)=true)(t:Nat):Be (Ef t (wd w:: .g [32]::sg [40]::(Ck e++[sg [41],.g [32],sg [123]]))):=
 Lm (.wd hw (.sp (by decide) (.sg (by decide) (.app h (.sg (by decide) (.sp (by decide) (.sg (by decide) .nil)))))))
theorem st_toks {x:St}(h:WSt x)(hn:dM x):∀t,Be (Gf t x):=by
 induction h with
 |set s x h hx=>
  cases hn with|mk _ _ _ _ _ ha ht he=>
  intro t;rw[stp1];exact Lm (.nm h (.sp (by decide) (.sg (by decide) (.sp (by decide) (.app (Kh hx (ha x Zd)) (.sg (by decide) .nil))))))
 |store s x y h hx hy=>
  cases hn with|mk _ _ _ _ _ ha ht he=>
  intro t;rw[stp2];exact Lm (.nm h (.sg (by decide) (.app (Kh hx (ha x Zd)) (.sg (by decide) (.sp (by decide) (.sg (by decide) (.sp (by decide) (.app (Kh hy (ha y (by simp))) (.sg (by decide) .nil)))))))))
 |cond x a b hx h1 h2 iha ihb=>
  cases hn with|mk _ _ _ _ _ ha ht he=>
  intro t;rw[stp3];refine .app (Yo (Kh hx (ha x Zd)) (by decide) t) (.app (Og a (fun y hy=>iha y hy (ht y hy)) _) (.app ?_ (Lm (.sg (by decide) .nil))));split
  ·exact .nil
  ·exact .app (Lm (.sg (by decide) (.sp (by decide) (.wd (by decide) (.sp (by decide) (.sg (by decide) .nil)))))) (Og b (fun y hy=>ihb y hy (he y hy)) _)
 |loop x a hx h1 iha=>
  cases hn with|mk _ _ _ _ _ ha ht he=>
  intro t;rw[stp4];exact .app (Yo (Kh hx (ha x Zd)) (by decide) t) (.app (Og a (fun y hy=>iha y hy (ht y hy)) _) (Lm (.sg (by decide) .nil)))
 |brk=>intro t;rw[stp5];exact Lm (.wd (by decide) (.sg (by decide) .nil))
 |cont=>intro t;rw[stp6];exact Lm (.wd (by decide) (.sg (by decide) .nil))
 |ret x hx=>
  cases hn with|mk _ _ _ _ _ ha ht he=>
  intro t;rw[stp7];exact Lm (.wd (by decide) (.sp (by decide) (.app (Kh hx (ha x Zd)) (.sg (by decide) .nil))))
 |print x hx=>
  cases hn with|mk _ _ _ _ _ ha ht he=>
  intro t;rw[stp8];exact Lm (.wd (by decide) (.sg (by decide) (.app (Kh hx (ha x Zd)) (.sg (by decide) (.sg (by decide) .nil)))))
 |trap x hx=>
  cases hn with|mk _ _ _ _ _ ha ht he=>
  intro t;rw[stp9];exact Lm (.wd (by decide) (.sg (by decide) (.app (Kh hx (ha x Zd)) (.sg (by decide) (.sg (by decide) .nil)))))
 |call s l hx=>
  cases hn with|mk _ _ _ _ _ ha ht he=>
  intro t;have e:Gf t (.mk 10 [] [.mk 5 0 0 s l] [] [])=Ef t (Ck (.mk 5 0 0 s l)++[sg [59]]):=by rw[rF,Me];simp only[Zo,List.cons_append,List.nil_append]
  rw[e];exact Lm (.app (Kh hx (ha _ Zd)) (.sg (by decide) .nil))
theorem Ux {α:Type}(f:α→List Pc)(l:List α)(h:∀x,x∈l→Be (f x)):Be (l.flatMap f):=fun p hp=>by
 obtain⟨x,hx,hp⟩:=List.mem_flatMap.1 hp;exact h x hx p hp
theorem pa_ok {x:Bs}(h:Aq x=true):Be (Ho x):= .wd (by decide) (.sp (by decide) (.nm h .nil))
theorem fu_toks {g:Fu}(hg:WFu g)(hn:∀x,x∈g.body→dM x):Be (Xd g):=by
 obtain⟨nm,ps,ls,bd⟩:=g;obtain⟨h1,h2,h3,hb⟩:=hg;dsimp only at h1 h2 h3 hb hn;have htail:Be (ls.flatMap Rl++(Fg 1 bd++Ef 0 [sg [125]])):= .app (Ux Rl ls fun x hx=>(show Be (Ef 1 [wd [105,110,116],.g [32],nmp x,sg [59]])from Lm (.wd (by decide) (.sp (by decide) (.nm (h3 x hx) (.sg (by decide) .nil)))))) (.app (Og bd (fun y hy=>st_toks (hb y hy) (hn y hy)) _) (Lm (.sg (by decide) .nil)));have hps:Be (Jq (ps.map Ho)):=by
  cases ps with
  |nil=>exact .nil
  |cons x l=>
   have e:Jq ((x::l).map Ho)=Ho x++l.flatMap (fun y=>[sg [44],.g [32]]++Ho y):=by
    show Ho x++(l.map Ho).flatMap _=_;rw[List.flatMap_map]
   rw[e];exact .app (pa_ok (h2 x Zd)) (Ux _ _ fun y hy=> .sg (by decide) (.sp (by decide) (pa_ok (h2 y (Zj _ hy)))))
 show Be (wd [105,110,116]:: .g [32]::nmp nm::sg [40]::(Jq (ps.map Ho)++(sg [41]:: .g [32]::sg [123]:: .g [10]::(ls.flatMap Rl++(Fg 1 bd++Ef 0 [sg [125]])))))
 exact .wd (by decide) (.sp (by decide) (.nm h1 (.sg (by decide) (.app hps (.sg (by decide) (.sp (by decide) (.sg (by decide) (.sp (by decide) htail))))))))
theorem kH {a:Ar}(h:Dv a=true):Be (dQ a)∧0≤a.size:=by
 unfold Dv at h;obtain⟨h1,h2⟩:=(Zh _ _).mp h;have h2:=of_decide_eq_true h2;exact⟨Lm (.wd (by decide) (.sp (by decide) (.nm h1 (.sg (by decide) (.cons (pG (by omega) ⟨by omega,by omega⟩) (.sg (by decide) (.sg (by decide) .nil))))))),by omega⟩
theorem pr_gap:∀(m:List Ar) (l:List Fu),Ct (m.flatMap dQ++l.flatMap Xd)=[]
 |[],[]=>rfl
 |[],g::l=>rfl
 |a::m,l=>rfl
theorem oI(l:List Pc)(hp:Be l)(hs:Ff My l [])(hlen:(Az l).length≤20000)(hb:Nw (Ct l) [])(Q:Pr ×Int ×Int→Prop)
  (hz:∀(T:List Tk) (u:Tk),T.map t3=La l→u.kind=5→u.text=[]→∃z,Ev (fun f=>Fo f ⟨[],[]⟩ (T++[u])) z∧Q (Pk (Sf z))) (w:World) (hl:Io w):
  Calls Ze 14 #[.string (Aa (Az l))] w fun e w'=> ∃r,Q r∧WhP w r e w':=by
 obtain⟨i1,i2⟩:=aP [] l hp hs;have ht:=Of l;obtain⟨z,⟨f0,hf⟩,hq⟩:=hz (Pl (1+Cf (Ai (Ct l) [])) (Fq l)) ⟨5,[],0,dE (1+Cf (Ai (Ct l) [])) (Fq l)⟩ (Uy l _) rfl rfl;have hil:=Vf l hp;have eg:Ai (Ct l) []=Ct l:=by unfold Ai;simp
 have e0:Ai (Ct l) []++Cn (Fq l)=Az l:=by rw[eg];exact ht
 have hx:=Sg (Ct l) [] hb (Fq l) i1 i2 (by rw[e0];exact hlen) (by omega) (f0+4*((Fq l).length+1)+4) (by omega) w hl;rw[e0]at hx;refine hx.mono ?_;intro e w' hp;have e1:Fo (f0+4*((Fq l).length+1)+4) ⟨[],[]⟩ (Dt (1+Cf (Ai (Ct l) [])) (Fq l))=z:=hf _ (by omega);rw[e1]at hp;exact⟨_,hq,hp⟩
theorem nV {p:Pr}{u:Tk}(hr:Ez p=true)(hu:u.kind=5):Pk (Sf (.ok (p,[u])))=(p,0,0):=by
 have h1:Sf (.ok (p,[u]))=(p,0,0):=by show(if u.kind=5 then(p,(0:Int),(0:Int))else _)=_;rw[if_pos hu]
 rw[h1];show(if(0:Int)=0∧Ez p=false then _ else(p,(0:Int),(0:Int)))=_
 rw[if_neg (by rintro⟨_,h2⟩;rw[hr]at h2;cases h2)]
theorem cF {p:Pr}(h:Ez p=true):(∀a,a∈p.arrays→Dv a=true)∧∀x,x∈p.funcs→WFu x:=by
 unfold Ez at h;simp only[Zh,Zs]at h;exact⟨h.1,fun x hx=>wfu_of (h.2 x hx)⟩
theorem pr_good {p:Pr}(hr:Ez p=true)(hn:∀g,g∈p.funcs→∀x,x∈g.body→dM x)(hlen:(Ey p).length≤20000)(w:World)(hl:Io w):
  Calls Ze 14 #[.string (Aa (Ey p))] w (WhP w (p,0,0)):=by
 obtain⟨h1,h2⟩:=cF hr;have hg:Ct (rR p)=[]:=pr_gap _ _;rw[←nN]at hlen ⊢;refine(oI (rR p) (.app (Ux _ _ fun a ha=>(kH (h1 a ha)).1) (Ux _ _ fun x hx=>fu_toks (h2 x hx) (hn x hx))) (jE sepR digL p.arrays p.funcs [] (fun a ha=>(kH (h1 a ha)).2) h2) hlen (by rw[hg];exact Od) (fun r=>r=(p,0,0)) ?_ w hl).mono ?_
 ·intro T u hT hu hx
  exact⟨.ok (p,[u]),fW h2 hT hu,nV hr hu⟩
 ·rintro r w' ⟨R,rfl,hp⟩;exact hp
theorem Au.n64 {D:Nat→Prop}{w:World}{l:List St}{v:Value}(h:Au D w l v):∀x,x∈l→dM x:=by
 induction h with
 |mk l a cap b off sa st se hcap hfit ha h0 h1 h2 h3 h4 ea et ee ih1 ih2=>
  intro x hx;obtain⟨i,hi,rfl⟩:=List.getElem_of_mem hx;have e:Hh l i=l[i]:=by simp [Hh,Zy hi]
  have k1:=(ea i hi).n64;have k2:=ih1 i hi;have k3:=ih2 i hi;rw[e]at k1 k2 k3;generalize l[i]=y at k1 k2 k3;obtain⟨k,nm,args,thn,els⟩:=y;exact .mk k nm args thn els k1 k2 k3
theorem Bn.n64 {D:Nat→Prop}{w:World}{l:List Fu}{v:Value}(h:Bn D w l v):∀g,g∈l→∀x,x∈g.body→dM x:=by
 obtain⟨a,cap,b,off,pv,lv,bv,hv,h1,h2,h3,h4⟩:=h;intro g hg;obtain⟨i,hi,rfl⟩:=List.getElem_of_mem hg;have e:Dq l i=l[i]:=by simp [Dq,Zy hi]
 have:=(h4 i hi).2.2.2.n64;rw[e]at this;exact this
theorem ps_good {p:Pr}{D:Nat→Prop}{w0:World}{vf:Value}(hr:Ez p=true)(hf:Bn D w0 p.funcs vf)(hlen:(Ey p).length≤20000)(w:World)(hl:Io w):
  Calls Ze 14 #[.string (Aa (Ey p))] w fun e w'=>Below w.heap.size w w'∧∃aa ac fa fc,e= .returned (.tuple #[.agg #[.slice aa p.arrays.length ac,.slice fa p.funcs.length fc],.int .i64 0,.int .i64 0])∧Bt (fun _=>True) w' p.arrays (.slice aa p.arrays.length ac)∧Bn (fun _=>True) w' p.funcs (.slice fa p.funcs.length fc):=by
 refine(pr_good hr hf.n64 hlen w hl).mono ?_;rintro e w' ⟨hb,v,rfl,av,fv,rfl,ha,hf⟩;have ha:Bt (w.heap.size≤ ·) w' p.arrays av:=ha;have hf:Bn (w.heap.size≤ ·) w' p.funcs fv:=hf;obtain⟨aa,ac,rfl⟩:=ha.yshape;obtain⟨fa,fc,rfl⟩:=hf.yshape;exact⟨hb,aa,ac,fa,fc,rfl,ha.mono (fun _ _=>trivial),hf.mono (fun _ _=>trivial)⟩
inductive Wy:Ex→Prop
 |num (n:Int) (h:0≤n):Wy (.mk 1 0 n [] [])
 |var (nm:Bs) (h:Aq nm=true):Wy (.mk 2 0 0 nm [])
 |one (o:Int) (x:Ex) (h:o=17∨o=18∨o=19) (hx:Ce x=true):Wy (.mk 3 o 0 [] [x])
 |two (o:Int) (x y:Ex) (h:0<Am o) (hx:Ce x=true) (hy:Ce y=true):Wy (.mk 4 o 0 [] [x,y])
 |call (nm:Bs) (l:List Ex) (h:Aq nm=true) (hn:l.length≤6) (hl:∀x,x∈l→Ce x=true):Wy (.mk 5 0 0 nm l)
 |index (nm:Bs) (x:Ex) (h:Aq nm=true) (hx:Ce x=true):Wy (.mk 6 0 0 nm [x])
 |read:Wy (.mk 7 0 0 [] [])
def SOk(x:St):Prop:= ∃m,Ec m x=true
inductive Md:St→Prop
 |set (nm:Bs) (x:Ex) (h:Aq nm=true) (hx:Ce x=true):Md (.mk 1 nm [x] [] [])
 |store (nm:Bs) (x y:Ex) (h:Aq nm=true) (hx:Ce x=true) (hy:Ce y=true):Md (.mk 2 nm [x,y] [] [])
 |iff (x:Ex) (t e:List St) (hx:Ce x=true) (ht:∀y,y∈t→SOk y) (he:∀y,y∈e→SOk y):Md (.mk 3 [] [x] t e)
 |loop (x:Ex) (t:List St) (hx:Ce x=true) (ht:∀y,y∈t→SOk y):Md (.mk 4 [] [x] t [])
 |brk:Md (.mk 5 [] [] [] [])
 |cont:Md (.mk 6 [] [] [] [])
 |ret (x:Ex) (hx:Ce x=true):Md (.mk 7 [] [x] [] [])
 |prt (x:Ex) (hx:Ce x=true):Md (.mk 8 [] [x] [] [])
 |trp (x:Ex) (hx:Ce x=true):Md (.mk 9 [] [x] [] [])
 |call (nm:Bs) (l:List Ex) (h:Aq nm=true) (hn:l.length≤6) (hl:∀x,x∈l→Ce x=true):Md (.mk 10 [] [.mk 5 0 0 nm l] [] [])
structure FOk (f:Fu):Prop where
 name:Aq f.name=true
 params:∀x,x∈f.params→Aq x=true
 locals:∀x,x∈f.locals→Aq x=true
 body:∀x,x∈f.body→SOk x
theorem oL {f:Fu}(h:Gb f=true):FOk f:=by
 unfold Gb at h;simp only[Zh,Zs]at h;exact⟨h.1.1.1.1,h.1.1.1.2,h.1.1.2,fun x hx=>⟨40,h.2 x hx⟩⟩
mutual
def Dm:Ex→Ex→Bool
 | .mk k o n nm us,.mk k' o' n' nm' bs=>k==k' && o==o' && n==n' && nm==nm' && Du us bs
def Du:List Ex→List Ex→Bool
 |[],[]=>true
 |x::l,y::m=>Dm x y && Du l m
 |_,_=>false
end
mutual
theorem fY:∀a b:Ex,Dm a b=true↔a=b
 | .mk k o n nm us,.mk k' o' n' nm' bs=>by
  rw[Dm];simp only[Zh,beq_iff_eq,Mc us bs,Ex.mk.injEq];simp only[and_assoc]
theorem Mc:∀a b:List Ex,Du a b=true↔a=b
 |[],[]=>by simp [Du]
 |x::l,y::m=>by rw[Du];simp [fY x y,Mc l m]
 |[],y::m=>by simp [Du]
 |x::l,[]=>by simp [Du]
end
mutual
def Fr:St→St→Bool
 | .mk k nm us t e,.mk k' nm' us' t' e'=>k==k' && nm==nm' && Du us us' && Gs t t' && Gs e e'
def Gs:List St→List St→Bool
 |[],[]=>true
 |x::l,y::m=>Fr x y && Gs l m
 |_,_=>false
end
mutual
theorem iO:∀a b:St,Fr a b=true↔a=b
 | .mk k nm us t e,.mk k' nm' us' t' e'=>by
  rw[Fr];simp only[Zh,beq_iff_eq,Mc us us',Lu t t',Lu e e',St.mk.injEq];simp only[and_assoc]
theorem Lu:∀a b:List St,Gs a b=true↔a=b
 |[],[]=>by simp [Gs]
 |x::l,y::m=>by rw[Gs];simp [iO x y,Lu l m]
 |[],y::m=>by simp [Gs]
 |x::l,[]=>by simp [Gs]
end
def Hs:List Bs→List Bs→Bool
 |[],[]=>true
 |x::l,y::m=>x==y && Hs l m
 |_,_=>false
theorem Vr:∀a b:List Bs,Hs a b=true↔a=b
 |[],[]=>by simp [Hs]
 |x::l,y::m=>by rw[Hs];simp [Vr l m]
 |[],y::m=>by simp [Hs]
 |x::l,[]=>by simp [Hs]
def Is(f g:Fu):Bool:=f.name==g.name && Hs f.params g.params && Hs f.locals g.locals && Gs f.body g.body
theorem jB(f g:Fu):Is f g=true↔f=g:=by
 obtain⟨a,b,c,d⟩:=f;obtain⟨a',b',c',d'⟩:=g;unfold Is;simp only[Zh,beq_iff_eq,Vr,Lu,Fu.mk.injEq];simp only[and_assoc]
def Je:List Fu→List Fu→Bool
 |[],[]=>true
 |x::l,y::m=>Is x y && Je l m
 |_,_=>false
theorem Uh:∀a b:List Fu,Je a b=true↔a=b
 |[],[]=>by simp [Je]
 |x::l,y::m=>by rw[Je];simp [jB x y,Uh l m]
 |[],y::m=>by simp [Je]
 |x::l,[]=>by simp [Je]
def Kv(a b:Ar):Bool:=a.name==b.name && a.size==b.size
theorem jC(f g:Ar):Kv f g=true↔f=g:=by
 obtain⟨a,b⟩:=f;obtain⟨a',b'⟩:=g;unfold Kv;simp
def Gz:List Ar→List Ar→Bool
 |[],[]=>true
 |x::l,y::m=>Kv x y && Gz l m
 |_,_=>false
theorem Tv:∀a b:List Ar,Gz a b=true↔a=b
 |[],[]=>by simp [Gz]
 |x::l,y::m=>by rw[Gz];simp [jC x y,Tv l m]
 |[],y::m=>by simp [Gz]
 |x::l,[]=>by simp [Gz]
def Wp(p q:Pr):Bool:=Gz p.arrays q.arrays && Je p.funcs q.funcs
theorem gB(p q:Pr):Wp p q=true↔p=q:=by
 obtain⟨a,b⟩:=p;obtain⟨c,d⟩:=q;unfold Wp;simp [Tv,Uh]
def Bz {α:Type}(f:α→α→Bool):List α→List α→Bool
 |[],[]=>true
 |x::l,y::m=>f x y && Bz f l m
 |_,_=>false
theorem Mb:∀l m,Du l m=Bz Dm l m
 |[],[]=>rfl
 |x::l,y::m=>by rw[Du,Bz,Mb l m]
 |[],y::m=>by simp [Du,Bz]
 |x::l,[]=>by simp [Du,Bz]
theorem Ma:∀l m,Gs l m=Bz Fr l m
 |[],[]=>rfl
 |x::l,y::m=>by rw[Gs,Bz,Ma l m]
 |[],y::m=>by simp [Gs,Bz]
 |x::l,[]=>by simp [Gs,Bz]
theorem Ue:∀l m,Je l m=Bz Is l m
 |[],[]=>rfl
 |x::l,y::m=>by rw[Je,Bz,Ue l m]
 |[],y::m=>by simp [Je,Bz]
 |x::l,[]=>by simp [Je,Bz]
theorem Uf:∀l m,Gz l m=Bz Kv l m
 |[],[]=>rfl
 |x::l,y::m=>by rw[Gz,Bz,Uf l m]
 |[],y::m=>by simp [Gz,Bz]
 |x::l,[]=>by simp [Gz,Bz]
theorem Vz:∀l m,Hs l m=Bz (fun x y=>x==y) l m
 |[],[]=>rfl
 |x::l,y::m=>by rw[Hs,Bz,Vz l m]
 |[],y::m=>by simp [Hs,Bz]
 |x::l,[]=>by simp [Hs,Bz]
theorem Iu {α:Type}(f:α→α→Bool):∀(l m:List α),l.length≠m.length→Bz f l m=false
 |[],[],h=>absurd rfl h
 |x::l,y::m,h=>by rw[Bz,Iu f l m (by simpa using h)];simp
 |[],y::m,_=>rfl
 |x::l,[],_=>rfl
theorem Hu {α:Type}(f:α→α→Bool)(d:α):∀(l m:List α),l.length=m.length→(∀i,i<l.length→f (l.getD i d) (m.getD i d)=true)→Bz f l m=true
 |[],[],_,_=>rfl
 |x::l,y::m,h,hf=>by
  have h0:f x y=true:=by have:=hf 0 (by simp);simpa using this
  rw[Bz,h0,Hu f d l m (by simpa using h) (fun i hi=>by have:=hf (i+1) (by simpa using hi);simpa using this)];rfl
 |[],y::m,h,_=>by simp at h
 |x::l,[],h,_=>by simp at h
theorem Gq {α:Type}(f:α→α→Bool)(d:α):∀(l m:List α) (i:Nat),l.length=m.length→i<l.length→f (l.getD i d) (m.getD i d)=false→Bz f l m=false
 |x::l,y::m,0,_,_,hf=>by rw[Bz,show f x y=false by simpa using hf];rfl
 |x::l,y::m,i+1,h,hi,hf=>by rw[Bz,Gq f d l m i (by simpa using h) (by simpa using hi) (by simpa using hf)];simp
 |[],_,_,_,hi,_=>by simp at hi
 |x::l,[],_,h,_,_=>by simp at h
theorem Dn {l:Bs}(h:Aq l=true):l.length≤20:=by
 unfold Aq at h;simp only[Zh,decide_eq_true_eq]at h;exact h.1.1.2
theorem kY(L:Nat):∀l:List Bs,(∀x,x∈l→x.length≤L)→(Bg l).length≤l.length*(L+2)
 |[],_=>by simp [Bg]
 |x::l,h=>by
  have more:∀m:List Bs,(∀x,x∈m→x.length≤L)→(m.flatMap (fun y=>[44,32]++y)).length≤m.length*(L+2):=by
   intro m
   induction m with
   |nil=>intro _;simp
   |cons y m ih=>
    intro hm;have h1:=hm y Zd;have h2:=ih (fun z hz=>hm z (Zj _ hz));simp only[Zr,Zb,Zc,Zk]at h2 ⊢;rw[Zu];omega
  have h1:=h x Zd;have h2:=more l (fun z hz=>h z (Zj _ hz));rw[Bg,Zb,Zc,Zu];omega
theorem Mu(e:Ex)(lev:Int)(t:Bs):(Ea e lev t).length≤t.length+2:=by
 unfold Ea;split
 ·simp
 ·omega
theorem aW:∀i:Fin 20,(As i.val).length≤2:=by decide+kernel
theorem Qu(o:Int):(As o).length≤2:=by
 by_cases h:0≤o∧o≤19
 ·have e1:((o.toNat:Nat):Int)=o:=Int.toNat_of_nonneg (by omega)
  have:=aW ⟨o.toNat,by omega⟩;simp only[e1]at this;exact this
 ·unfold As
  rw[if_neg (by omega),if_neg (by omega),if_neg (by omega),if_neg (by omega),if_neg (by omega),if_neg (by omega),if_neg (by omega),if_neg (by omega),if_neg (by omega),if_neg (by omega),if_neg (by omega),if_neg (by omega),if_neg (by omega),if_neg (by omega),if_neg (by omega),if_neg (by omega),if_neg (by omega),if_neg (by omega),if_neg (by omega)];exact Zg _
theorem kJ(n:Int)(h:0≤n∧n≤9223372036854775807)(o:Int)(nm:Bs)(l:List Ex):(Ah (.mk 1 o n nm l)).length≤21:=by
 rw[Qr];exact Lib.itoa_length_le n (by omega) h.2
theorem dA {L:Nat}{nm:Bs}{l:List Ex}(hn:nm.length≤20)(h6:l.length≤6)(hl:∀x,x∈l→(Ah x).length≤L):(Ah (.mk 5 0 0 nm l)).length≤6*L+64:=by
 rw[Rj];have:=kY L (l.map Ah) (fun x hx=>by
  obtain⟨y,hy,rfl⟩:=List.mem_map.1 hx;exact hl y hy)
 simp only[List.length_map,Zb,Zc,Zk]at this ⊢;have:l.length*(L+2)≤6*(L+2):=Zp _ h6;omega
theorem aH {sc:Sc}(hs:sc.Ok)(raw:List Int)(g:Nat→Ex ×Nat)(L:Nat)(hg:∀a,(Ah (g a).1).length≤L)(a:Nat):(Ah (Hi sc raw g a).1).length≤6*L+64:=by
 unfold Hi;split
 ·have h7:=Aj raw (Ac raw a 312).2 7 (by decide)
  exact dA (Dn (Iq _)) (by rw[Ie];omega) (Jx g (fun x=>(Ah x).length≤L) hg _ _)
 ·rename_i hn
  have hl:=cL hn;have hr:=Aj raw a sc.funcs.length (by omega);have hf:Aq (Dq sc.funcs (Ac raw a sc.funcs.length).1.toNat).name=true∧(Dq sc.funcs (Ac raw a sc.funcs.length).1.toNat).params.length≤6:=hs.funcs _ (lF (d:=Fu.nil) (i:=(Ac raw a sc.funcs.length).1.toNat) (by omega));dsimp only;generalize Dq sc.funcs (Ac raw a sc.funcs.length).1.toNat=f at hf ⊢;exact dA (Dn hf.1) (by rw[Ie];exact hf.2) (Jx g (fun x=>(Ah x).length≤L) hg _ _)
theorem Yk {sc:Sc}(hs:sc.Ok)(raw:List Int)(g:Nat→Ex ×Nat)(L:Nat)(hg:∀a,(Ah (g a).1).length≤L)(k:Int)(a:Nat):(Ah (Cy sc raw g k a).1).length≤6*L+64:=by
 unfold Cy;split
 ·have:=Dn (Ox hs raw a)
  dsimp only;rw[Sa];omega
 split
 ·dsimp only;rw[Qz];simp
 split
 ·have h1:=Aj raw (if k=3 then(Ac raw a 3).2 else a) 1000 (by decide)
  have h2:=Lv _ (Ac raw (Ac raw (if k=3 then(Ac raw a 3).2 else a) 1000).2 8).1 h1;have:=kJ _ h2 0 [] [];dsimp only;omega
 split
 ·have:=hg (Ac raw a 3).2
  dsimp only;rw[Rt _ _ _ _ (by simp)];have h2:=Qu (17+(Ac raw a 3).1);have h3:=Mu (g (Ac raw a 3).2).1 9 (Ah (g (Ac raw a 3).2).1);show(As _++Ea (g (Ac raw a 3).2).1 9 (Ah (g (Ac raw a 3).2).1)).length≤_
  rw[Zb];omega
 split
 ·have h1:=Dn (Mw hs raw a)
  have h2:=hg (Cg sc.free sc.arrays raw a).2;dsimp only;rw[Rv _ _ _ _ (by simp)];show(_++[91]++Ah (g (Cg sc.free sc.arrays raw a).2).1++[93]).length≤_
  simp only[Zb,Zc,Zk];omega
 split
 ·exact aH hs raw g L hg a
 ·dsimp only;rw[Se _ _ _ _ (by simp)]
  have h1:=hg (Ac raw a 16).2;have h2:=hg (g (Ac raw a 16).2).2;have h3:=Qu (1+(Ac raw a 16).1);have h4:=Mu (g (Ac raw a 16).2).1 (Am (1+(Ac raw a 16).1)) (Ah (g (Ac raw a 16).2).1);have h5:=Mu (g (g (Ac raw a 16).2).2).1 (Am (1+(Ac raw a 16).1)+1) (Ah (g (g (Ac raw a 16).2).2).1);show(Ea (g (Ac raw a 16).2).1 (Am (1+(Ac raw a 16).1)) (Ah (g (Ac raw a 16).2).1)++([32]++(As _++[32]))++Ea (g (g (Ac raw a 16).2).2).1 (Am (1+(Ac raw a 16).1)+1) (Ah (g (g (Ac raw a 16).2).2).1)).length≤_
  simp only[Zb,Zc,Zk];omega
def exB:Nat→Nat
 |0=>64
 |d+1=>6*exB d+64
theorem Pg {sc:Sc}(hs:sc.Ok)(raw:List Int):∀d a,(Ah (Ax sc raw d a).1).length≤exB d
 |0,a=>by
  rw[Ax];unfold Pp;have:=Yk hs raw (fun a=>(Ex.nil,a)) 0 (fun a=>by show(Ah (.mk 0 0 0 [] [])).length≤0;rw[Gk];decide) (gK raw 0 a) (Ac raw a 12).2;simp only[exB];omega
 |d+1,a=>by
  rw[Ax];unfold Pp;exact Yk hs raw _ (exB d) (Pg hs raw d) _ _
theorem pN(t:Nat):(Kd t).length=t:=List.length_replicate
theorem cJ(t:Nat)(l:List Bs):(ln t l).length=t+l.flatten.length+1:=by unfold ln;rw[Zb,Zb,pN];rfl
theorem rB {t N L T E:Nat}{k:Int}{nm:Bs}{args:List Ex}{thn els:List St}(hn:nm.length≤N)(ha:∀x,x∈args→(Ah x).length≤L)(hT:(Bx (t+1) thn).length≤T)(hE:(Bx (t+1) els).length≤E):(Cm t (.mk k nm args thn els)).length≤3*t+N+2*L+T+E+40:=by
 have hx:∀i,(Ah (Bw args i)).length≤L:=fun i=>by
  unfold Bw;rcases Nat.lt_or_ge i args.length with h|h
  ·rw[List.getD_eq_getElem?_getD,Zy h];exact ha _ (List.getElem_mem h)
  ·rw[List.getD_eq_getElem?_getD,List.getElem?_eq_none h]
   show(Ah (.mk 0 0 0 [] [])).length≤L
   rw[Gk];exact Zg _
 have h0:=hx 0;have h1:=hx 1;rw[Fi];unfold Dd
 repeat' split
 all_goals
  try simp only[cJ,Zb,Zw,Zx,Zc,Zk]
  try omega
theorem bK {t B:Nat}:∀l:List St,(∀x,x∈l→(Cm t x).length≤B)→(Bx t l).length≤l.length*B
 |[],_=>by simp [Bx]
 |x::l,h=>by
  have h1:=h x Zd;have h2:=bK l (fun z hz=>h z (Zj _ hz));rw[Bx,Zb,Zc,Zu];omega
theorem dG {sc:Sc}(hs:sc.Ok)(raw:List Int)(gs gl:Nat→List St ×Nat)(T:Nat)(t:Nat)(hgs:∀a,(Bx (t+1) (gs a).1).length≤T)(hgl:∀a,(Bx (t+1) (gl a).1).length≤T)(k:Int)(a:Nat):
  ∃k' nm args thn els,(By sc raw gs gl k a).1= .mk k' nm args thn els∧nm.length≤20∧(∀x,x∈args→(Ah x).length≤exB 3)∧(Bx (t+1) thn).length≤T∧(Bx (t+1) els).length≤T:=by
 have z:(Bx (t+1) []).length≤T:=Zg _;have nn:∀x:Ex,x∈([]:List Ex)→(Ah x).length≤exB 3:=fun x hx=>by cases hx
 have n0:([]:Bs).length≤20:=Zg _;have ee:∀a,∀x,x∈[(Ax sc raw 3 a).1]→(Ah x).length≤exB 3:=fun a x hx=>by rw[List.mem_singleton.1 hx];exact Pg hs raw 3 a
 unfold By;split
 ·exact⟨_,_,_,_,_,rfl,Dn (Ox hs raw a),nn,z,z⟩
 split
 ·exact⟨_,_,_,_,_,rfl,Dn (Mw hs raw a),ee _,z,z⟩
 split
 ·exact⟨_,_,_,_,_,rfl,n0,fun x hx=>by rw[List.mem_singleton.1 hx];exact aH hs raw _ (exB 2) (Pg hs raw 2) a,z,z⟩
 split
 ·exact⟨_,_,_,_,_,rfl,n0,nn,z,z⟩
 split
 ·exact⟨_,_,_,_,_,rfl,n0,ee _,hgs _,hgs _⟩
 split
 ·exact⟨_,_,_,_,_,rfl,n0,ee _,hgl _,z⟩
 split
 ·exact⟨_,_,_,_,_,rfl,n0,nn,z,z⟩
 ·exact⟨_,_,_,_,_,rfl,n0,nn,z,z⟩
theorem kT {sc:Sc}(hs:sc.Ok)(raw:List Int)(gs gl:Nat→List St ×Nat)(T:Nat)(t d:Nat)(hgs:∀a,(Bx (t+1) (gs a).1).length≤T)(hgl:∀a,(Bx (t+1) (gl a).1).length≤T)(a:Nat):(Cm t (gSt sc raw gs gl d a).1).length≤3*t+2*exB 4+2*T+60:=by
 unfold gSt;dsimp only;obtain⟨k,nm,args,thn,els,h,h1,h2,h3,h4⟩:=dG hs raw gs gl T t hgs hgl (Tl raw d a) (Ac raw a 14).2;generalize (By sc raw gs gl (Tl raw d a) (Ac raw a 14).2).2=b;rw[h];have h2:∀x,x∈args→(Ah x).length≤exB 4:=fun x hx=>Zq (h2 x hx) (by decide)
 unfold Kl;split
 ·have:=rB (k:=k) (N:=20) (L:=exB 4) h1 (args:=args++[(Ax sc raw 4 b).1]) (fun x hx=>by
   rcases List.mem_append.1 hx with hx|hx
   ·exact h2 x hx
   ·rw[List.mem_singleton.1 hx];exact Pg hs raw 4 b) h3 h4
  show(Cm t (.mk k nm (args++[(Ax sc raw 4 b).1]) thn els)).length≤_
  omega
 ·have:=rB (k:=k) (N:=20) (L:=exB 4) h1 h2 h3 h4
  show(Cm t (.mk k nm args thn els)).length≤_
  omega
def stB:Nat→Nat
 |0=>4*(2*exB 4+100)
 |d+1=>4*(2*exB 4+2*stB d+100)
theorem Vj(one:Nat→St ×Nat)(P:St→Prop)(hg:∀a,P (one a).1)(c a:Nat):∀x,x∈(Il one c a).1→P x:=Oz one P hg c a
theorem five(raw:List Int)(a:Nat):(Ac raw a 5).1.toNat≤4:=by have:=Aj raw a 5 (by decide);omega
theorem Qj(raw:List Int):∀(d t:Nat) (sc:Sc),sc.Ok→t+d≤10→∀a,(Bx t (Gh raw d sc a).1).length≤stB d
 |0,t,sc,hs,ht,a=>by
  rw[Gh];have h1:=bK (t:=t) (B:=2*exB 4+100) _ (Vj _ (fun x=>(Cm t x).length≤2*exB 4+100) (fun b=>Zq (kT hs raw (fun a=>([],a)) (fun a=>([],a)) 0 t 0 (fun _=>Zi _) (fun _=>Zi _) b) (by omega)) (Ac raw a 5).1.toNat (Ac raw a 5).2);rw[Ms]at h1;exact Zq h1 (Zp _ (five raw a))
 |d+1,t,sc,hs,ht,a=>by
  rw[Gh];have h1:=bK (t:=t) (B:=2*exB 4+2*stB d+100) _ (Vj _ (fun x=>(Cm t x).length≤2*exB 4+2*stB d+100) (fun b=>Zq (kT hs raw (Gh raw d sc) (Gh raw d sc.inLoop) (stB d) t (d+1) (Qj raw d (t+1) sc hs (by omega)) (Qj raw d (t+1) sc.inLoop hs.inLoop (by omega)) b) (by omega)) (Ac raw a 5).1.toNat (Ac raw a 5).2);rw[Ms]at h1;exact Zq h1 (Zp _ (five raw a))
theorem Ia(raw:List Int)(a:Nat)(n:Int)(h:a≤raw.length):a≤(Ac raw a n).2∧(Ac raw a n).2≤raw.length:=by
 refine⟨?_,qM raw a n h⟩;unfold Ac;split
 ·exact Zi _
 ·show a≤a+1;omega
def oV(N:Nat)(g:Nat→Ex ×Nat):Prop:= ∀a,a≤N→a≤(g a).2∧(g a).2≤N∧(Ah (g a).1).length+64*a≤1+64*(g a).2
theorem bG(l:List Bs)(x:Bs):(Bg (l++[x])).length≤(Bg l).length+x.length+2:=by
 cases l with
 |nil=>simp [Bg]
 |cons y l=>
  rw[List.cons_append,Bg,Bg,List.flatMap_append];simp only[Zb,Zr,List.flatMap_nil,Zc,Zk,List.append_nil];omega
theorem Sq {N:Nat}{g:Nat→Ex ×Nat}(hg:oV N g):∀c a,a≤N→a≤(Dz g c a).2∧(Dz g c a).2≤N∧(Bg ((Dz g c a).1.map Ah)).length+64*a≤3*c+64*(Dz g c a).2
 |0,a,h=>⟨Zi _,h,by simp [Dz,Bg]⟩
 |c+1,a,h=>by
  obtain⟨h1,h2,h3⟩:=Sq hg c a h;obtain⟨q1,q2,q3⟩:=hg (Dz g c a).2 h2;rw[Dz];dsimp only;refine⟨by omega,q2,?_⟩;rw[List.map_append];have:=bG ((Dz g c a).1.map Ah) (Ah (g (Dz g c a).2).1);show(Bg ((Dz g c a).1.map Ah++[Ah (g (Dz g c a).2).1])).length+64*a≤_
  omega
theorem Ym {N c:Nat}{nm:Bs}{m:List Ex ×Nat}{a b:Nat}(hn:nm.length≤20)(hc:c≤6)(hab:a≤b)(h:b≤m.2∧m.2≤N∧(Bg (m.1.map Ah)).length+64*b≤3*c+64*m.2):a≤m.2∧m.2≤N∧(Ah (.mk 5 0 0 nm m.1)).length+64*a≤65+64*m.2:=by
 obtain⟨h1,h2,h3⟩:=h;refine⟨by omega,h2,?_⟩;rw[Rj];simp only[Zb,Zc,Zk];omega
theorem mO {sc:Sc}(hs:sc.Ok)(raw:List Int){g:Nat→Ex ×Nat}(hg:oV raw.length g)(k:Int)(a:Nat)(ha:a≤raw.length):a≤(Cy sc raw g k a).2∧(Cy sc raw g k a).2≤raw.length∧(Ah (Cy sc raw g k a).1).length+64*a≤65+64*(Cy sc raw g k a).2:=by
 unfold Cy;split
 ·have h:=Dn (Ox hs raw a)
  have h2:a≤(Gd sc.free sc.vars raw a).2∧(Gd sc.free sc.vars raw a).2≤raw.length:=by
   unfold Gd;split<;>exact Ia raw a _ ha
  dsimp only;rw[Sa];exact⟨h2.1,h2.2,by omega⟩
 split
 ·have h2:=Ia raw a 3 ha
  dsimp only;rw[Qz];exact⟨h2.1,h2.2,by simp;omega⟩
 split
 ·have hb:a≤(if k=3 then(Ac raw a 3).2 else a)∧(if k=3 then(Ac raw a 3).2 else a)≤raw.length:=by
   split
   ·exact Ia raw a 3 ha
   ·exact⟨Zi _,ha⟩
  have n1:=Ia raw _ 1000 hb.2;have n2:=Ia raw _ 8 n1.2;have h1:=Aj raw (if k=3 then(Ac raw a 3).2 else a) 1000 (by decide);have h2:=Lv _ (Ac raw (Ac raw (if k=3 then(Ac raw a 3).2 else a) 1000).2 8).1 h1;have:=kJ _ h2 0 [] [];dsimp only;exact⟨by omega,n2.2,by omega⟩
 split
 ·have n1:=Ia raw a 3 ha
  obtain⟨q1,q2,q3⟩:=hg (Ac raw a 3).2 n1.2;dsimp only;rw[Rt _ _ _ _ (by simp)];have h2:=Qu (17+(Ac raw a 3).1);have h3:=Mu (g (Ac raw a 3).2).1 9 (Ah (g (Ac raw a 3).2).1);refine⟨by omega,q2,?_⟩;show(As _++Ea (g (Ac raw a 3).2).1 9 (Ah (g (Ac raw a 3).2).1)).length+64*a≤_
  rw[Zb];omega
 split
 ·have h1:=Dn (Mw hs raw a)
  have n1:a≤(Cg sc.free sc.arrays raw a).2∧(Cg sc.free sc.arrays raw a).2≤raw.length:=by
   unfold Cg;split
   ·have m1:=Ia raw a 312 ha
    have m2:=Ia raw _ 1000 m1.2;exact⟨Zq m1.1 m2.1,m2.2⟩
   ·exact Ia raw a _ ha
  obtain⟨q1,q2,q3⟩:=hg (Cg sc.free sc.arrays raw a).2 n1.2;dsimp only;rw[Rv _ _ _ _ (by simp)];refine⟨by omega,q2,?_⟩;show(_++[91]++Ah (g (Cg sc.free sc.arrays raw a).2).1++[93]).length+64*a≤_
  simp only[Zb,Zc,Zk];omega
 split
 ·unfold Hi
  split
  ·have h7:=Aj raw (Ac raw a 312).2 7 (by decide)
   have m1:=Ia raw a 312 ha;have m2:=Ia raw _ 7 m1.2;exact Ym (c:=(Ac raw (Ac raw a 312).2 7).1.toNat) (b:=(Ac raw (Ac raw a 312).2 7).2) (Dn (Iq _)) (by omega) (Zq m1.1 m2.1) (Sq hg _ _ m2.2)
  ·rename_i hn
   have hl:=cL hn;have hr:=Aj raw a sc.funcs.length (by omega);have hf:Aq (Dq sc.funcs (Ac raw a sc.funcs.length).1.toNat).name=true∧(Dq sc.funcs (Ac raw a sc.funcs.length).1.toNat).params.length≤6:=hs.funcs _ (lF (d:=Fu.nil) (i:=(Ac raw a sc.funcs.length).1.toNat) (by omega));have m1:=Ia raw a sc.funcs.length ha;dsimp only;generalize Dq sc.funcs (Ac raw a sc.funcs.length).1.toNat=f at hf ⊢;exact Ym (c:=f.params.length) (Dn hf.1) hf.2 m1.1 (Sq hg _ _ m1.2)
 ·have n1:=Ia raw a 16 ha
  obtain⟨q1,q2,q3⟩:=hg (Ac raw a 16).2 n1.2;obtain⟨r1,r2,r3⟩:=hg (g (Ac raw a 16).2).2 q2;dsimp only;rw[Se _ _ _ _ (by simp)];have h3:=Qu (1+(Ac raw a 16).1);have h4:=Mu (g (Ac raw a 16).2).1 (Am (1+(Ac raw a 16).1)) (Ah (g (Ac raw a 16).2).1);have h5:=Mu (g (g (Ac raw a 16).2).2).1 (Am (1+(Ac raw a 16).1)+1) (Ah (g (g (Ac raw a 16).2).2).1);refine⟨by omega,r2,?_⟩;show(Ea (g (Ac raw a 16).2).1 (Am (1+(Ac raw a 16).1)) (Ah (g (Ac raw a 16).2).1)++([32]++(As _++[32]))++Ea (g (g (Ac raw a 16).2).2).1 (Am (1+(Ac raw a 16).1)+1) (Ah (g (g (Ac raw a 16).2).2).1)).length+64*a≤_
  simp only[Zb,Zc,Zk];omega
theorem Ya {sc:Sc}(hs:sc.Ok)(raw:List Int)(d:Nat){g:Nat→Ex ×Nat}(hg:oV raw.length g):oV raw.length (Pp sc raw d g):=by
 intro a ha;unfold Pp
 by_cases h:raw.length≤a
 ·have e:∀n,Ac raw a n=(0,a):=fun n=>by unfold Ac;rw[if_pos h]
  have ek:gK raw d a=0:=by unfold gK;rw[e];split<;>rfl
  rw[ek,e];show a≤(Cy sc raw g 0 a).2∧(Cy sc raw g 0 a).2≤raw.length∧(Ah (Cy sc raw g 0 a).1).length+64*a≤1+64*(Cy sc raw g 0 a).2
  have eg:Cy sc raw g 0 a=(.mk 1 0 0 [] [],a):=by
   unfold Cy;rw[if_neg (by simp),if_neg (by simp),if_pos (by decide),if_neg (by decide)];dsimp only;rw[e 1000];dsimp only;rw[e 8];rfl
  rw[eg];refine⟨Zi _,ha,?_⟩;rw[Qr];have:(Lib.itoa 0).length=1:=by rw[Lib.itoa,if_neg (by decide)];rw[Lib.decDigits,dif_pos (by decide)];rfl
  rw[this];exact Zi _
 ·have e:(Ac raw a 12).2=a+1:=by unfold Ac;rw[if_neg h]
  rw[e];obtain⟨h1,h2,h3⟩:=mO hs raw hg (gK raw d a) (a+1) (by omega);exact⟨by omega,h2,by omega⟩
theorem Yu {sc:Sc}(hs:sc.Ok)(raw:List Int):∀d,oV raw.length (Ax sc raw d)
 |0=>by
  rw[Ax];exact Ya hs raw 0 (fun a ha=>⟨Zi _,ha,by
   have:(Ah (Ex.nil)).length=0:=by show(Ah (.mk 0 0 0 [] [])).length=0;rw[Gk];decide
   show(Ah Ex.nil).length+64*a≤1+64*a
   omega⟩)
 |d+1=>by
  rw[Ax];exact Ya hs raw (d+1) (Yu hs raw d)
theorem Xo(raw0:List Int):(Ah (Mt raw0)).length≤6401:=by
 have hs:Sc.Ok ⟨[],[],[],true,false⟩:=⟨fun x hx=>(by cases hx),fun x hx=>(by cases hx),fun x hx=>(by cases hx)⟩;have h:=(Yu hs (raw0.take 100) 6 0 (Zg _));have hl:(raw0.take 100).length≤100:=by rw[List.length_take];omega
 have e:Mt raw0=(Ax ⟨[],[],[],true,false⟩ (raw0.take 100) 6 0).1:=rfl;rw[e];obtain⟨h1,h2,h3⟩:=h;omega
def awP:List It:=[⟨[105,110,116],2,0,[32],[]⟩,⟨[109,97,105,110],1,0,[],[]⟩,⟨[40],4,0,[],[]⟩,⟨[41],4,0,[32],[]⟩,⟨[123],4,0,[32],[]⟩,⟨[112,114,105,110,116],2,0,[],[]⟩,⟨[40],4,0,[],[]⟩,⟨[49],3,1,[32],[]⟩,⟨[43],4,0,[32],[]⟩,⟨[50],3,2,[32],[]⟩,⟨[42],4,0,[32],[]⟩,⟨[51],3,3,[],[]⟩,⟨[41],4,0,[],[]⟩,⟨[59],4,0,[32],[]⟩,⟨[125],4,0,[],[]⟩]
def awQ:List It:=[⟨[105,110,116],2,0,[32],[]⟩,⟨[109,97,105,110],1,0,[],[]⟩,⟨[40],4,0,[],[]⟩,⟨[41],4,0,[32],[]⟩,⟨[123],4,0,[10],[]⟩]
def awX:List It:=[⟨[97],1,0,[32],[]⟩,⟨[45],4,0,[32],[]⟩,⟨[98],1,0,[32],[]⟩,⟨[45],4,0,[32],[]⟩,⟨[99],1,0,[],[]⟩]
theorem awP_ok:nA [] awP=true:=by kernel_rfl
theorem awQ_ok:nA [] awQ=true:=by kernel_rfl
theorem awX_ok:nA [] awX=true:=by kernel_rfl
theorem aw_p(w:World)(hl:Io w):
  Calls Ze 14 #[.string ⟨#[105,110,116,32,109,97,105,110,40,41,32,123,32,112,114,105,110,116,40,49,32,43,32,50,32,42,32,51,41,59,32,125]⟩] w fun e w'=>
   Below w.heap.size w w'∧∃aa an ac b off cap b2 o2 c2,e= .returned (.tuple #[.agg #[.slice aa an ac,.slice (some ⟨b,off,none⟩) 1 cap],.int .i64 0,.int .i64 0])∧w'.cell? ⟨b,off+3,none⟩=some (.slice (some ⟨b2,o2,none⟩) 1 c2)∧w'.cell? ⟨b2,o2,none⟩=some (.int .i64 8)∧1≤cap∧1≤c2:=by
 obtain⟨h1,h2⟩:=Uw [] awP awP_ok;refine(Sg [] [] Od awP h1 h2 (by decide) (by decide) 100 (by decide) w hl).mono ?_;intro e w' hp;obtain⟨hb,v,he,av,fv,hv,hxa,hxf⟩:=hp;have e1:(Pk (Sf (Fo 100 ⟨[],[]⟩ (Dt (1+Cf (Ai [] [])) awP)))).2.1=0:=by kernel_rfl
 have e2:(Pk (Sf (Fo 100 ⟨[],[]⟩ (Dt (1+Cf (Ai [] [])) awP)))).2.2=0:=by kernel_rfl
 have e3:(Pk (Sf (Fo 100 ⟨[],[]⟩ (Dt (1+Cf (Ai [] [])) awP)))).1.funcs.length=1:=by kernel_rfl
 have e4:(Dq (Pk (Sf (Fo 100 ⟨[],[]⟩ (Dt (1+Cf (Ai [] [])) awP)))).1.funcs 0).body.length=1:=by kernel_rfl
 have e5:(Hh (Dq (Pk (Sf (Fo 100 ⟨[],[]⟩ (Dt (1+Cf (Ai [] [])) awP)))).1.funcs 0).body 0).kind=8:=by kernel_rfl
 generalize Pk (Sf (Fo 100 ⟨[],[]⟩ (Dt (1+Cf (Ai [] [])) awP)))=R at*;obtain⟨a,cap,b,off,pv,lv,bv,rfl,hc,_,hz,hall⟩:=hxf;rw[e3]at hc hz hall;obtain⟨⟨_,_,_,g3⟩,_,_,hst⟩:=hall 0 (by decide);obtain⟨a2,c2,hs2⟩:=hst.shape;rw[hs2]at hst g3;rcases hz with hz|⟨rfl,_⟩
 ·omega
 have hq:∃b2 o2,a2=some ⟨b2,o2,none⟩∧w'.cell? ⟨b2,o2,none⟩=some (.int .i64 8)∧1≤c2:=by
  rw[←e5]
  cases hst with
  |mk _ _ _ b2 o2 sa st se hcap hfit ha h0=>
   rcases ha with ha|⟨ha,_⟩
   ·omega
   ·exact⟨b2,o2,ha,by simpa using h0 0 (by omega),by omega⟩
 obtain⟨b2,o2,rfl,hk,hc2⟩:=hq;rw[e4]at g3;obtain⟨aa,an,ac,rfl⟩:∃a n c,av=Value.slice a n c:=by obtain⟨a,c,h⟩:=hxa.yshape;exact⟨a,_,c,h⟩
 refine⟨hb,aa,an,ac,b,off,cap,b2,o2,c2,?_,by simpa using g3,hk,hc,hc2⟩;rw[he,hv,e1,e2,e3]
theorem aw_q(w:World)(hl:Io w):
  Calls Ze 14 #[.string ⟨#[105,110,116,32,109,97,105,110,40,41,32,123,10]⟩] w fun e w'=>
   Below w.heap.size w w'∧∃aa an ac fa fn fc,e= .returned (.tuple #[.agg #[.slice aa an ac,.slice fa fn fc],.int .i64 40,.int .i64 2]):=by
 obtain⟨h1,h2⟩:=Uw [] awQ awQ_ok;refine(Sg [] [] Od awQ h1 h2 (by decide) (by decide) 100 (by decide) w hl).mono ?_;intro e w' hp;obtain⟨hb,v,he,av,fv,hv,hxa,hxf⟩:=hp;obtain⟨aa,an,ac,rfl⟩:∃a n c,av=Value.slice a n c:=by obtain⟨a,c,h⟩:=hxa.yshape;exact⟨a,_,c,h⟩
 obtain⟨fa,fn,fc,rfl⟩:∃a n c,fv=Value.slice a n c:=by obtain⟨a,c,h⟩:=hxf.yshape;exact⟨a,_,c,h⟩
 refine⟨hb,aa,an,ac,fa,fn,fc,?_⟩;rw[he,hv];rfl
theorem aw_x(w:World)(hl:Io w):
  Calls Ze 13 #[.string ⟨#[97,32,45,32,98,32,45,32,99]⟩] w fun e w'=>
   Below w.heap.size w w'∧∃k o n s b off cap,e= .returned (.tuple #[.agg #[.int .i64 k,.int .i64 o,.int .i64 n,.string s,.slice (some ⟨b,off,none⟩) 2 cap],.int .i64 0,.int .i64 0])∧w'.cell? ⟨b,off+8,none⟩=some (.string ⟨#[99]⟩):=by
 obtain⟨h1,h2⟩:=Uw [] awX awX_ok;refine(eW [] [] Od awX h1 h2 (by decide) (by decide) 100 (by decide) w hl).mono ?_;intro e w' hp;obtain⟨hb,v,he,s,hv,hx,hn⟩:=hp;have e1:(Rr (Wz (Bf 100 1 (Dt (1+Cf (Ai [] [])) awX)))).2.1=0:=by kernel_rfl
 have e2:(Rr (Wz (Bf 100 1 (Dt (1+Cf (Ai [] [])) awX)))).2.2=0:=by kernel_rfl
 have e3:(Rr (Wz (Bf 100 1 (Dt (1+Cf (Ai [] [])) awX)))).1.args.length=2:=by kernel_rfl
 have e4:(Bw (Rr (Wz (Bf 100 1 (Dt (1+Cf (Ai [] [])) awX)))).1.args 1).name=[99]:=by kernel_rfl
 generalize Rr (Wz (Bf 100 1 (Dt (1+Cf (Ai [] [])) awX)))=R at*;obtain⟨a,cap,rfl⟩:=hx.shape;obtain⟨b,off,s2,rfl,_,_,_,_,h4,_⟩:=hx.cellAt 1 (by omega);rw[e4]at h4;refine⟨hb,R.1.kind,R.1.op,R.1.n,Aa R.1.name,b,off,cap,?_,h4⟩;rw[he,hv,e1,e2,e3]
theorem iZ(w:World)(hl:Io w):
  Calls Ze 11 #[] w fun e w'=>e= .returned (.bool true)∧Below w.heap.size w w':=by
 have HL:=Za hl;clear hl;go_enter Tryz.func11,Tryz.ntmps11
 go_wp2_with fail
 refine(aw_p w HL.out).mono ?_;rintro e w1 ⟨hb1,aa,an,ac,b,off,cap,b2,o2,c2,rfl,h3,hk,hc,hc2⟩;have hal:Below w1.heap.size w1 (w1.alloc (.cells #[.slice aa an ac,.slice (some ⟨b,off,none⟩) 1 cap] 34)):=bA;have HO:=Za (Ae.new w1 [.slice aa an ac,.slice (some ⟨b,off,none⟩) 1 cap] 34);have HL1:=Za ((HL.out.old hb1).old hal);have HB1:=Za (hb1.trans (hal.mono hb1.size));have H3:=Za (Ad hal h3);have HK:=Za (Ad hal hk);clear hb1 h3 hk hal;go_upto_region 2 with(fail)
 generalize w1.alloc (.cells #[.slice aa an ac,.slice (some ⟨b,off,none⟩) 1 cap] 34)=w2 at*;obtain⟨pb,hpb⟩:∃pb,w1.heap.size=pb:=⟨_,rfl⟩;rw[hpb]at HO ⊢;clear hpb;go_wp2_with fail
 refine(aw_q w2 HL1.out).mono ?_;rintro e w3 ⟨hb3,a3,n3,d3,f3,m3,e3,rfl⟩;have hal:Below w3.heap.size w3 (w3.alloc (.cells #[.slice a3 n3 d3,.slice f3 m3 e3] 34)):=bA;have HO3:=Za ((HO.out.old hb3).old hal);have HL3:=Za ((HL1.out.old hb3).old hal);have HB3:=Za (HB1.out.trans ((hb3.trans (hal.mono hb3.size)).mono HB1.out.size));have H33:=Za (Ad hal (Ad hb3 H3.out));have HK3:=Za (Ad hal (Ad hb3 HK.out));clear hb3 hal HO HL1 HB1 H3 HK;go_upto_region 3 with(fail)
 generalize w3.alloc (.cells #[.slice a3 n3 d3,.slice f3 m3 e3] 34)=w4 at*;go_wp2_with fail
 refine(aw_x w4 HL3.out).mono ?_;rintro e w5 ⟨hb5,k,o,n,s,b5,off5,cap5,rfl,h5⟩;have hal:Below w5.heap.size w5 (w5.alloc (.cells #[.int .i64 k,.int .i64 o,.int .i64 n,.string s,.slice (some ⟨b5,off5,none⟩) 2 cap5] 27)):=bA;have HO5:=Za ((HO3.out.old hb5).old hal);have HX5:=Za (Ae.new w5 [.int .i64 k,.int .i64 o,.int .i64 n,.string s,.slice (some ⟨b5,off5,none⟩) 2 cap5] 27);have HB5:=Za (HB3.out.trans ((hb5.trans (hal.mono hb5.size)).mono HB3.out.size));have H35:=Za (Ad hal (Ad hb5 H33.out));have HK5:=Za (Ad hal (Ad hb5 HK3.out));have H85:=Za (Ad hal h5);clear hb5 hal HO3 HL3 HB3 H33 HK3 h5;go_upto_region 4 with(fail)
 generalize w5.alloc (.cells #[.int .i64 k,.int .i64 o,.int .i64 n,.string s,.slice (some ⟨b5,off5,none⟩) 2 cap5] 27)=w6 at*;obtain⟨xb,hxb⟩:∃xb,w5.heap.size=xb:=⟨_,rfl⟩;rw[hxb]at HX5 ⊢;clear hxb;have p1:=HO5.out.at 1 _ rfl;have q4:=HX5.out.at 4 _ rfl;have c3:=H35.out;have ck:=HK5.out;have c8:=H85.out;have hcI:(1:Int)≤(cap:Int):=by omega
 go_wp2_with fail
 go_ret
 exact⟨rfl,HB5.out⟩
def PreE(w:World)(raw:List Int)(wx:World):Prop:=Ay wx (w.heap.size+1) raw 0∧Below w.heap.size w wx∧Ae wx w.heap.size [.int .i64 0,.int .i64 0,.int .i64 0,.string ⟨#[]⟩,.slice none 0 0] 27
theorem kL(w:World)(raw:List Int)(v:Value)(h:He (· <w.heap.size) w raw v):PreE w raw ((w.alloc (.cells #[.int .i64 0,.int .i64 0,.int .i64 0,.string ⟨#[]⟩,.slice none 0 0] 27)).alloc (.cells #[v,.int .i64 0] 71)):=by
 have hb:Below w.heap.size w ((w.alloc (.cells #[.int .i64 0,.int .i64 0,.int .i64 0,.string ⟨#[]⟩,.slice none 0 0] 27)).alloc (.cells #[v,.int .i64 0] 71)):=(bA).alloc (by simp) _;have hs:=Ae.new (w.alloc (.cells #[.int .i64 0,.int .i64 0,.int .i64 0,.string ⟨#[]⟩,.slice none 0 0] 27)) [v,.int .i64 0] 71;rw[show(w.alloc (.cells #[.int .i64 0,.int .i64 0,.int .i64 0,.string ⟨#[]⟩,.slice none 0 0] 27)).heap.size=w.heap.size+1 by simp]at hs;refine⟨⟨v,hs,?_,Zg _⟩,hb,(Ae.new w [.int .i64 0,.int .i64 0,.int .i64 0,.string ⟨#[]⟩,.slice none 0 0] 27).alloc _⟩;have h2:=h.keep (Bh hb);obtain⟨a',cap',b,off,hv,h1,h2,h3,h4,h5⟩:=h2;exact⟨a',cap',b,off,hv,h1,h2,h3.imp id (fun q=>⟨q.1,by have:=q.2;omega⟩),h4,h5⟩
def sI(w:World)(e:Ex)(r:Ending)(w':World):Prop:= ∃v,r= .returned (exV e v)∧Below w.heap.size w w'∧Ag (w.heap.size≤ ·) w' e.args v∧I64 e.n
theorem lE(raw0:List Int)(rv:Value)(w:World)(hr:Hq (· <w.heap.size) w raw0 rv):Calls Ze 15 #[rv] w (sI w (Mt raw0)):=by
 obtain⟨ra,rc,rfl⟩:=hr.shape;have HR:=Za hr;obtain⟨raw,hraw⟩:∃raw,raw=raw0.take 100:=⟨_,rfl⟩;have HRAW:=Za hraw;have HX:=Za (fun wx (h:Ay wx (w.heap.size+1) raw 0)=>Kk 6 (by omega) (w.heap.size+1) raw 0 ⟨[],[],[],true,false⟩ (.slice none 0 0) (.slice none 0 0) (.slice none 0 0) wx h ⟨Ba.zero,Bt.zero,Bn.zero,Zg _,Zg _,Zg _,fun f hf=>(by cases hf)⟩);have hg:Mt raw0=(Ax ⟨[],[],[],true,false⟩ raw 6 0).1:=by rw[hraw];rfl
 rw[hg];generalize Ax ⟨[],[],[],true,false⟩ raw 6 0=X at*;obtain⟨e,ae⟩:=X;clear hg hraw hr;go_enter Tryz.func15,Tryz.ntmps15
 go_upto_if 9 with(fail)
 go_cut [] (fun wx=>PreE w raw wx)
 case first=>
  by_cases h100:100<raw0.length
  ·have hlt:(100:Int)<(raw0.length:Int):=by omega
   have hle:(100:Int)≤(rc:Int):=by
    obtain⟨a',cap',b,off,hv,h1,_⟩:=HR.out
    cases hv;omega
   go_wp2_with fail
   go_meet;have hq:=HR.out.take 100 (by omega) (by decide);rw[←HRAW.out]at hq;have h1:raw.length=100:=by rw[HRAW.out,List.length_take];omega
   exact kL w raw _ hq
  ·have hlt:(raw0.length:Int)≤100:=by omega
   have HQ:Hid (He (· <w.heap.size) w raw (.slice ra raw0.length rc)):=by
    have e:raw=raw0:=by rw[HRAW.out];exact List.take_of_length_le (by omega)
    show He _ _ _ _
    rw[e];have:=HR.out.take raw0.length (Zi _) (by omega);rwa[List.take_length]at this
   go_wp2_with fail
   go_meet;exact kL w raw _ HQ.out
 case rest=>
 have HP0:=Za hcut;clear hcut HR HRAW;go_wp2_with fail
 refine(HX.out _ HP0.out.1).mono ?_;rintro r w2 ⟨v,rfl,hs2,hf2,he2,hn2⟩;obtain⟨v1,v2,rfl⟩:=he2.shape;have HO:=Za (HP0.out.2.2.sfr hf2 (by omega));have HB:=Za (HP0.out.2.1.trans ((hf2.below (Nat.le_of_lt HP0.out.1.lt)).mono (by omega)));have hsz:w.heap.size+1<w2.heap.size:=hs2.lt;have hx0:w.heap.size+1<_:=HP0.out.1.lt;have HE:=Za (he2.mono (D':=(w.heap.size+1≤ ·)) (fun b hb=>by have:_≤b:=hb;omega));have HN:=Za hn2;clear hs2 hf2 he2 hn2 HP0 HX hx0;obtain⟨k,o,n,nm,us⟩:=e;have c0:=HO.out.fz 0;have c1:=HO.out.fz 1;have hlt:=HO.out.lt;have x0:=HO.out.at 0 _ rfl;have x1:=HO.out.at 1 _ rfl;have x2:=HO.out.at 2 _ rfl;have x3:=HO.out.at 3 _ rfl;have x4:=HO.out.at 4 _ rfl;have f2:=HO.out.fz 2;have f3:=HO.out.fz 3;have f4:=HO.out.fz 4;go_wp2_with fail
 have HS:=Za (((((HO.out.set 0 (.int .i64 (Ex.mk k o n nm us).kind)).set 1 (.int .i64 (Ex.mk k o n nm us).op)).set 2 (.int .i64 (Ex.mk k o n nm us).n)).set 3 (.string (Aa (Ex.mk k o n nm us).name))).set 4 (.slice v1 (Ex.mk k o n nm us).args.length v2));have d0:=HS.out.at 0 _ rfl;have d1:=HS.out.at 1 _ rfl;have d2:=HS.out.at 2 _ rfl;have d3:=HS.out.at 3 _ rfl;have d4:=HS.out.at 4 _ rfl;have st:∀(v:World) (i:Nat) (x:Value),Below w.heap.size v (v.setCell ⟨w.heap.size,i,none⟩ x):=fun v i x=>(Zl _ _).setCell (p:=⟨w.heap.size,i,none⟩) (Zi _) x
 have kp:∀(v:World) (i:Nat) (x:Value),Dr (w.heap.size+1≤ ·) v (v.setCell ⟨w.heap.size,i,none⟩ x):=fun v i x=>Bi v (Nat.lt_succ_self _) i x
 exact bodyPost_ret (v:=exV (Ex.mk k o n nm us) (.slice v1 (Ex.mk k o n nm us).args.length v2)) (by simp [results,Tryz.results15,go_sem,d0,d1,d2,d3,d4]) rfl ⟨_,rfl,((((HB.out.trans (st _ _ _)).trans (st _ _ _)).trans (st _ _ _)).trans (st _ _ _)).trans (st _ _ _),(((((HE.out.keep (kp _ _ _)).keep (kp _ _ _)).keep (kp _ _ _)).keep (kp _ _ _)).keep (kp _ _ _)).mono (fun b hb=>by have:w.heap.size+1≤b:=hb;omega),HN.out⟩
def fuB:Nat:=1000+stB 4
def prB:Nat:=200+3*fuB
theorem sO:2*prB≤140737488355328:=by decide+kernel
theorem jG {a:Ar}(h:Dv a=true):(Nx a).length≤100:=by
 unfold Dv at h;simp only[Zh,decide_eq_true_eq]at h;have h1:=Dn h.1;have h2:=Lib.itoa_length_le a.size (by omega) (by omega);unfold Nx;rw[cJ];simp only[Zw,Zx,Zb,Zc,Zk];omega
theorem Tq:∀l:List Ar,(∀a,a∈l→Dv a=true)→(Ek l).length≤l.length*100
 |[],_=>by simp [Ek]
 |a::l,h=>by
  have h1:=jG (h a Zd);have h2:=Tq l (fun x hx=>h x (Zj _ hx));show(Nx a++Ek l).length≤_
  rw[Zb,Zc,Zu];omega
theorem Ul:∀l:List Bs,(∀x,x∈l→Aq x=true)→(Fl l).length≤l.length*40
 |[],_=>by simp [Fl]
 |x::l,h=>by
  have h1:=Dn (h x Zd);have h2:=Ul l (fun y hy=>h y (Zj _ hy));show(ln 1 [[105,110,116,32],x,[59]]++Fl l).length≤_
  rw[Zb,cJ,Zc,Zu];simp only[Zw,Zx,Zb,Zc,Zk];omega
theorem jV {f:Fu}(h:FOk f)(hp:f.params.length≤6)(hl:f.locals.length≤5)(hb:(Bx 1 f.body).length≤stB 4):(Ip f).length≤fuB:=by
 have h1:=Dn h.name;have h2:=kY 24 (f.params.map Jz) (fun x hx=>by
  obtain⟨y,hy,rfl⟩:=List.mem_map.1 hx;have:=Dn (h.params y hy);unfold Jz;rw[Zb];simp;omega)
 have h3:=Ul f.locals h.locals;have h4:(f.params.map Jz).length*(24+2)≤6*26:=Zp _ (by rw[List.length_map];exact hp);have h5:f.locals.length*40≤5*40:=Zp _ hl;unfold Ip fuB;simp only[Zb,cJ,Zw,Zx,Zc,Zk];omega
theorem To:∀l:List Fu,(∀f,f∈l→(Ip f).length≤fuB)→(Fc l).length≤l.length*fuB
 |[],_=>by simp [Fc]
 |a::l,h=>by
  have h1:=h a Zd;have h2:=To l (fun x hx=>h x (Zj _ hx));show(Ip a++Fc l).length≤_
  rw[Zb,Zc,Zu];omega
theorem Uc(raw:List Int)(sc:Sc)(P:Fu→Prop)(hP:∀f,f∈sc.funcs→∀a,P (Pn raw sc f a).1):∀(l:List Fu),(∀f,f∈l→f∈sc.funcs)→∀a,∀x,x∈(Db raw sc l a).1→P x
 |[],_,a,x,hx=>by cases hx
 |f::l,hl,a,x,hx=>by
  rw[Db]at hx;rcases List.mem_cons.1 hx with rfl|hx
  ·exact hP f (hl f Zd) a
  ·exact Uc raw sc P hP l (fun g hg=>hl g (Zj _ hg)) _ x hx
theorem Oe(raw:List Int)(sc:Sc):∀(l:List Fu) (a:Nat),(Db raw sc l a).1.length=l.length
 |[],a=>rfl
 |g::l,a=>by rw[Db,Zc,Zc,Oe raw sc l]
theorem Rc(free:Bool)(raw:List Int):∀n a,(Iv free raw n a).1.length=n
 |0,a=>rfl
 |n+1,a=>by rw[Iv,Zc,Rc free raw n]
theorem Qo(raw:List Int):∀n a,(Ik raw n a).1.length=n
 |0,a=>rfl
 |n+1,a=>by rw[Ik,Zc,Qo raw n]
theorem gSc_ok(raw:List Int)(free:Bool){f:Fu}(hf:f∈(Jg raw free).funcs)(k:Nat):Sc.Ok ⟨f.params++Df.take k,(Jg raw free).arrays,(Jg raw free).funcs,free,false⟩:=by
 refine⟨fun x hx=> ?_,fun x hx=> ?_,fun x hx=>⟨(Hj raw free x hx).1,(Hj raw free x hx).2.1⟩⟩
 ·rcases List.mem_append.1 hx with hx|hx
  ·exact(Hj raw free f hf).2.2 x hx
  ·exact Yd x (List.mem_of_mem_take hx)
 ·have:=Ns raw free x hx
  unfold Dv at this;exact((Zh _ _).mp this).1
theorem fB(raw:List Int)(free:Bool):∀f,f∈(Kr raw free).funcs→(Ip f).length≤fuB:=by
 intro f hf;have hr:=Nz raw free;unfold Ez at hr;simp only[Zh,Zs]at hr;have hok:=oL (hr.2 f hf);have h:=Uc (raw.take 400) (Jg (raw.take 400) free) (fun f=>f.params.length≤6∧f.locals.length≤5∧(Bx 1 f.body).length≤stB 4) (fun g hg a=>by
  have hh:=Hj (raw.take 400) free g hg;refine⟨hh.2.1,?_,?_⟩
  ·show(Df.take _).length≤5
   rw[List.length_take];exact Nat.min_le_right _ _
  ·exact Qj (raw.take 400) 4 1 _ (gSc_ok (raw.take 400) free hg _) (by omega) _) (Jg (raw.take 400) free).funcs (fun f hf=>hf) _ f hf
 exact jV hok h.1 h.2.1 h.2.2
theorem Rm(raw:List Int)(free:Bool):(Kr raw free).arrays.length≤2∧(Kr raw free).funcs.length≤3∧0<(Kr raw free).funcs.length:=by
 have h1:=Aj (raw.take 400) 0 3 (by decide);have h2:=Aj (raw.take 400) (Jl (raw.take 400) free).2 3 (by decide);have ea:(Kr raw free).arrays.length=(Ac (raw.take 400) 0 3).1.toNat:=Rc _ _ _ _;have ef:(Kr raw free).funcs.length=(Ac (raw.take 400) (Jl (raw.take 400) free).2 3).1.toNat+1:=by
  show(Db _ _ _ _).1.length=_
  rw[Oe];show(Ky::(Qi _ _).1).length=_
  rw[Zc];show(Ik _ _ _).1.length+1=_
  rw[Qo]
 rw[ea,ef];omega
theorem mT(raw:List Int)(free:Bool):(Ey (Kr raw free)).length≤prB:=by
 have hr:=Nz raw free;unfold Ez at hr;simp only[Zh,Zs]at hr;obtain⟨c1,c2,_⟩:=Rm raw free;have h1:=Tq _ hr.1;have h2:=To _ (fB raw free);have h3:(Kr raw free).arrays.length*100≤2*100:=Zp _ c1;have h4:(Kr raw free).funcs.length*fuB≤3*fuB:=Zp _ c2;unfold Ey prB;rw[Zb];omega
theorem mR {p:Pr}(h:0<p.funcs.length):Ey p≠[]:=by
 obtain⟨a,l⟩:=p
 cases l with
 |nil=>cases h
 |cons f l=>
  unfold Ey;intro e;have:=(List.append_eq_nil_iff.1 e).2;simp [Fc,Ip]at this
def Oi(a:Ex):Prop:= ∀(b:Ex) (D:Nat→Prop) (sa sb:Value) (w:World),Ag D w a.args sa→Ag D w b.args sb→
 Calls Ze 117 #[exV a sa,exV b sb] w fun e w'=>e= .returned (.bool (Dm a b))∧Below w.heap.size w w'
theorem Vt(la:List Ex)(ih:∀x,x∈la→Oi x)(lb:List Ex)(D:Nat→Prop)(va vb:Value)(w:World)(ha:Ag D w la va)(hb:Ag D w lb vb):
  Calls Ze 116 #[va,vb,.func (.func 117) #[] #[]] w fun e w'=>e= .returned (.bool (Bz Dm la lb))∧Below w.heap.size w w':=by
 obtain⟨a1,a2,rfl⟩:=ha.shape;obtain⟨b1,b2,rfl⟩:=hb.shape;have l63:=ha.fits.lt;have m63:=hb.fits.lt
 by_cases hl:lb.length=la.length
 ·rw[hl]at hb ⊢
  have HA:=Za ha;have HB:=Za hb;have IH:=Za ih;have HL:=Za hl;clear ha hb ih hl m63;go_enter Tryz.func116,Tryz.ntmps116
  go_wp2_with fail
  go_loopw [7,8,9,17] (fun _ _ _ s17 wr=> ∃k:Nat,k≤la.length∧s17= .int .i64 k∧(∀i,i<k→Dm (la.getD i Ex.nil) (lb.getD i Ex.nil)=true)∧Below w.heap.size w wr) (fun _ _ _ s17 _=>la.length - (intOf s17).toNat)
  case atStart=>exact⟨0,Zg _,rfl,fun i hi=>by omega,Zl _ _⟩
  case round=>
   obtain⟨k,hk,rfl,hno,hb⟩:=hrel;have HNO:=Za hno;have HBW:=Za hb;have hsz:=hb.size;clear hno hb
   by_cases hlt:k<la.length
   ·obtain⟨xab,xao,xas,rfl,xaD,a0,a1,a2,a3,a4,ah,an⟩:=Ag.cellAt (Ag.old HBW.out HA.out) k hlt
    obtain⟨xbb,xbo,xbs,rfl,xbD,b0,b1,b2,b3,b4,bh,bn⟩:=Ag.cellAt (Ag.old HBW.out HB.out) k (by rw[HL.out];exact hlt);obtain⟨a5,a6,rfl⟩:=ah.shape;obtain⟨b5,b6,rfl⟩:=bh.shape;have al:=World.block_lt_of_cell? _ _ a0;have bl:=World.block_lt_of_cell? _ _ b0;have HAH:=Za ah;have HBH:=Za bh;clear ah bh an bn xaD xbD;have IHX:=Za (IH.out _ (Cs hlt));have HKL:=Za hlt;generalize hxe:Bw la k=xa at*;generalize hye:Bw lb k=xb at*;have HXE:=Za hxe;have HYE:=Za hye;clear hxe hye;generalize hxa:Dm xa xb=q;have HXA:Hid (Dm (Bw la k) (Bw lb k)=q):=by show _=_;rw[HXE.out,HYE.out];exact hxa
    have HXB:=Za hxa;clear hxa;have hww:Below wr.heap.size wr ((wr.alloc (.cells #[.int .i64 xa.kind,.int .i64 xa.op,.int .i64 xa.n,.string (Aa xa.name),.slice a5 xa.args.length a6] 27)).alloc (.cells #[.int .i64 xb.kind,.int .i64 xb.op,.int .i64 xb.n,.string (Aa xb.name),.slice b5 xb.args.length b6] 27)):=(bA).alloc (by simp) _;have HAH2:=Za (HAH.out.old hww);have HBH2:=Za (HBH.out.old hww);have HWW:=Za (HBW.out.trans (hww.mono hsz));clear hww;go_wp2_with fail
    refine(IHX.out _ D _ _ _ HAH2.out HBH2.out).mono ?_;rw[HXB.out]
    cases q
    ·rintro r w2 ⟨rfl,hb2⟩
     have HB2:=Za (HWW.out.trans (hb2.mono (by simp;omega)));clear hb2 a0 a1 a2 a3 a4 b0 b1 b2 b3 b4;go_wp2_with fail
     go_ret
     exact⟨Ao (Gq Dm Ex.nil la lb k HL.out.symm HKL.out HXA.out).symm,HB2.out⟩
    ·rintro r w2 ⟨rfl,hb2⟩
     have HB2:=Za (HWW.out.trans (hb2.mono (by simp;omega)));clear hb2 a0 a1 a2 a3 a4 b0 b1 b2 b3 b4;go_wp2_with fail
     go_roundw
     case rel=>exact⟨k+1,by omega,by go_num,fun i hi=>by rcases Zv.1 hi with h|rfl;exact HNO.out i h;exact HXA.out,HB2.out⟩
     case measure=>simp [intOf];omega
   ·go_wp2_with fail
    go_ret
    exact⟨Ao (Hu Dm Ex.nil la lb HL.out.symm (fun i hi=>HNO.out i (by omega))).symm,HBW.out⟩
 ·have hne:((la.length:Int) !=(lb.length:Int))=true:=by rw[bne_iff_ne];omega
  have E:Hid (Bz Dm la lb=false):=Iu _ _ _ (by omega);clear ha hb ih hl;go_enter Tryz.func116,Tryz.ntmps116
  go_wp2_with fail
  go_ret
  exact⟨Ao E.out.symm,Zl _ _⟩
theorem Xq(a:Ex)(ih:∀x,x∈a.args→Oi x):Oi a:=by
 intro b D sa sb w ha hb;obtain⟨a1,a2,rfl⟩:=ha.shape;obtain⟨b1,b2,rfl⟩:=hb.shape;have EQ:=Za (Vt a.args ih);obtain⟨k,o,n,nm,us⟩:=a;obtain⟨k',o',n',nm',bs⟩:=b;have HA:=Za ha;have HB:=Za hb;have E:Hid (Dm (.mk k o n nm us) (.mk k' o' n' nm' bs)=(k==k' && o==o' && n==n' && nm==nm' && Bz Dm us bs)):=by show _=_;rw[Dm,Mb]
 clear ha hb ih;show Calls _ _ #[.agg #[.int .i64 k,.int .i64 o,.int .i64 n,.string (Aa nm),.slice a1 us.length a2],.agg #[.int .i64 k',.int .i64 o',.int .i64 n',.string (Aa nm'),.slice b1 bs.length b2]] _ _
 rw[E.out];go_enter Tryz.func117,Tryz.ntmps117
 go_wp2_with fail
 ·refine(EQ.out bs D (.slice a1 us.length a2) (.slice b1 bs.length b2) _ ?h1 ?h2).mono ?_
  case h1=>exact Ag.old ((bA).alloc (by simp) _) HA.out
  case h2=>exact Ag.old ((bA).alloc (by simp) _) HB.out
  rintro r w1 ⟨rfl,hb⟩;go_wp2_with fail
  go_ret
  exact⟨Ao (by simp [*,Ex.args,St.args,St.thn,St.els]),((bA).alloc (by simp) _).trans (hb.mono (by simp;omega))⟩
 all_goals
  go_ret
  refine⟨Ao ?_,(bA).alloc (by simp) _⟩;simp [*]
theorem Qy:∀(n:Nat) (e:Ex),SizeOf.sizeOf e≤n→Oi e
 |0,e,h=>by cases e;simp at h
 |n+1,e,h=>Xq e fun x hx=>Qy n x (by have:=Ex.size_lt hx;omega)
theorem bU(e:Ex):Oi e:=Qy _ e (Zi _)
theorem mA(la lb:List Ex)(D:Nat→Prop)(va vb:Value)(w:World)(ha:Ag D w la va)(hb:Ag D w lb vb):
  Calls Ze 116 #[va,vb,.func (.func 117) #[] #[]] w fun e w'=>e= .returned (.bool (Du la lb))∧Below w.heap.size w w':=by
 rw[Mb];exact Vt la (fun x _=>bU x) lb D va vb w ha hb
def Ol(x:St):Prop:= ∀(y:St) (D:Nat→Prop) (a t e a' t' e':Value) (w:World),Ag D w x.args a→Au D w x.thn t→Au D w x.els e→Ag D w y.args a'→Au D w y.thn t'→Au D w y.els e'→
 Calls Ze 56 #[stV x a t e,stV y a' t' e'] w fun e w'=>e= .returned (.bool (Fr x y))∧Below w.heap.size w w'
theorem Qh(la:List St)(ih:∀x,x∈la→Ol x)(lb:List St)(D:Nat→Prop)(va vb:Value)(w:World)(ha:Au D w la va)(hb:Au D w lb vb):
  Calls Ze 55 #[va,vb,.func (.func 56) #[] #[]] w fun e w'=>e= .returned (.bool (Bz Fr la lb))∧Below w.heap.size w w':=by
 obtain⟨a1,a2,rfl⟩:=ha.shape;obtain⟨b1,b2,rfl⟩:=hb.shape;have l63:=ha.fits.lt;have m63:=hb.fits.lt
 by_cases hl:lb.length=la.length
 ·rw[hl]at hb ⊢
  have HA:=Za ha;have HB:=Za hb;have IH:=Za ih;have HL:=Za hl;clear ha hb ih hl m63;go_enter Tryz.func55,Tryz.ntmps55
  go_wp2_with fail
  go_loopw [7,8,9,17] (fun _ _ _ s17 wr=> ∃k:Nat,k≤la.length∧s17= .int .i64 k∧(∀i,i<k→Fr (la.getD i St.nil) (lb.getD i St.nil)=true)∧Below w.heap.size w wr) (fun _ _ _ s17 _=>la.length - (intOf s17).toNat)
  case atStart=>exact⟨0,Zg _,rfl,fun i hi=>by omega,Zl _ _⟩
  case round=>
   obtain⟨k,hk,rfl,hno,hb⟩:=hrel;have HNO:=Za hno;have HBW:=Za hb;have hsz:=hb.size;clear hno hb
   by_cases hlt:k<la.length
   ·obtain⟨xab,xao,a7,a8,a9,rfl,xaD,al,a0,a1,a2,a3,a4,ah,at',ae⟩:=Au.cellAt (Au.old HBW.out HA.out) k hlt
    obtain⟨xbb,xbo,b7,b8,b9,rfl,xbD,bl,b0,b1,b2,b3,b4,bh,bt,be⟩:=Au.cellAt (Au.old HBW.out HB.out) k (by rw[HL.out];exact hlt);obtain⟨a51,a52,rfl⟩:=ah.shape;obtain⟨b51,b52,rfl⟩:=bh.shape;obtain⟨a61,a62,rfl⟩:=Au.shape at';obtain⟨b61,b62,rfl⟩:=Au.shape bt;obtain⟨a71,a72,rfl⟩:=Au.shape ae;obtain⟨b71,b72,rfl⟩:=Au.shape be;have HAH:=Za ah;have HBH:=Za bh;have HAT:=Za at';have HBT:=Za bt;have HAE:=Za ae;have HBE:=Za be;clear ah bh at' bt ae be xaD xbD;have IHX:=Za (IH.out _ (Wf hlt));have HKL:=Za hlt;generalize hxe:Hh la k=xa at*;generalize hye:Hh lb k=xb at*;have HXE:=Za hxe;have HYE:=Za hye;clear hxe hye;generalize hxa:Fr xa xb=q;have HXA:Hid (Fr (Hh la k) (Hh lb k)=q):=by show _=_;rw[HXE.out,HYE.out];exact hxa
    have HXB:=Za hxa;clear hxa;have hww:Below wr.heap.size wr ((wr.alloc (.cells #[.int .i64 xa.kind,.string (Aa xa.name),.slice a51 xa.args.length a52,.slice a61 xa.thn.length a62,.slice a71 xa.els.length a72] 60)).alloc (.cells #[.int .i64 xb.kind,.string (Aa xb.name),.slice b51 xb.args.length b52,.slice b61 xb.thn.length b62,.slice b71 xb.els.length b72] 60)):=(bA).alloc (by simp) _;have HAH2:=Za (HAH.out.old hww);have HBH2:=Za (HBH.out.old hww);have HAT2:=Za (HAT.out.old hww);have HBT2:=Za (HBT.out.old hww);have HAE2:=Za (HAE.out.old hww);have HBE2:=Za (HBE.out.old hww);have HWW:=Za (HBW.out.trans (hww.mono hsz));clear hww;go_wp2_with fail
    refine(IHX.out _ D _ _ _ _ _ _ _ HAH2.out HAT2.out HAE2.out HBH2.out HBT2.out HBE2.out).mono ?_;rw[HXB.out]
    cases q
    ·rintro r w2 ⟨rfl,hb2⟩
     have HB2:=Za (HWW.out.trans (hb2.mono (by simp;omega)));clear hb2 a0 a1 a2 a3 a4 b0 b1 b2 b3 b4;go_wp2_with fail
     go_ret
     exact⟨Ao (Gq Fr St.nil la lb k HL.out.symm HKL.out HXA.out).symm,HB2.out⟩
    ·rintro r w2 ⟨rfl,hb2⟩
     have HB2:=Za (HWW.out.trans (hb2.mono (by simp;omega)));clear hb2 a0 a1 a2 a3 a4 b0 b1 b2 b3 b4;go_wp2_with fail
     go_roundw
     case rel=>exact⟨k+1,by omega,by go_num,fun i hi=>by rcases Zv.1 hi with h|rfl;exact HNO.out i h;exact HXA.out,HB2.out⟩
     case measure=>simp [intOf];omega
   ·go_wp2_with fail
    go_ret
    exact⟨Ao (Hu Fr St.nil la lb HL.out.symm (fun i hi=>HNO.out i (by omega))).symm,HBW.out⟩
 ·have hne:((la.length:Int) !=(lb.length:Int))=true:=by rw[bne_iff_ne];omega
  have E:Hid (Bz Fr la lb=false):=Iu _ _ _ (by omega);clear ha hb ih hl;go_enter Tryz.func55,Tryz.ntmps55
  go_wp2_with fail
  go_ret
  exact⟨Ao E.out.symm,Zl _ _⟩
theorem Xn(x:St)(iht:∀y,y∈x.thn→Ol y)(ihe:∀y,y∈x.els→Ol y):Ol x:=by
 intro y D sa st se sb ut ue w ha ht he hb ht' he';obtain⟨a1,a2,rfl⟩:=ha.shape;obtain⟨t1,t2,rfl⟩:=ht.shape;obtain⟨e1,e2,rfl⟩:=he.shape;obtain⟨b1,b2,rfl⟩:=hb.shape;obtain⟨u1,u2,rfl⟩:=ht'.shape;obtain⟨v1,v2,rfl⟩:=he'.shape;have EQT:=Za (Qh x.thn iht);have EQE:=Za (Qh x.els ihe);obtain⟨k,nm,us,tt,ee⟩:=x;obtain⟨k',nm',vs,tt',ee'⟩:=y;have HA:=Za ha;have HT:=Za ht;have HE:=Za he;have HA':=Za hb;have HT':=Za ht';have HE':=Za he';have E:Hid (Fr (.mk k nm us tt ee) (.mk k' nm' vs tt' ee')=(k==k' && nm==nm' && Du us vs && Bz Fr tt tt' && Bz Fr ee ee')):=by show _=_;rw[Fr,Ma,Ma]
 clear ha ht he hb ht' he' iht ihe;show Calls _ _ #[.agg #[.int .i64 k,.string (Aa nm),.slice a1 us.length a2,.slice t1 tt.length t2,.slice e1 ee.length e2],.agg #[.int .i64 k',.string (Aa nm'),.slice b1 vs.length b2,.slice u1 tt'.length u2,.slice v1 ee'.length v2]] _ _
 rw[E.out];go_enter Tryz.func56,Tryz.ntmps56
 go_wp2_with fail
 ·have HBW:=Za (((Zl w.heap.size w).alloc (Zi _) (.cells #[.int .i64 k',.string (Aa nm'),.slice a1 us.length a2,.slice t1 tt.length t2,.slice e1 ee.length e2] 60)).alloc (by simp) (.cells #[.int .i64 k',.string (Aa nm'),.slice b1 vs.length b2,.slice u1 tt'.length u2,.slice v1 ee'.length v2] 60))
  refine(mA us vs D (.slice a1 us.length a2) (.slice b1 vs.length b2) _ ?h1 ?h2).mono ?_
  case h1=>exact Ag.old ((bA).alloc (by simp) _) HA.out
  case h2=>exact Ag.old ((bA).alloc (by simp) _) HA'.out
  rintro r w1 ⟨rfl,hb1⟩;have hz:w.heap.size+1<w1.heap.size:=by have:=hb1.size;simp at this;omega
  have g3:w1.cell? ⟨w.heap.size,3,none⟩=some (.slice t1 tt.length t2):=Ad hb1 (by simp [Zm]);have g4:w1.cell? ⟨w.heap.size,4,none⟩=some (.slice e1 ee.length e2):=Ad hb1 (by simp [Zm]);have k3:w1.cell? ⟨w.heap.size+1,3,none⟩=some (.slice u1 tt'.length u2):=Ad hb1 (by simp [Zm]);have k4:w1.cell? ⟨w.heap.size+1,4,none⟩=some (.slice v1 ee'.length v2):=Ad hb1 (by simp [Zm]);have hbw:Below w.heap.size w w1:=((bA).alloc (by simp) _).trans (hb1.mono (by simp;omega));have HBW1:=Za hbw;clear hb1 hbw HBW
  cases qa:Du us vs
  ·have QA:=Za qa;clear qa
   go_wp2_with fail
   go_ret
   exact⟨Ao (by simp [*,QA.out]),HBW1.out⟩
  have QA:=Za qa;clear qa;go_wp2_with fail
  refine(EQT.out tt' D (.slice t1 tt.length t2) (.slice u1 tt'.length u2) _ (HT.out.old HBW1.out) (HT'.out.old HBW1.out)).mono ?_;rintro r w2 ⟨rfl,hb2⟩;have l4:=Ad hb2 g4;have m4:=Ad hb2 k4;have HBW2:=Za (HBW1.out.trans (hb2.mono (by omega)));have hs2:=hb2.size;clear hb2 g3 g4 k3 k4;have ET:Bz Fr (St.mk k' nm' us tt ee).thn tt'=Bz Fr tt tt':=rfl
  first
   |rw[ET]
   |rw[show Bz Fr (St.mk k nm us tt ee).thn tt'=Bz Fr tt tt' from rfl]
  clear ET
  cases qt:Bz Fr tt tt'
  ·have QT:=Za qt;clear qt
   go_wp2_with fail
   go_ret
   exact⟨Ao (by simp [*,QA.out,QT.out]),HBW2.out⟩
  have QT:=Za qt;clear qt;go_wp2_with fail
  refine(EQE.out ee' D (.slice e1 ee.length e2) (.slice v1 ee'.length v2) _ (HE.out.old HBW2.out) (HE'.out.old HBW2.out)).mono ?_;rintro r w3 ⟨rfl,hb3⟩;have HBW3:=Za (HBW2.out.trans (hb3.mono (by omega)));clear hb3 l4 m4;go_wp2_with fail
  go_ret
  exact⟨Ao (by simp [*,QA.out,QT.out,St.els]),HBW3.out⟩
 all_goals
  go_ret
  refine⟨Ao ?_,(bA).alloc (by simp) _⟩;simp [*]
theorem St.thn_lt {x y:St}(h:y∈x.thn):SizeOf.sizeOf y<SizeOf.sizeOf x:=by
 cases x with
 |mk k nm us t e=>have:=List.sizeOf_lt_of_mem (show y∈t from h);simp only[St.mk.sizeOf_spec];omega
theorem St.els_lt {x y:St}(h:y∈x.els):SizeOf.sizeOf y<SizeOf.sizeOf x:=by
 cases x with
 |mk k nm us t e=>have:=List.sizeOf_lt_of_mem (show y∈e from h);simp only[St.mk.sizeOf_spec];omega
theorem Nl:∀(n:Nat) (x:St),SizeOf.sizeOf x≤n→Ol x
 |0,x,h=>by cases x;simp at h
 |n+1,x,h=>Xn x (fun y hy=>Nl n y (by have:=St.thn_lt hy;omega)) (fun y hy=>Nl n y (by have:=St.els_lt hy;omega))
theorem oO(la lb:List St)(D:Nat→Prop)(va vb:Value)(w:World)(ha:Au D w la va)(hb:Au D w lb vb):
  Calls Ze 55 #[va,vb,.func (.func 56) #[] #[]] w fun e w'=>e= .returned (.bool (Gs la lb))∧Below w.heap.size w w':=by
 rw[Ma];exact Qh la (fun x _=>Nl _ x (Zi _)) lb D va vb w ha hb
theorem Below.drewN' {n k:Nat}{w w1:World}(h:Below n w w1):Below n w (w1.drewN k):=⟨h.os,h.tape,h.output,h.size,h.block⟩
theorem Wv(la lb:List Bs)(D:Nat→Prop)(va vb:Value)(w:World)(ha:Ba D w la va)(hb:Ba D w lb vb):
  Calls Ze 54 #[va,vb] w fun e w'=>e= .returned (.bool (Hs la lb))∧Below w.heap.size w w':=by
 rw[Vz];obtain⟨a1,a2,rfl⟩:=ha.shape;obtain⟨b1,b2,rfl⟩:=hb.shape;have l63:=ha.fits.lt;have m63:=hb.fits.lt
 by_cases hl:lb.length=la.length
 ·rw[hl]at hb ⊢
  have HA:=Za ha;have HB:=Za hb;have HL:=Za hl;clear ha hb hl m63;go_enter Tryz.func54,Tryz.ntmps54
  go_wp2_with fail
  go_loopw [5,13] (fun _ s13 wr=> ∃k:Nat,k≤la.length∧s13= .int .i64 k∧(∀i,i<k→(la.getD i []==lb.getD i [])=true)∧Below w.heap.size w wr) (fun _ s13 _=>la.length - (intOf s13).toNat)
  case atStart=>exact⟨0,Zg _,rfl,fun i hi=>by omega,Zl _ _⟩
  case round=>
   obtain⟨k,hk,rfl,hno,hb⟩:=hrel;have HNO:=Za hno;have HBW:=Za hb;have hsz:=hb.size;clear hno hb
   by_cases hlt:k<la.length
   ·obtain⟨ab,ao,rfl,aD,al,ac⟩:=Mp (Zn HBW.out HA.out) k hlt
    obtain⟨bb,bo,rfl,bD,bl,bc⟩:=Mp (Zn HBW.out HB.out) k (by rw[HL.out];exact hlt);have HKL:=Za hlt;clear aD bD;generalize hxe:la.getD k []=xa at*;generalize hye:lb.getD k []=xb at*;have HXE:=Za hxe;have HYE:=Za hye;clear hxe hye
    cases q:(xa==xb)
    ·have HQ:=Za q
     go_wp2_with fail
     go_quiet (fail)
     go_wp2_with fail
     all_goals
      go_ret
      exact⟨Ao (Gq (fun x y=>x==y) [] la lb k HL.out.symm HKL.out (by rw[HXE.out,HYE.out];exact HQ.out)).symm,Below.drewN' HBW.out⟩
    ·have hq:xa=xb:=by simpa using q
     subst hq;clear q;go_wp2_with fail
     go_quiet (fail)
     go_wp2_with fail
     go_roundw
     case rel=>exact⟨k+1,by omega,by go_num,fun i hi=>by rcases Zv.1 hi with h|rfl;exact HNO.out i h;rw[HXE.out,HYE.out];simp,Below.drewN' HBW.out⟩
     case measure=>simp [intOf];omega
   ·go_wp2_with fail
    go_ret
    exact⟨Ao (Hu (fun x y=>x==y) [] la lb HL.out.symm (fun i hi=>HNO.out i (by omega))).symm,HBW.out⟩
 ·have hne:((la.length:Int) !=(lb.length:Int))=true:=by rw[bne_iff_ne];omega
  have E:Hid (Bz (fun x y=>x==y) la lb=false):=Iu _ _ _ (by omega);clear ha hb hl;go_enter Tryz.func54,Tryz.ntmps54
  go_wp2_with fail
  go_ret
  exact⟨Ao E.out.symm,Zl _ _⟩
theorem mQ(la lb:List Ar)(D:Nat→Prop)(va vb:Value)(w:World)(ha:Bt D w la va)(hb:Bt D w lb vb):
  Calls Ze 51 #[va,vb] w fun e w'=>e= .returned (.bool (Gz la lb))∧Below w.heap.size w w':=by
 rw[Uf];obtain⟨a1,a2,rfl⟩:=ha.shape;obtain⟨b1,b2,rfl⟩:=hb.shape;have l63:=ha.fits.lt;have m63:=hb.fits.lt
 by_cases hl:lb.length=la.length
 ·rw[hl]at hb ⊢
  have HA:=Za ha;have HB:=Za hb;have HL:=Za hl;clear ha hb hl m63;go_enter Tryz.func51,Tryz.ntmps51
  go_wp2_with fail
  go_loopw [5,13] (fun _ s13 wr=> ∃k:Nat,k≤la.length∧s13= .int .i64 k∧(∀i,i<k→Kv (la.getD i Ar.nil) (lb.getD i Ar.nil)=true)∧Below w.heap.size w wr) (fun _ s13 _=>la.length - (intOf s13).toNat)
  case atStart=>exact⟨0,Zg _,rfl,fun i hi=>by omega,Zl _ _⟩
  case round=>
   obtain⟨k,hk,rfl,hno,hb⟩:=hrel;have HNO:=Za hno;have HBW:=Za hb;have hsz:=hb.size;clear hno hb
   by_cases hlt:k<la.length
   ·obtain⟨ab,ao,rfl,aD,al,a0,a1⟩:=Bt.cellAt (Bt.old HBW.out HA.out) k hlt
    obtain⟨bb,bo,rfl,bD,bl,b0,b1⟩:=Bt.cellAt (Bt.old HBW.out HB.out) k (by rw[HL.out];exact hlt);have HKL:=Za hlt;clear aD bD;generalize hxe:Kt la k=xa at*;generalize hye:Kt lb k=xb at*;have HXE:=Za hxe;have HYE:=Za hye;clear hxe hye;obtain⟨n1,s1⟩:=xa;obtain⟨n2,s2⟩:=xb;dsimp only at a0 a1 b0 b1
    cases q:(n1==n2)<;>cases q2:(s1==s2)
    case true.true=>
     have hq:n1=n2:=by simpa using q
     have hq2:s1=s2:=by simpa using q2
     subst hq hq2;clear q q2;go_wp2_with fail
     go_quiet (fail)
     go_wp2_with fail
     go_roundw
     case rel=>exact⟨k+1,by omega,by go_num,fun i hi=>by rcases Zv.1 hi with h|rfl;exact HNO.out i h;(show Kv (Kt la _) (Kt lb _)=true;rw[HXE.out,HYE.out];simp [Kv]),Below.drewN' HBW.out⟩
     case measure=>simp [intOf];omega
    all_goals
     have HQ:Hid (Kv (Kt la k) (Kt lb k)=false):=by show _=_;rw[HXE.out,HYE.out];simp [Kv,q,q2]
     go_wp2_with fail
     go_quiet (fail)
     go_wp2_with fail
     all_goals
      go_ret
      exact⟨Ao (Gq Kv Ar.nil la lb k HL.out.symm HKL.out HQ.out).symm,Below.drewN' HBW.out⟩
   ·go_wp2_with fail
    go_ret
    exact⟨Ao (Hu Kv Ar.nil la lb HL.out.symm (fun i hi=>HNO.out i (by omega))).symm,HBW.out⟩
 ·have hne:((la.length:Int) !=(lb.length:Int))=true:=by rw[bne_iff_ne];omega
  have E:Hid (Bz Kv la lb=false):=Iu _ _ _ (by omega);clear ha hb hl;go_enter Tryz.func51,Tryz.ntmps51
  go_wp2_with fail
  go_ret
  exact⟨Ao E.out.symm,Zl _ _⟩
def eK(x:Fu):Prop:= ∀(y:Fu) (D:Nat→Prop) (a t e a' t' e':Value) (w:World),Ba D w x.params a→Ba D w x.locals t→Au D w x.body e→Ba D w y.params a'→Ba D w y.locals t'→Au D w y.body e'→
 Calls Ze 53 #[fuV x a t e,fuV y a' t' e'] w fun e w'=>e= .returned (.bool (Is x y))∧Below w.heap.size w w'
theorem gL(x:Fu):eK x:=by
 intro y D sa st se sb ut ue w ha ht he hb ht' he';obtain⟨a1,a2,rfl⟩:=ha.shape;obtain⟨t1,t2,rfl⟩:=ht.shape;obtain⟨e1,e2,rfl⟩:=he.shape;obtain⟨b1,b2,rfl⟩:=hb.shape;obtain⟨u1,u2,rfl⟩:=ht'.shape;obtain⟨v1,v2,rfl⟩:=he'.shape;obtain⟨nm,us,tt,ee⟩:=x;obtain⟨nm',vs,tt',ee'⟩:=y;have HA:=Za ha;have HT:=Za ht;have HE:=Za he;have HA':=Za hb;have HT':=Za ht';have HE':=Za he';have E:Hid (Is ⟨nm,us,tt,ee⟩ ⟨nm',vs,tt',ee'⟩=(nm==nm' && Hs us vs && Hs tt tt' && Gs ee ee')):=by show _=_;unfold Is;rfl
 clear ha ht he hb ht' he';show Calls _ _ #[.agg #[.string (Aa nm),.slice a1 us.length a2,.slice t1 tt.length t2,.slice e1 ee.length e2],.agg #[.string (Aa nm'),.slice b1 vs.length b2,.slice u1 tt'.length u2,.slice v1 ee'.length v2]] _ _
 rw[E.out];go_enter Tryz.func53,Tryz.ntmps53
 go_wp2_with fail
 ·refine(Wv us vs D (.slice a1 us.length a2) (.slice b1 vs.length b2) _ ?h1 ?h2).mono ?_
  case h1=>exact Zn ((bA).alloc (by simp) _) HA.out
  case h2=>exact Zn ((bA).alloc (by simp) _) HA'.out
  rintro r w1 ⟨rfl,hb1⟩;have hz:w.heap.size+1<w1.heap.size:=by have:=hb1.size;simp at this;omega
  have g3:w1.cell? ⟨w.heap.size,2,none⟩=some (.slice t1 tt.length t2):=Ad hb1 (by simp [Zm]);have g4:w1.cell? ⟨w.heap.size,3,none⟩=some (.slice e1 ee.length e2):=Ad hb1 (by simp [Zm]);have k3:w1.cell? ⟨w.heap.size+1,2,none⟩=some (.slice u1 tt'.length u2):=Ad hb1 (by simp [Zm]);have k4:w1.cell? ⟨w.heap.size+1,3,none⟩=some (.slice v1 ee'.length v2):=Ad hb1 (by simp [Zm]);have hbw:Below w.heap.size w w1:=((bA).alloc (by simp) _).trans (hb1.mono (by simp;omega));have HBW1:=Za hbw;clear hb1 hbw
  cases qa:Hs us vs
  ·have QA:=Za qa;clear qa
   go_wp2_with fail
   go_ret
   exact⟨Ao (by simp [*,QA.out]),HBW1.out⟩
  have QA:=Za qa;clear qa;go_wp2_with fail
  refine(Wv tt tt' D (.slice t1 tt.length t2) (.slice u1 tt'.length u2) _ (Zn HBW1.out HT.out) (Zn HBW1.out HT'.out)).mono ?_;rintro r w2 ⟨rfl,hb2⟩;have l4:=Ad hb2 g4;have m4:=Ad hb2 k4;have HBW2:=Za (HBW1.out.trans (hb2.mono (by omega)));have hs2:=hb2.size;clear hb2 g3 g4 k3 k4
  cases qt:Hs tt tt'
  ·have QT:=Za qt;clear qt
   go_wp2_with fail
   go_ret
   exact⟨Ao (by simp [*,QA.out,QT.out]),HBW2.out⟩
  have QT:=Za qt;clear qt;go_wp2_with fail
  refine(oO ee ee' D (.slice e1 ee.length e2) (.slice v1 ee'.length v2) _ (HE.out.old HBW2.out) (HE'.out.old HBW2.out)).mono ?_;rintro r w3 ⟨rfl,hb3⟩;have HBW3:=Za (HBW2.out.trans (hb3.mono (by omega)));clear hb3 l4 m4;go_wp2_with fail
  go_ret
  exact⟨Ao (by simp [*,QA.out,QT.out]),HBW3.out⟩
 all_goals
  go_ret
  refine⟨Ao ?_,(bA).alloc (by simp) _⟩;simp [*]
theorem gJ(la:List Fu)(ih:∀x,x∈la→eK x)(lb:List Fu)(D:Nat→Prop)(va vb:Value)(w:World)(ha:Bn D w la va)(hb:Bn D w lb vb):
  Calls Ze 52 #[va,vb,.func (.func 53) #[] #[]] w fun e w'=>e= .returned (.bool (Bz Is la lb))∧Below w.heap.size w w':=by
 obtain⟨a1,a2,rfl⟩:=ha.shape;obtain⟨b1,b2,rfl⟩:=hb.shape;have l63:=ha.fits.lt;have m63:=hb.fits.lt
 by_cases hl:lb.length=la.length
 ·rw[hl]at hb ⊢
  have HA:=Za ha;have HB:=Za hb;have IH:=Za ih;have HL:=Za hl;clear ha hb ih hl m63;go_enter Tryz.func52,Tryz.ntmps52
  go_wp2_with fail
  go_loopw [7,8,9,17] (fun _ _ _ s17 wr=> ∃k:Nat,k≤la.length∧s17= .int .i64 k∧(∀i,i<k→Is (la.getD i Fu.nil) (lb.getD i Fu.nil)=true)∧Below w.heap.size w wr) (fun _ _ _ s17 _=>la.length - (intOf s17).toNat)
  case atStart=>exact⟨0,Zg _,rfl,fun i hi=>by omega,Zl _ _⟩
  case round=>
   obtain⟨k,hk,rfl,hno,hb⟩:=hrel;have HNO:=Za hno;have HBW:=Za hb;have hsz:=hb.size;clear hno hb
   by_cases hlt:k<la.length
   ·obtain⟨xab,xao,a7,a8,a9,rfl,xaD,al,a0,a1,a2,a3,ap,av,ah⟩:=Bn.cellAt (Bn.old HBW.out HA.out) k hlt
    obtain⟨xbb,xbo,b7,b8,b9,rfl,xbD,bl,b0,b1,b2,b3,bp,bv,bh⟩:=Bn.cellAt (Bn.old HBW.out HB.out) k (by rw[HL.out];exact hlt);obtain⟨a51,a52,rfl⟩:=ap.shape;obtain⟨b51,b52,rfl⟩:=bp.shape;obtain⟨a61,a62,rfl⟩:=av.shape;obtain⟨b61,b62,rfl⟩:=bv.shape;obtain⟨a71,a72,rfl⟩:=ah.shape;obtain⟨b71,b72,rfl⟩:=bh.shape;have HAH:=Za ap;have HBH:=Za bp;have HAT:=Za av;have HBT:=Za bv;have HAE:=Za ah;have HBE:=Za bh;clear ap bp av bv ah bh xaD xbD;have IHX:=Za (IH.out _ (Qp hlt));have HKL:=Za hlt;generalize hxe:Dq la k=xa at*;generalize hye:Dq lb k=xb at*;have HXE:=Za hxe;have HYE:=Za hye;clear hxe hye;generalize hxa:Is xa xb=q;have HXA:Hid (Is (Dq la k) (Dq lb k)=q):=by show _=_;rw[HXE.out,HYE.out];exact hxa
    have HXB:=Za hxa;clear hxa;have hww:Below wr.heap.size wr ((wr.alloc (.cells #[.string (Aa xa.name),.slice a51 xa.params.length a52,.slice a61 xa.locals.length a62,.slice a71 xa.body.length a72] 58)).alloc (.cells #[.string (Aa xb.name),.slice b51 xb.params.length b52,.slice b61 xb.locals.length b62,.slice b71 xb.body.length b72] 58)):=(bA).alloc (by simp) _;have HAH2:=Za (Zn hww HAH.out);have HBH2:=Za (Zn hww HBH.out);have HAT2:=Za (Zn hww HAT.out);have HBT2:=Za (Zn hww HBT.out);have HAE2:=Za (HAE.out.old hww);have HBE2:=Za (HBE.out.old hww);have HWW:=Za (HBW.out.trans (hww.mono hsz));clear hww;go_wp2_with fail
    refine(IHX.out _ D _ _ _ _ _ _ _ HAH2.out HAT2.out HAE2.out HBH2.out HBT2.out HBE2.out).mono ?_;rw[HXB.out]
    cases q
    ·rintro r w2 ⟨rfl,hb2⟩
     have HB2:=Za (HWW.out.trans (hb2.mono (by simp;omega)));clear hb2 a0 a1 a2 a3 b0 b1 b2 b3;go_wp2_with fail
     go_ret
     exact⟨Ao (Gq Is Fu.nil la lb k HL.out.symm HKL.out HXA.out).symm,HB2.out⟩
    ·rintro r w2 ⟨rfl,hb2⟩
     have HB2:=Za (HWW.out.trans (hb2.mono (by simp;omega)));clear hb2 a0 a1 a2 a3 b0 b1 b2 b3;go_wp2_with fail
     go_roundw
     case rel=>exact⟨k+1,by omega,by go_num,fun i hi=>by rcases Zv.1 hi with h|rfl;exact HNO.out i h;exact HXA.out,HB2.out⟩
     case measure=>simp [intOf];omega
   ·go_wp2_with fail
    go_ret
    exact⟨Ao (Hu Is Fu.nil la lb HL.out.symm (fun i hi=>HNO.out i (by omega))).symm,HBW.out⟩
 ·have hne:((la.length:Int) !=(lb.length:Int))=true:=by rw[bne_iff_ne];omega
  have E:Hid (Bz Is la lb=false):=Iu _ _ _ (by omega);clear ha hb ih hl;go_enter Tryz.func52,Tryz.ntmps52
  go_wp2_with fail
  go_ret
  exact⟨Ao E.out.symm,Zl _ _⟩
theorem pH(p q:Pr)(D:Nat→Prop)(sa sf ta tf:Value)(w:World)(ha:Bt D w p.arrays sa)(hf:Bn D w p.funcs sf)(ha':Bt D w q.arrays ta)(hf':Bn D w q.funcs tf):
  Calls Ze 25 #[.agg #[sa,sf],.agg #[ta,tf]] w fun r w'=>r= .returned (.bool (Wp p q))∧Below w.heap.size w w':=by
 obtain⟨a1,a2,rfl⟩:=ha.shape;obtain⟨f1,f2,rfl⟩:=hf.shape;obtain⟨b1,b2,rfl⟩:=ha'.shape;obtain⟨g1,g2,rfl⟩:=hf'.shape;have HA:=Za ha;have HF:=Za hf;have HA':=Za ha';have HF':=Za hf';have E:Hid (Wp p q=(Gz p.arrays q.arrays && Bz Is p.funcs q.funcs)):=by show _=_;unfold Wp;rw[Ue]
 clear ha hf ha' hf';rw[E.out];go_enter Tryz.func25,Tryz.ntmps25
 go_wp2_with fail
 refine(mQ p.arrays q.arrays D (.slice a1 p.arrays.length a2) (.slice b1 q.arrays.length b2) _ ?h1 ?h2).mono ?_
 case h1=>exact Bt.old ((bA).alloc (by simp) _) HA.out
 case h2=>exact Bt.old ((bA).alloc (by simp) _) HA'.out
 rintro r w1 ⟨rfl,hb1⟩;have hz:w.heap.size+1<w1.heap.size:=by have:=hb1.size;simp at this;omega
 have g3:w1.cell? ⟨w.heap.size,1,none⟩=some (.slice f1 p.funcs.length f2):=Ad hb1 (by simp [Zm]);have k3:w1.cell? ⟨w.heap.size+1,1,none⟩=some (.slice g1 q.funcs.length g2):=Ad hb1 (by simp [Zm]);have hbw:Below w.heap.size w w1:=((bA).alloc (by simp) _).trans (hb1.mono (by simp;omega));have HBW1:=Za hbw;clear hb1 hbw
 cases qa:Gz p.arrays q.arrays
 ·have QA:=Za qa;clear qa
  go_wp2_with fail
  go_ret
  exact⟨Ao (by simp [QA.out]),HBW1.out⟩
 have QA:=Za qa;clear qa;go_wp2_with fail
 refine(gJ p.funcs (fun x _=>gL x) q.funcs D (.slice f1 p.funcs.length f2) (.slice g1 q.funcs.length g2) _ (Bn.old HBW1.out HF.out) (Bn.old HBW1.out HF'.out)).mono ?_;rintro r w2 ⟨rfl,hb2⟩;have HBW2:=Za (HBW1.out.trans (hb2.mono (by omega)));clear hb2 g3 k3;go_wp2_with fail
 go_ret
 exact⟨Ao (by simp [QA.out]),HBW2.out⟩
end Go.Proofs.YtcfpfnoldgnloaaGreatDoor

/-
  A right program's tokens with other blanks between are parsed to the same. Conditions: the numbers are ints; the text has at most 5000 bytes and 1600 tokens; the library's tables lie in memory.
-/
import Derived.Test.YtcfpfnoldgnloaaGreatDoorPb19
import Derived.Test.YtcfpfnoldgnloaaGreatDoorPb04
set_option linter.unusedVariables false
set_option linter.unusedSimpArgs false
namespace Go.Proofs.YtcfpfnoldgnloaaGreatDoor
open Go.RowKit
set_option maxHeartbeats 20000000
set_option maxRecDepth 100000
open List renaming mem_cons_self→Za,length_append→Zb,mem_cons_of_mem→Zd,length_cons→Ze,range→Zh,flatMap_cons→Zi,nil_append→Zj,append_assoc→Zk,length_nil→Zl,map_cons→Zp,all_eq_true→Zq,mem_append→Zt,mem_cons→Zu,flatMap_map→Zv,flatMap_append→Zw,cons_append→Zx,flatten_cons→Zy,flatten_nil→Zz,mem_singleton→Ya,getElem?_eq_getElem→Yb
open Nat renaming le_refl→Zc,zero_le→Zm,mul_le_mul_right→Zo,add_mul→Zr,le_trans→Zs
open Bool renaming and_eq_true→Zf
open Fo renaming app→Zg
open Go.Lib renaming nDigits→Zn
def Do:List Pc→Bs
 |.g b::l=>b++Do l
 |_=>[]
def Hh:List Pc→List It
 |[]=>[]
 |.g _::l=>Hh l
 |.t x::l=>⟨x.text,x.kind,x.num,Do l,[]⟩::Hh l
theorem Op:∀l:List Pc,Do l++Cx (Hh l)=Az l
 |[]=>rfl
 |.g b::l=>by
  show(b++Do l)++Cx (Hh l)=b++Az l
  rw[Zk,Op l]
 |.t x::l=>by
  show []++Cx (_::Hh l)=x.text++Az l
  rw[Ug,Zj];show x.text++(Ao (Do l) []++Cx (Hh l))=_
  rw[show Ao (Do l) []=Do l by unfold Ao;simp,Op l]
theorem Vv:∀(l:List Pc) (line:Nat),(Sp line (Hh l)).map t3=Gc l
 |[],line=>rfl
 |.g b::l,line=>Vv l line
 |.t x::l,line=>by
  show(⟨x.kind,x.text,x.num,line⟩:Tk)|>fun t=>t3 t::(Sp _ (Hh l)).map t3=x::Gc l
  rw[Vv l];rfl
def Mi(x:T3):Prop:=Lt x.text x.kind x.num∧(x.kind=3→∀r,x.text≠39::r)∧I64 x.num
def Bd(l:List Pc):Prop:= ∀p,p∈l→match p with|.t x=>Mi x|.g b=> ∀c,c∈b→Be c=true
theorem Qh:∀(l:List Pc),Bd l→∀c,c∈Do l→Be c=true
 |[],h,c,hc=>by cases hc
 |.t x::l,h,c,hc=>by cases hc
 |.g b::l,h,c,hc=>by
  rcases Zt.1 (show c∈b++Do l from hc)with hc|hc
  ·exact h (.g b) Za c hc
  ·exact Qh l (fun p hp=>h p (Zd _ hp)) c hc
theorem dV(z:Bs):∀(l:List Pc),Bd l→Fo Lb l z→Oi z (Hh l)∧∀i,i∈Hh l→I64 i.n
 |[],h,hs=>⟨trivial,fun i hi=>by cases hi⟩
 |.g b::l,h,hs=>dV z l (fun p hp=>h p (Zd _ hp)) hs
 |.t x::l,h,hs=>by
  have hl:Bd l:=fun p hp=>h p (Zd _ hp)
  obtain⟨i1,i2⟩:=dV z l hl hs.2;obtain⟨h1,h2,h3⟩:Mi x:=h (.t x) Za;have hg:Ao (Do l) []=Do l:=by unfold Ao;simp
  refine⟨⟨iR h1 h2 ?_,⟨Qh l hl,fun p hp=>by cases hp⟩,i1⟩,fun i hi=>?_⟩
  ·show Lb x.kind (Ao (Do l) []++(Cx (Hh l)++z))=true
   rw[hg,←Zk,Op];exact hs.1
  ·rcases Zu.1 hi with rfl|hi
   ·exact h3
   ·exact i2 i hi
theorem To {c:UInt8}{r:Bs}(h7:c.toNat<128)(h:c≠61∧c≠60∧c≠62∧c≠47):Lb 4 (c::r)=true:=by
 obtain⟨h1,h2,h3,h4⟩:=h;simp [Lb,h7,h1,h2,h3,h4]
theorem qW:Od Lb:=by
 refine⟨fun k=>rfl,fun k c r h=>?_,fun c r h=>?_,fun k r h=>?_⟩
 ·have hc:c=32∨c=41∨c=93∨c=44∨c=59∨c=10:=by simpa [gB,or_assoc]using h
  by_cases h4:k=4
  ·subst h4;rcases hc with rfl|rfl|rfl|rfl|rfl|rfl<;>exact To (by decide) (by decide)
  ·by_cases h3:k=3
   ·subst h3;rcases hc with rfl|rfl|rfl|rfl|rfl|rfl<;>(unfold Lb;dsimp only;rw[if_neg (by decide),if_pos rfl];decide)
   ·unfold Lb
    rcases hc with rfl|rfl|rfl|rfl|rfl|rfl<;>(dsimp only;rw[if_neg h4,if_neg h3];decide)
 ·unfold Uf at h
  by_cases hl:Cc c=true
  ·have:=Pm hl
   exact To (cG hl) ⟨by rintro rfl;exact absurd this (by decide),by rintro rfl;exact absurd this (by decide),by rintro rfl;exact absurd this (by decide),by rintro rfl;exact absurd this (by decide)⟩
  ·by_cases hd:Bn c=true
   ·have h1:=iZ hd
    have h2:=Xy hd;exact To h2 ⟨by rintro rfl;exact absurd hd (by decide),by rintro rfl;exact absurd hd (by decide),by rintro rfl;exact absurd hd (by decide),by rintro rfl;exact absurd hd (by decide)⟩
   ·have hc:c=40∨c=45∨c=33∨c=126:=by simpa [hl,hd,or_assoc]using h
    rcases hc with rfl|rfl|rfl|rfl<;>exact To (by decide) (by decide)
 ·by_cases h4:k=4
  ·subst h4;exact⟨To (by decide) (by decide),To (by decide) (by decide)⟩
  ·refine⟨?_,?_⟩<;>(unfold Lb;dsimp only;rw[if_neg h4,if_neg h];decide)
theorem digL:aE:=fun u=>⟨Lo u,Sx u⟩
theorem dZ(u:Nat)(h:u<10000000000000000000):Zn u≤19:=by
 by_cases h0:u<10
 ·rw[Zn,dif_pos h0];decide
 ·have step:∀(n u:Nat),(¬u<10→Zn (u / 10)≤n)→Zn u≤n+1:=fun n u h=>by
   rw[Zn];split
   ·omega
   ·rename_i hh;have:=h hh;omega
  have pw:∀(n u:Nat),u<10 ^ (n+1)→Zn u≤n+1:=by
   intro n
   induction n with
   |zero=>intro u hu;rw[Zn,dif_pos (by omega)];omega
   |succ n ih=>intro u hu;exact step (n+1) u (fun _=>ih (u / 10) (by rw[Nat.pow_succ]at hu;omega))
  exact pw 18 u (by omega)
theorem vZ {n:Int}(h0:0≤n)(h1:I64 n):Mi ⟨3,Lib.itoa n,n⟩:=by
 have e:Lib.itoa n=Lib.decDigits n.toNat:=by unfold Lib.itoa;rw[if_neg (by omega)]
 have hu:(n.toNat:Int)=n:=by omega
 have hb:n.toNat≤9223372036854775807:=by have:=h1.2;omega
 refine⟨?_,fun _ r hr=>?_,h1⟩
 ·show Lt (Lib.itoa n) 3 n
  rw[e];rcases hq:Lib.decDigits n.toNat with _|⟨c,t⟩
  ·exact absurd hq (Sx _)
  ·have hlen:(Lib.decDigits n.toNat).length≤19:=by
    rw[Lib.decDigits_length];exact dZ _ (by omega)
   have:=Lt.num n.toNat hlen hb c t hq (Lo _ c (by rw[hq];exact Za));rw[hu]at this;rw[←hq];exact this
 ·have hr:Lib.itoa n=39::r:=hr
  rw[e]at hr;have:=Lo n.toNat 39 (by rw[hr];exact Za);exact absurd this (by decide)
theorem Xw:∀(f:Bool) (x:Bs),Hi f x=true→∀c,c∈x→c.toNat<128∧Sf (c.toNat:Nat)=true
 |_,[],_,c,hc=>by cases hc
 |f,d::l,h,c,hc=>by
  rw[Hi]at h;obtain⟨h1,h2⟩:=(Zf _ _).mp h;rcases Zu.1 hc with rfl|hc
  ·unfold Sf
   rw[Lx,Lm];rcases(Bool.or_eq_true _ _).mp h1 with h3|h3
   ·exact⟨cG h3,by rw[h3];rfl⟩
   ·have h4:=((Zf _ _).mp h3).2
    exact⟨Xy h4,by rw[h4];simp⟩
  ·exact Xw false l h2 c hc
theorem Vt {s:Bs}(h:Am s=true):Mi ⟨1,s,0⟩:=by
 have h':=h;unfold Am at h';simp only[Zf]at h';obtain⟨⟨⟨h1,h2⟩,h3⟩,h4⟩:=h';refine⟨?_,fun e=>absurd (show(1:Int)=3 from e) (by decide),Gp⟩
 cases s with
 |nil=>exact absurd h1 (by decide)
 |cons c t=>
  have hl:Cc c=true:=by
   rw[Hi]at h4;have:=((Zf _ _).mp h4).1;simpa using this
  exact .name (c::t) h (by simpa using h3) c t rfl hl (Xw true _ h4)
theorem Iu {x:Bs}(h:Et x=true):Mi ⟨4,x,0⟩:=⟨nV h,fun e=>absurd (show(4:Int)=3 from e) (by decide),Gp⟩
theorem nT {o:Int}(h:0<Al o∨o=17∨o=18∨o=19):Et (Aw o)=true:=by
 rcases h with h|rfl|rfl|rfl
 ·obtain⟨i,rfl⟩:=Rk h
  exact(by decide:∀i:Fin 16,Et (Aw ((i.val:Int)+1))=true) i
 ·decide
 ·decide
 ·decide
inductive N64:Ex→Prop
 |mk (k o n:Int) (nm:Bs) (args:List Ex) (h:I64 n) (ha:∀x,x∈args→N64 x):N64 (.mk k o n nm args)
theorem Bd.app {a b:List Pc}(h1:Bd a)(h2:Bd b):Bd (a++b):=fun p hp=>by
 rcases Zt.1 hp with h|h
 ·exact h1 p h
 ·exact h2 p h
theorem Bd.cons {p:Pc}{l:List Pc}(h1:match p with|.t x=>Mi x|.g b=> ∀c,c∈b→Be c=true)(h2:Bd l):Bd (p::l):=fun q hq=>by
 rcases Zu.1 hq with rfl|h
 ·exact h1
 ·exact h2 q h
theorem Bd.nil:Bd []:=fun p hp=>by cases hp
theorem eK {e:Ex}{lv:Int}(h:Bd (Ck e)):Bd (Da e lv):=by
 unfold Da Hl;split
 ·exact Bd.app (Bd.app (Bd.cons (Iu (by decide)) Bd.nil) h) (Bd.cons (Iu (by decide)) Bd.nil)
 ·exact h
theorem Li {e:Ex}(h:WEx e)(hn:N64 e):Bd (Ck e):=by
 induction h with
 |num n h=>cases hn with|mk _ _ _ _ _ h1 ha=>rw[Su];exact Bd.cons (vZ h h1) Bd.nil
 |var s h=>rw[Sy];exact Bd.cons (Vt h) Bd.nil
 |one o x ho hx ih=>cases hn with|mk _ _ _ _ _ h1 ha=>rw[Th];exact Bd.cons (Iu (nT (.inr ho))) (eK (ih (ha x Za)))
 |two o x y ho hx hy ihx ihy=>
  cases hn with
  |mk _ _ _ _ _ h1 ha=>
   rw[Tr];refine Bd.app (eK (ihx (ha x Za))) (Bd.cons (by show ∀c,c∈[32]→_;decide) (Bd.cons (Iu (nT (.inl ho))) (Bd.cons (by show ∀c,c∈[32]→_;decide) (eK (ihy (ha y (by simp)))))))
 |call s l h hl hx ih=>
  cases hn with
  |mk _ _ _ _ _ h1 ha=>
   rw[Lp];refine Bd.cons (Vt h) (Bd.cons (Iu (by decide)) (Bd.app ?_ (Bd.cons (Iu (by decide)) Bd.nil)));have hm:∀(l:List Ex),(∀x,x∈l→Bd (Ck x))→Bd (l.flatMap (fun y=>[sg [44],.g [32]]++Ck y)):=by
    intro l hl p hp;obtain⟨y,hy,hp⟩:=List.mem_flatMap.1 hp;exact Bd.app (Bd.cons (Iu (by decide)) (Bd.cons (by show ∀c,c∈[32]→_;decide) Bd.nil)) (hl y hy) p hp
   cases l with
   |nil=>exact Bd.nil
   |cons x l=>
    rw[Oq];exact Bd.app (ih x Za (ha x Za)) (hm l (fun y hy=>ih y (Zd _ hy) (ha y (Zd _ hy))))
 |idx s x h hx ih=>
  cases hn with
  |mk _ _ _ _ _ h1 ha=>rw[Tz];exact Bd.cons (Vt h) (Bd.cons (Iu (by decide)) (Bd.app (ih (ha x Za)) (Bd.cons (Iu (by decide)) Bd.nil)))
 |read=>rw[Ud];exact Bd.cons ⟨eI (by decide) (by decide),fun e=>absurd (show(2:Int)=3 from e) (by decide),Gp⟩ (Bd.cons (Iu (by decide)) (Bd.cons (Iu (by decide)) Bd.nil))
theorem Ag.n64 {D:Nat→Prop}{w:World}{l:List Ex}{v:Value}(h:Ag D w l v):∀x,x∈l→N64 x:=by
 induction h with
 |mk l a cap b off sv hcap hfit ha h0 h1 h2 h3 h4 hs hn ih=>
  intro x hx;obtain⟨i,hi,rfl⟩:=List.getElem_of_mem hx;have e:Bx l i=l[i]:=by simp [Bx,Yb hi]
  have h1:=ih i hi;have h2:=hn i hi;rw[e]at h1 h2;generalize l[i]=y at h1 h2;obtain⟨k,o,n,nm,args⟩:=y;exact .mk k o n nm args h2 h1
theorem tok_ne {x:T3}(h:Mi x):x.text≠[]:=h.1.ne
theorem Vw:∀l:List Pc,Bd l→(Hh l).length≤(Az l).length
 |[],h=>Zc _
 |.g b::l,h=>by
  have:=Vw l (fun p hp=>h p (Zd _ hp));show(Hh l).length≤(b++Az l).length
  rw[Zb];omega
 |.t x::l,h=>by
  have:=Vw l (fun p hp=>h p (Zd _ hp));have h1:x.text≠[]:=tok_ne (h (.t x) Za);have h2:0<x.text.length:=List.length_pos_iff.2 h1;show(Hh l).length+1≤(x.text++Az l).length
  rw[Zb];omega
theorem Ja {S:Int→Bs→Bool}{t:Nat}{l:List Pc}{z:Bs}(h:Fo S l (10::z)):Fo S (Dy t l) z:=
 Zg (a:=[.g (Jl t)]++l) (b:=[.g [10]]) h trivial
theorem Gw {S:Int→Bs→Bool}(hS:Od S)(s:Bs)(c:UInt8)(z:Bs)(hc:gB c=true):Fo S [sg s] (c::z):=⟨hS.ofSoft (Gl hc) 4,trivial⟩
theorem Rs {S:Int→Bs→Bool}:∀(l:List St),(∀x,x∈l→∀t z,Fo S (Ec t x) z)→∀t z,Fo S (Cs t l) z
 |[],_,t,z=>trivial
 |x::l,h,t,z=>by
  rw[Cs];exact Zg (h x Za t _) (Rs l (fun y hy=>h y (Zd _ hy)) t z)
theorem Oo {S:Int→Bs→Bool}(hS:Od S)(hd:aE){e:Ex}(h:WEx e)(l:List Pc)(z:Bs)(hz:Yj (Az l++z))(hl:Fo S l z):Fo S (Ck e++l) z:=Zg (ex_sep hS hd h _ hz) hl
theorem iJ {S:Int→Bs→Bool}(hS:Od S)(hd:aE){e:Ex}(h:WEx e)(w:Bs)(t:Nat)(z:Bs):Fo S (Dy t (wd w:: .g [32]::sg [40]::(Ck e++[sg [41],.g [32],sg [123]]))) z:=by
 refine Ja ⟨hS.soft 2 32 _ (by decide),?_,Oo hS hd h _ _ (Gl (by decide)) ⟨hS.soft 4 32 _ (by decide),Gw hS _ 10 _ (by decide)⟩⟩;rw[Ap,Zk];exact hS.ofHead (Kp hd h).app
theorem st_sep {S:Int→Bs→Bool}(hS:Od S)(hd:aE){x:St}(h:WSt x):∀t z,Fo S (Ec t x) z:=by
 induction h with
 |set s x h hx=>
  intro t z;rw[sT];exact Ja ⟨hS.soft 1 32 _ (by decide),hS.soft 4 32 _ (by decide),Oo hS hd hx _ _ (Gl (by decide)) (Gw hS _ 10 _ (by decide))⟩
 |store s x y h hx hy=>
  intro t z;rw[stp2];refine Ja ⟨(hS.opens 1 _ (by decide)).2,?_,Oo hS hd hx _ _ (Gl (by decide)) ⟨hS.soft 4 32 _ (by decide),hS.soft 4 32 _ (by decide),Oo hS hd hy _ _ (Gl (by decide)) (Gw hS _ 10 _ (by decide))⟩⟩;rw[Ap,Zk];exact hS.ofHead (Kp hd hx).app
 |cond x a b hx ha hb iha ihb=>
  intro t z;rw[stp3];refine Zg (iJ hS hd hx _ t _) (Zg (Rs a iha _ _) (Zg ?_ (Ja (Gw hS _ 10 _ (by decide)))))
  cases b with
  |nil=>exact trivial
  |cons y l=>
   rw[if_neg (by simp)];exact Zg (Ja ⟨hS.soft 4 32 _ (by decide),hS.soft 2 32 _ (by decide),Gw hS _ 10 _ (by decide)⟩) (Rs (y::l) ihb _ _)
 |loop x a hx ha iha=>
  intro t z;rw[stp4];exact Zg (iJ hS hd hx _ t _) (Zg (Rs a iha _ _) (Ja (Gw hS _ 10 _ (by decide))))
 |brk=>intro t z;rw[stp5];exact Ja ⟨hS.soft 2 59 _ (by decide),Gw hS _ 10 _ (by decide)⟩
 |cont=>intro t z;rw[stp6];exact Ja ⟨hS.soft 2 59 _ (by decide),Gw hS _ 10 _ (by decide)⟩
 |ret x hx=>
  intro t z;rw[stp7];exact Ja ⟨hS.soft 2 32 _ (by decide),Oo hS hd hx _ _ (Gl (by decide)) (Gw hS _ 10 _ (by decide))⟩
 |print x hx=>
  intro t z;rw[vR];refine Ja ⟨(hS.opens 2 _ (by decide)).1,?_,Oo hS hd hx _ _ (Gl (by decide)) ⟨hS.soft 4 59 _ (by decide),Gw hS _ 10 _ (by decide)⟩⟩;rw[Ap,Zk];exact hS.ofHead (Kp hd hx).app
 |trap x hx=>
  intro t z;rw[stp9];refine Ja ⟨(hS.opens 2 _ (by decide)).1,?_,Oo hS hd hx _ _ (Gl (by decide)) ⟨hS.soft 4 59 _ (by decide),Gw hS _ 10 _ (by decide)⟩⟩;rw[Ap,Zk];exact hS.ofHead (Kp hd hx).app
 |call s l hx=>
  intro t z;have e:Ec t (.mk 10 [] [.mk 5 0 0 s l] [] [])=Dy t (Ck (.mk 5 0 0 s l)++[sg [59]]):=by rw[nP,Lp];simp only[Zk,Zx,Zj]
  rw[e];exact Ja (Oo hS hd hx _ _ (Gl (by decide)) (Gw hS _ 10 _ (by decide)))
theorem rV {S:Int→Bs→Bool}(hS:Od S)(x:Bs)(z:Bs)(hz:Yj z):Fo S (Gb x) z:=⟨hS.soft 2 32 _ (by decide),hS.ofSoft hz 1,trivial⟩
theorem mY {S:Int→Bs→Bool}(hS:Od S)(z:Bs)(hz:Yj z):∀(l:List Bs),Fo S (l.flatMap (fun y=>[sg [44],.g [32]]++Gb y)) z∧Yj (Az (l.flatMap (fun y=>[sg [44],.g [32]]++Gb y))++z)
 |[]=>⟨trivial,hz⟩
 |y::l=>by
  obtain⟨h1,h2⟩:=mY hS z hz l;rw[Zi];exact⟨Zg (a:=[sg [44],.g [32]]++Gb y) ⟨hS.soft 4 32 _ (by decide),rV hS y _ h2⟩ h1,Gl (by decide)⟩
theorem rP {S:Int→Bs→Bool}(hS:Od S):∀(l:List Bs) (z:Bs),Fo S (l.flatMap Qc) z
 |[],z=>trivial
 |y::l,z=>by
  rw[Zi];exact Zg (Ja ⟨hS.soft 2 32 _ (by decide),hS.soft 1 59 _ (by decide),Gw hS _ 10 _ (by decide)⟩) (rP hS l z)
theorem fu_sep {S:Int→Bs→Bool}(hS:Od S)(hd:aE){g:Fu}(hg:WFu g)(z:Bs):Fo S (Qb g) z:=by
 obtain⟨nm,ps,ls,bd⟩:=g;obtain⟨_,_,_,hb⟩:=hg;dsimp only at hb;have hbd:Fo S ([sg [41],.g [32],sg [123],.g [10]]++(ls.flatMap Qc++(Cs 1 bd++Dy 0 [sg [125]]))) z:=
  ⟨hS.soft 4 32 _ (by decide),hS.soft 4 10 _ (by decide),(show Fo S (ls.flatMap Qc++(Cs 1 bd++Dy 0 [sg [125]])) z from Zg (rP hS ls _) (Zg (Rs bd (fun x hx=>st_sep hS hd (hb x hx)) _ _) (Ja (Gw hS _ 10 _ (by decide)))))⟩
 refine⟨hS.soft 2 32 _ (by decide),(hS.opens 1 _ (by decide)).1,?_,?_⟩
 ·cases ps with
  |nil=>exact hS.soft 4 41 _ (by decide)
  |cons x l=>exact hS.head 105 _ (by decide)
 ·show Fo S (Ho (ps.map Gb)++([sg [41],.g [32],sg [123],.g [10]]++(ls.flatMap Qc++(Cs 1 bd++Dy 0 [sg [125]])))) z
  refine Zg ?_ hbd
  cases ps with
  |nil=>exact trivial
  |cons x l=>
   have e:Ho ((x::l).map Gb)=Gb x++l.flatMap (fun y=>[sg [44],.g [32]]++Gb y):=by
    show Gb x++(l.map Gb).flatMap _=_;rw[Zv]
   rw[e];obtain⟨h1,h2⟩:=mY hS (Az ([sg [41],.g [32],sg [123],.g [10]]++(ls.flatMap Qc++(Cs 1 bd++Dy 0 [sg [125]])))++z) (Gl (by decide)) l;exact Zg (rV hS x _ h2) h1
theorem ar_sep {S:Int→Bs→Bool}(hS:Od S)(hd:aE){a:Ar}(ha:0≤a.size)(z:Bs):Fo S (Yw a) z:=by
 refine Ja ⟨hS.soft 2 32 _ (by decide),(hS.opens 1 _ (by decide)).2,?_,hS.soft 3 93 _ (by decide),hS.soft 4 59 _ (by decide),Gw hS _ 10 _ (by decide)⟩;exact hS.ofHead (Nx.app (show Nx (Az [nu a.size,sg [93],sg [59]])from by rw[Kv];exact(fD ha hd).app))
theorem jK {S:Int→Bs→Bool}(hS:Od S)(hd:aE):∀(m:List Ar) (l:List Fu) (z:Bs),(∀a,a∈m→0≤a.size)→(∀x,x∈l→WFu x)→Fo S (m.flatMap Yw++l.flatMap Qb) z
 |[],[],z,_,_=>trivial
 |[],g::l,z,h1,h2=>by
  show Fo S ((g::l).flatMap Qb) z
  rw[Zi];exact Zg (fu_sep hS hd (h2 g Za) _) (jK hS hd [] l z h1 (fun x hx=>h2 x (Zd _ hx)))
 |a::m,l,z,h1,h2=>by
  rw[Zi,Zk];exact Zg (ar_sep hS hd (h1 a Za) _) (jK hS hd m l z (fun x hx=>h1 x (Zd _ hx)) h2)
inductive Xt:St→Prop
 |mk (k:Int) (nm:Bs) (args:List Ex) (thn els:List St) (ha:∀x,x∈args→N64 x) (ht:∀y,y∈thn→Xt y) (he:∀y,y∈els→Xt y):Xt (.mk k nm args thn els)
theorem jS {b:Bs}(h:b.all Be=true):match Pc.g b with|.t x=>Mi x|.g b=> ∀c,c∈b→Be c=true:=fun c hc=>Zq.1 h c hc
theorem word_ok {x:Bs}(h1:Ia x=true)(h2:Nn x=true):Mi ⟨2,x,0⟩:=⟨eI h1 h2,fun e=>absurd (show(2:Int)=3 from e) (by decide),Gp⟩
theorem jM(t:Nat):(Jl t).all Be=true:=by
 unfold Jl;rw[Zq];intro c hc;rw[List.eq_of_mem_replicate hc];rfl
theorem Lw {t:Nat}{l:List Pc}(h:Bd l):Bd (Dy t l):=Bd.app (Bd.app (Bd.cons (jS (jM t)) Bd.nil) h) (Bd.cons (jS (by decide)) Bd.nil)
theorem Bd.sg {s:Bs}{l:List Pc}(h:Et s=true)(hl:Bd l):Bd (sg s::l):=Bd.cons (Iu h) hl
theorem Bd.wd {s:Bs}{l:List Pc}(h:(Ia s && Nn s)=true)(hl:Bd l):Bd (wd s::l):=Bd.cons (word_ok ((Zf _ _).mp h).1 ((Zf _ _).mp h).2) hl
theorem Bd.nm {s:Bs}{l:List Pc}(h:Am s=true)(hl:Bd l):Bd (nmp s::l):=Bd.cons (Vt h) hl
theorem Bd.sp {b:Bs}{l:List Pc}(h:b.all Be=true)(hl:Bd l):Bd (.g b::l):=Bd.cons (jS h) hl
theorem Pd:∀(l:List St),(∀x,x∈l→∀t,Bd (Ec t x))→∀t,Bd (Cs t l)
 |[],_,t=>Bd.nil
 |x::l,h,t=>by
  rw[Cs];exact Bd.app (h x Za t) (Pd l (fun y hy=>h y (Zd _ hy)) t)
theorem bZ {e:Ex}(h:Bd (Ck e)){w:Bs}(hw:(Ia w && Nn w)=true)(t:Nat):Bd (Dy t (wd w:: .g [32]::sg [40]::(Ck e++[sg [41],.g [32],sg [123]]))):=
 Lw (.wd hw (.sp (by decide) (.sg (by decide) (.app h (.sg (by decide) (.sp (by decide) (.sg (by decide) .nil)))))))
theorem st_toks {x:St}(h:WSt x)(hn:Xt x):∀t,Bd (Ec t x):=by
 induction h with
 |set s x h hx=>
  cases hn with|mk _ _ _ _ _ ha ht he=>
  intro t;rw[sT];exact Lw (.nm h (.sp (by decide) (.sg (by decide) (.sp (by decide) (.app (Li hx (ha x Za)) (.sg (by decide) .nil))))))
 |store s x y h hx hy=>
  cases hn with|mk _ _ _ _ _ ha ht he=>
  intro t;rw[stp2];exact Lw (.nm h (.sg (by decide) (.app (Li hx (ha x Za)) (.sg (by decide) (.sp (by decide) (.sg (by decide) (.sp (by decide) (.app (Li hy (ha y (by simp))) (.sg (by decide) .nil)))))))))
 |cond x a b hx h1 h2 iha ihb=>
  cases hn with|mk _ _ _ _ _ ha ht he=>
  intro t;rw[stp3];refine .app (bZ (Li hx (ha x Za)) (by decide) t) (.app (Pd a (fun y hy=>iha y hy (ht y hy)) _) (.app ?_ (Lw (.sg (by decide) .nil))));split
  ·exact .nil
  ·exact .app (Lw (.sg (by decide) (.sp (by decide) (.wd (by decide) (.sp (by decide) (.sg (by decide) .nil)))))) (Pd b (fun y hy=>ihb y hy (he y hy)) _)
 |loop x a hx h1 iha=>
  cases hn with|mk _ _ _ _ _ ha ht he=>
  intro t;rw[stp4];exact .app (bZ (Li hx (ha x Za)) (by decide) t) (.app (Pd a (fun y hy=>iha y hy (ht y hy)) _) (Lw (.sg (by decide) .nil)))
 |brk=>intro t;rw[stp5];exact Lw (.wd (by decide) (.sg (by decide) .nil))
 |cont=>intro t;rw[stp6];exact Lw (.wd (by decide) (.sg (by decide) .nil))
 |ret x hx=>
  cases hn with|mk _ _ _ _ _ ha ht he=>
  intro t;rw[stp7];exact Lw (.wd (by decide) (.sp (by decide) (.app (Li hx (ha x Za)) (.sg (by decide) .nil))))
 |print x hx=>
  cases hn with|mk _ _ _ _ _ ha ht he=>
  intro t;rw[vR];exact Lw (.wd (by decide) (.sg (by decide) (.app (Li hx (ha x Za)) (.sg (by decide) (.sg (by decide) .nil)))))
 |trap x hx=>
  cases hn with|mk _ _ _ _ _ ha ht he=>
  intro t;rw[stp9];exact Lw (.wd (by decide) (.sg (by decide) (.app (Li hx (ha x Za)) (.sg (by decide) (.sg (by decide) .nil)))))
 |call s l hx=>
  cases hn with|mk _ _ _ _ _ ha ht he=>
  intro t;have e:Ec t (.mk 10 [] [.mk 5 0 0 s l] [] [])=Dy t (Ck (.mk 5 0 0 s l)++[sg [59]]):=by rw[nP,Lp];simp only[Zk,Zx,Zj]
  rw[e];exact Lw (.app (Li hx (ha _ Za)) (.sg (by decide) .nil))
theorem Vy {α:Type}(f:α→List Pc)(l:List α)(h:∀x,x∈l→Bd (f x)):Bd (l.flatMap f):=fun p hp=>by
 obtain⟨x,hx,hp⟩:=List.mem_flatMap.1 hp;exact h x hx p hp
theorem pa_ok {x:Bs}(h:Am x=true):Bd (Gb x):=.wd (by decide) (.sp (by decide) (.nm h .nil))
theorem fu_toks {g:Fu}(hg:WFu g)(hn:∀x,x∈g.body→Xt x):Bd (Qb g):=by
 obtain⟨nm,ps,ls,bd⟩:=g;obtain⟨h1,h2,h3,hb⟩:=hg;dsimp only at h1 h2 h3 hb hn;have htail:Bd (ls.flatMap Qc++(Cs 1 bd++Dy 0 [sg [125]])):=.app (Vy Qc ls fun x hx=>(show Bd (Dy 1 [wd [105,110,116],.g [32],nmp x,sg [59]])from Lw (.wd (by decide) (.sp (by decide) (.nm (h3 x hx) (.sg (by decide) .nil)))))) (.app (Pd bd (fun y hy=>st_toks (hb y hy) (hn y hy)) _) (Lw (.sg (by decide) .nil)));have hps:Bd (Ho (ps.map Gb)):=by
  cases ps with
  |nil=>exact .nil
  |cons x l=>
   have e:Ho ((x::l).map Gb)=Gb x++l.flatMap (fun y=>[sg [44],.g [32]]++Gb y):=by
    show Gb x++(l.map Gb).flatMap _=_;rw[Zv]
   rw[e];exact .app (pa_ok (h2 x Za)) (Vy _ _ fun y hy=>.sg (by decide) (.sp (by decide) (pa_ok (h2 y (Zd _ hy)))))
 show Bd (wd [105,110,116]:: .g [32]::nmp nm::sg [40]::(Ho (ps.map Gb)++(sg [41]:: .g [32]::sg [123]:: .g [10]::(ls.flatMap Qc++(Cs 1 bd++Dy 0 [sg [125]])))))
 exact .wd (by decide) (.sp (by decide) (.nm h1 (.sg (by decide) (.app hps (.sg (by decide) (.sp (by decide) (.sg (by decide) (.sp (by decide) htail))))))))
theorem mW {a:Ar}(h:Dk a=true):Bd (Yw a)∧0≤a.size:=by
 unfold Dk at h;obtain⟨h1,h2⟩:=(Zf _ _).mp h;have h2:=of_decide_eq_true h2;exact⟨Lw (.wd (by decide) (.sp (by decide) (.nm h1 (.sg (by decide) (.cons (vZ (by omega) ⟨by omega,by omega⟩) (.sg (by decide) (.sg (by decide) .nil))))))),by omega⟩
theorem pr_gap:∀(m:List Ar) (l:List Fu),Do (m.flatMap Yw++l.flatMap Qb)=[]
 |[],[]=>rfl
 |[],g::l=>rfl
 |a::m,l=>rfl
theorem oB(l:List Pc)(hp:Bd l)(hs:Fo Lb l [])(hlen:(Az l).length≤20000)(hb:Oa (Do l) [])(Q:Pr ×Int ×Int→Prop)
  (hz:∀(T:List Tk) (u:Tk),T.map t3=Gc l→u.kind=5→u.text=[]→∃z,Ev (fun f=>Fm f ⟨[],[]⟩ (T++[u])) z∧Q (Qd (Tv z))) (w:World) (hl:Jj w):
  Calls Tryz.prog 14 #[.string (Aa (Az l))] w fun e w'=> ∃r,Q r∧WhP w r e w':=by
 obtain⟨i1,i2⟩:=dV [] l hp hs;have ht:=Op l;obtain⟨z,⟨f0,hf⟩,hq⟩:=hz (Sp (1+Co (Ao (Do l) [])) (Hh l)) ⟨5,[],0,pL (1+Co (Ao (Do l) [])) (Hh l)⟩ (Vv l _) rfl rfl;have hil:=Vw l hp;have eg:Ao (Do l) []=Do l:=by unfold Ao;simp
 have e0:Ao (Do l) []++Cx (Hh l)=Az l:=by rw[eg];exact ht
 have hx:=Qa (Do l) [] hb (Hh l) i1 i2 (by rw[e0];exact hlen) (by omega) (f0+4*((Hh l).length+1)+4) (by omega) w hl;rw[e0]at hx;refine hx.mono ?_;intro e w' hp;have e1:Fm (f0+4*((Hh l).length+1)+4) ⟨[],[]⟩ (Dw (1+Co (Ao (Do l) [])) (Hh l))=z:=hf _ (by omega);rw[e1]at hp;exact⟨_,hq,hp⟩
theorem aS {p:Pr}{u:Tk}(hr:Eb p=true)(hu:u.kind=5):Qd (Tv (.ok (p,[u])))=(p,0,0):=by
 have h1:Tv (.ok (p,[u]))=(p,0,0):=by show(if u.kind=5 then(p,(0:Int),(0:Int))else _)=_;rw[if_pos hu]
 rw[h1];show(if(0:Int)=0∧Eb p=false then _ else(p,(0:Int),(0:Int)))=_
 rw[if_neg (by rintro⟨_,h2⟩;rw[hr]at h2;cases h2)]
theorem Lg {p:Pr}(h:Eb p=true):(∀a,a∈p.arrays→Dk a=true)∧∀x,x∈p.funcs→WFu x:=by
 unfold Eb at h;simp only[Zf,Zq]at h;exact⟨h.1,fun x hx=>wfu_of (h.2 x hx)⟩
inductive Xh:Ex→Prop
 |num (n:Int) (h:0≤n):Xh (.mk 1 0 n [] [])
 |var (nm:Bs) (h:Am nm=true):Xh (.mk 2 0 0 nm [])
 |one (o:Int) (x:Ex) (h:o=17∨o=18∨o=19) (hx:Cn x=true):Xh (.mk 3 o 0 [] [x])
 |two (o:Int) (x y:Ex) (h:0<Al o) (hx:Cn x=true) (hy:Cn y=true):Xh (.mk 4 o 0 [] [x,y])
 |call (nm:Bs) (l:List Ex) (h:Am nm=true) (hn:l.length≤6) (hl:∀x,x∈l→Cn x=true):Xh (.mk 5 0 0 nm l)
 |index (nm:Bs) (x:Ex) (h:Am nm=true) (hx:Cn x=true):Xh (.mk 6 0 0 nm [x])
 |read:Xh (.mk 7 0 0 [] [])
def SOk(x:St):Prop:= ∃m,Ef m x=true
inductive Mm:St→Prop
 |set (nm:Bs) (x:Ex) (h:Am nm=true) (hx:Cn x=true):Mm (.mk 1 nm [x] [] [])
 |store (nm:Bs) (x y:Ex) (h:Am nm=true) (hx:Cn x=true) (hy:Cn y=true):Mm (.mk 2 nm [x,y] [] [])
 |iff (x:Ex) (t e:List St) (hx:Cn x=true) (ht:∀y,y∈t→SOk y) (he:∀y,y∈e→SOk y):Mm (.mk 3 [] [x] t e)
 |loop (x:Ex) (t:List St) (hx:Cn x=true) (ht:∀y,y∈t→SOk y):Mm (.mk 4 [] [x] t [])
 |brk:Mm (.mk 5 [] [] [] [])
 |cont:Mm (.mk 6 [] [] [] [])
 |ret (x:Ex) (hx:Cn x=true):Mm (.mk 7 [] [x] [] [])
 |prt (x:Ex) (hx:Cn x=true):Mm (.mk 8 [] [x] [] [])
 |trp (x:Ex) (hx:Cn x=true):Mm (.mk 9 [] [x] [] [])
 |call (nm:Bs) (l:List Ex) (h:Am nm=true) (hn:l.length≤6) (hl:∀x,x∈l→Cn x=true):Mm (.mk 10 [] [.mk 5 0 0 nm l] [] [])
structure FOk (f:Fu):Prop where
 name:Am f.name=true
 params:∀x,x∈f.params→Am x=true
 locals:∀x,x∈f.locals→Am x=true
 body:∀x,x∈f.body→SOk x
theorem pV {f:Fu}(h:Gh f=true):FOk f:=by
 unfold Gh at h;simp only[Zf,Zq]at h;exact⟨h.1.1.1.1,h.1.1.1.2,h.1.1.2,fun x hx=>⟨40,h.2 x hx⟩⟩
mutual
def Iy:Ex→Ex→Bool
 |.mk k o n nm us,.mk k' o' n' nm' bs=>k==k' && o==o' && n==n' && nm==nm' && Gx us bs
def Gx:List Ex→List Ex→Bool
 |[],[]=>true
 |x::l,y::m=>Iy x y && Gx l m
 |_,_=>false
end
mutual
theorem lQ:∀a b:Ex,Iy a b=true↔a=b
 |.mk k o n nm us,.mk k' o' n' nm' bs=>by
  rw[Iy];simp only[Zf,beq_iff_eq,Ol us bs,Ex.mk.injEq];simp only[and_assoc]
theorem Ol:∀a b:List Ex,Gx a b=true↔a=b
 |[],[]=>by simp [Gx]
 |x::l,y::m=>by rw[Gx];simp [lQ x y,Ol l m]
 |[],y::m=>by simp [Gx]
 |x::l,[]=>by simp [Gx]
end
mutual
def Fy:St→St→Bool
 |.mk k nm us t e,.mk k' nm' us' t' e'=>k==k' && nm==nm' && Gx us us' && Gz t t' && Gz e e'
def Gz:List St→List St→Bool
 |[],[]=>true
 |x::l,y::m=>Fy x y && Gz l m
 |_,_=>false
end
mutual
theorem jP:∀a b:St,Fy a b=true↔a=b
 |.mk k nm us t e,.mk k' nm' us' t' e'=>by
  rw[Fy];simp only[Zf,beq_iff_eq,Ol us us',Mh t t',Mh e e',St.mk.injEq];simp only[and_assoc]
theorem Mh:∀a b:List St,Gz a b=true↔a=b
 |[],[]=>by simp [Gz]
 |x::l,y::m=>by rw[Gz];simp [jP x y,Mh l m]
 |[],y::m=>by simp [Gz]
 |x::l,[]=>by simp [Gz]
end
def If:List Bs→List Bs→Bool
 |[],[]=>true
 |x::l,y::m=>x==y && If l m
 |_,_=>false
theorem Wt:∀a b:List Bs,If a b=true↔a=b
 |[],[]=>by simp [If]
 |x::l,y::m=>by rw[If];simp [Wt l m]
 |[],y::m=>by simp [If]
 |x::l,[]=>by simp [If]
def Jb(f g:Fu):Bool:=f.name==g.name && If f.params g.params && If f.locals g.locals && Gz f.body g.body
theorem mG(f g:Fu):Jb f g=true↔f=g:=by
 obtain⟨a,b,c,d⟩:=f;obtain⟨a',b',c',d'⟩:=g;unfold Jb;simp only[Zf,beq_iff_eq,Wt,Mh,Fu.mk.injEq];simp only[and_assoc]
def Js:List Fu→List Fu→Bool
 |[],[]=>true
 |x::l,y::m=>Jb x y && Js l m
 |_,_=>false
theorem Up:∀a b:List Fu,Js a b=true↔a=b
 |[],[]=>by simp [Js]
 |x::l,y::m=>by rw[Js];simp [mG x y,Up l m]
 |[],y::m=>by simp [Js]
 |x::l,[]=>by simp [Js]
def Lc(a b:Ar):Bool:=a.name==b.name && a.size==b.size
theorem mN(f g:Ar):Lc f g=true↔f=g:=by
 obtain⟨a,b⟩:=f;obtain⟨a',b'⟩:=g;unfold Lc;simp
def Hs:List Ar→List Ar→Bool
 |[],[]=>true
 |x::l,y::m=>Lc x y && Hs l m
 |_,_=>false
theorem Vc:∀a b:List Ar,Hs a b=true↔a=b
 |[],[]=>by simp [Hs]
 |x::l,y::m=>by rw[Hs];simp [mN x y,Vc l m]
 |[],y::m=>by simp [Hs]
 |x::l,[]=>by simp [Hs]
def Wa(p q:Pr):Bool:=Hs p.arrays q.arrays && Js p.funcs q.funcs
theorem Yn(p q:Pr):Wa p q=true↔p=q:=by
 obtain⟨a,b⟩:=p;obtain⟨c,d⟩:=q;unfold Wa;simp [Vc,Up]
def Cf {α:Type}(f:α→α→Bool):List α→List α→Bool
 |[],[]=>true
 |x::l,y::m=>f x y && Cf f l m
 |_,_=>false
theorem Og:∀l m,Gx l m=Cf Iy l m
 |[],[]=>rfl
 |x::l,y::m=>by rw[Gx,Cf,Og l m]
 |[],y::m=>by simp [Gx,Cf]
 |x::l,[]=>by simp [Gx,Cf]
theorem Md:∀l m,Gz l m=Cf Fy l m
 |[],[]=>rfl
 |x::l,y::m=>by rw[Gz,Cf,Md l m]
 |[],y::m=>by simp [Gz,Cf]
 |x::l,[]=>by simp [Gz,Cf]
theorem Ut:∀l m,Js l m=Cf Jb l m
 |[],[]=>rfl
 |x::l,y::m=>by rw[Js,Cf,Ut l m]
 |[],y::m=>by simp [Js,Cf]
 |x::l,[]=>by simp [Js,Cf]
theorem Ul:∀l m,Hs l m=Cf Lc l m
 |[],[]=>rfl
 |x::l,y::m=>by rw[Hs,Cf,Ul l m]
 |[],y::m=>by simp [Hs,Cf]
 |x::l,[]=>by simp [Hs,Cf]
theorem Yk:∀l m,If l m=Cf (fun x y=>x==y) l m
 |[],[]=>rfl
 |x::l,y::m=>by rw[If,Cf,Yk l m]
 |[],y::m=>by simp [If,Cf]
 |x::l,[]=>by simp [If,Cf]
theorem Kn {α:Type}(f:α→α→Bool):∀(l m:List α),l.length≠m.length→Cf f l m=false
 |[],[],h=>absurd rfl h
 |x::l,y::m,h=>by rw[Cf,Kn f l m (by simpa using h)];simp
 |[],y::m,_=>rfl
 |x::l,[],_=>rfl
theorem Jg {α:Type}(f:α→α→Bool)(d:α):∀(l m:List α),l.length=m.length→(∀i,i<l.length→f (l.getD i d) (m.getD i d)=true)→Cf f l m=true
 |[],[],_,_=>rfl
 |x::l,y::m,h,hf=>by
  have h0:f x y=true:=by have:=hf 0 (by simp);simpa using this
  rw[Cf,h0,Jg f d l m (by simpa using h) (fun i hi=>by have:=hf (i+1) (by simpa using hi);simpa using this)];rfl
 |[],y::m,h,_=>by simp at h
 |x::l,[],h,_=>by simp at h
theorem Im {α:Type}(f:α→α→Bool)(d:α):∀(l m:List α) (i:Nat),l.length=m.length→i<l.length→f (l.getD i d) (m.getD i d)=false→Cf f l m=false
 |x::l,y::m,0,_,_,hf=>by rw[Cf,show f x y=false by simpa using hf];rfl
 |x::l,y::m,i+1,h,hi,hf=>by rw[Cf,Im f d l m i (by simpa using h) (by simpa using hi) (by simpa using hf)];simp
 |[],_,_,_,hi,_=>by simp at hi
 |x::l,[],_,h,_,_=>by simp at h
theorem Ga {l:Bs}(h:Am l=true):l.length≤20:=by
 unfold Am at h;simp only[Zf,decide_eq_true_eq]at h;exact h.1.1.2
theorem nU(L:Nat):∀l:List Bs,(∀x,x∈l→x.length≤L)→(Bo l).length≤l.length*(L+2)
 |[],_=>by simp [Bo]
 |x::l,h=>by
  have more:∀m:List Bs,(∀x,x∈m→x.length≤L)→(m.flatMap (fun y=>[44,32]++y)).length≤m.length*(L+2):=by
   intro m
   induction m with
   |nil=>intro _;simp
   |cons y m ih=>
    intro hm;have h1:=hm y Za;have h2:=ih (fun z hz=>hm z (Zd _ hz));simp only[Zi,Zb,Ze,Zl]at h2 ⊢;rw[Zr];omega
  have h1:=h x Za;have h2:=more l (fun z hz=>h z (Zd _ hz));rw[Bo,Zb,Ze,Zr];omega
theorem Wg(e:Ex)(lev:Int)(t:Bs):(Fx e lev t).length≤t.length+2:=by
 unfold Fx;split
 ·simp
 ·omega
theorem dA:∀i:Fin 20,(Aw i.val).length≤2:=by decide+kernel
theorem fG(o:Int):(Aw o).length≤2:=by
 by_cases h:0≤o∧o≤19
 ·have e1:((o.toNat:Nat):Int)=o:=Int.toNat_of_nonneg (by omega)
  have:=dA ⟨o.toNat,by omega⟩;simp only[e1]at this;exact this
 ·unfold Aw
  rw[if_neg (by omega),if_neg (by omega),if_neg (by omega),if_neg (by omega),if_neg (by omega),if_neg (by omega),if_neg (by omega),if_neg (by omega),if_neg (by omega),if_neg (by omega),if_neg (by omega),if_neg (by omega),if_neg (by omega),if_neg (by omega),if_neg (by omega),if_neg (by omega),if_neg (by omega),if_neg (by omega),if_neg (by omega)];exact Zm _
theorem ex1_len(n:Int)(h:0≤n∧n≤9223372036854775807)(o:Int)(nm:Bs)(l:List Ex):(Ak (.mk 1 o n nm l)).length≤21:=by
 rw[iY];exact Lib.itoa_length_le n (by omega) h.2
theorem fB {L:Nat}{nm:Bs}{l:List Ex}(hn:nm.length≤20)(h6:l.length≤6)(hl:∀x,x∈l→(Ak x).length≤L):(Ak (.mk 5 0 0 nm l)).length≤6*L+64:=by
 rw[iK];have:=nU L (l.map Ak) (fun x hx=>by
  obtain⟨y,hy,rfl⟩:=List.mem_map.1 hx;exact hl y hy)
 simp only[List.length_map,Zb,Ze,Zl]at this ⊢;have:l.length*(L+2)≤6*(L+2):=Zo _ h6;omega
theorem cH {sc:Sc}(hs:sc.Ok)(raw:List Int)(g:Nat→Ex ×Nat)(L:Nat)(hg:∀a,(Ak (g a).1).length≤L)(a:Nat):(Ak (Ey sc raw g a).1).length≤6*L+64:=by
 unfold Ey;split
 ·have h7:=Ah raw (Ac raw a 312).2 7 (by decide)
  exact fB (Ga (Kh _)) (by rw[Ij];omega) (Kj g (fun x=>(Ak x).length≤L) hg _ _)
 ·rename_i hn
  have hl:=cN hn;have hr:=Ah raw a sc.funcs.length (by omega);have hf:Am (Dn sc.funcs (Ac raw a sc.funcs.length).1.toNat).name=true∧(Dn sc.funcs (Ac raw a sc.funcs.length).1.toNat).params.length≤6:=hs.funcs _ (pZ (d:=Fu.nil) (i:=(Ac raw a sc.funcs.length).1.toNat) (by omega));dsimp only;generalize Dn sc.funcs (Ac raw a sc.funcs.length).1.toNat=f at hf ⊢;exact fB (Ga hf.1) (by rw[Ij];exact hf.2) (Kj g (fun x=>(Ak x).length≤L) hg _ _)
theorem bR {sc:Sc}(hs:sc.Ok)(raw:List Int)(g:Nat→Ex ×Nat)(L:Nat)(hg:∀a,(Ak (g a).1).length≤L)(k:Int)(a:Nat):(Ak (Ds sc raw g k a).1).length≤6*L+64:=by
 unfold Ds;split
 ·have:=Ga (Rj hs raw a)
  dsimp only;rw[fC];omega
 split
 ·dsimp only;rw[eY];simp
 split
 ·have h1:=Ah raw (if k=3 then(Ac raw a 3).2 else a) 1000 (by decide)
  have h2:=Oj _ (Ac raw (Ac raw (if k=3 then(Ac raw a 3).2 else a) 1000).2 8).1 h1;have:=ex1_len _ h2 0 [] [];dsimp only;omega
 split
 ·have:=hg (Ac raw a 3).2
  dsimp only;rw[fM _ _ _ _ (by simp)];have h2:=fG (17+(Ac raw a 3).1);have h3:=Wg (g (Ac raw a 3).2).1 9 (Ak (g (Ac raw a 3).2).1);show(Aw _++Fx (g (Ac raw a 3).2).1 9 (Ak (g (Ac raw a 3).2).1)).length≤_
  rw[Zb];omega
 split
 ·have h1:=Ga (Pj hs raw a)
  have h2:=hg (Cg sc.free sc.arrays raw a).2;dsimp only;rw[gQ _ _ _ _ (by simp)];show(_++[91]++Ak (g (Cg sc.free sc.arrays raw a).2).1++[93]).length≤_
  simp only[Zb,Ze,Zl];omega
 split
 ·exact cH hs raw g L hg a
 ·dsimp only;rw[fT _ _ _ _ (by simp)]
  have h1:=hg (Ac raw a 16).2;have h2:=hg (g (Ac raw a 16).2).2;have h3:=fG (1+(Ac raw a 16).1);have h4:=Wg (g (Ac raw a 16).2).1 (Al (1+(Ac raw a 16).1)) (Ak (g (Ac raw a 16).2).1);have h5:=Wg (g (g (Ac raw a 16).2).2).1 (Al (1+(Ac raw a 16).1)+1) (Ak (g (g (Ac raw a 16).2).2).1);show(Fx (g (Ac raw a 16).2).1 (Al (1+(Ac raw a 16).1)) (Ak (g (Ac raw a 16).2).1)++([32]++(Aw _++[32]))++Fx (g (g (Ac raw a 16).2).2).1 (Al (1+(Ac raw a 16).1)+1) (Ak (g (g (Ac raw a 16).2).2).1)).length≤_
  simp only[Zb,Ze,Zl];omega
def exB:Nat→Nat
 |0=>64
 |d+1=>6*exB d+64
theorem Pv {sc:Sc}(hs:sc.Ok)(raw:List Int):∀d a,(Ak (Aq sc raw d a).1).length≤exB d
 |0,a=>by
  rw[Aq];unfold Qi;have:=bR hs raw (fun a=>(Ex.nil,a)) 0 (fun a=>by show(Ak (.mk 0 0 0 [] [])).length≤0;rw[Hj];decide) (gK raw 0 a) (Ac raw a 12).2;simp only[exB];omega
 |d+1,a=>by
  rw[Aq];unfold Qi;exact bR hs raw _ (exB d) (Pv hs raw d) _ _
theorem sH(t:Nat):(Jl t).length=t:=List.length_replicate
theorem cJ(t:Nat)(l:List Bs):(ln t l).length=t+l.flatten.length+1:=by unfold ln;rw[Zb,Zb,sH];rfl
theorem sB {t N L T E:Nat}{k:Int}{nm:Bs}{args:List Ex}{thn els:List St}(hn:nm.length≤N)(ha:∀x,x∈args→(Ak x).length≤L)(hT:(By (t+1) thn).length≤T)(hE:(By (t+1) els).length≤E):(Cp t (.mk k nm args thn els)).length≤3*t+N+2*L+T+E+40:=by
 have hx:∀i,(Ak (Bx args i)).length≤L:=fun i=>by
  unfold Bx;rcases Nat.lt_or_ge i args.length with h|h
  ·rw[List.getD_eq_getElem?_getD,Yb h];exact ha _ (List.getElem_mem h)
  ·rw[List.getD_eq_getElem?_getD,List.getElem?_eq_none h]
   show(Ak (.mk 0 0 0 [] [])).length≤L
   rw[Hj];exact Zm _
 have h0:=hx 0;have h1:=hx 1;rw[Fq];unfold Dd
 repeat' split
 all_goals
  try simp only[cJ,Zb,Zy,Zz,Ze,Zl]
  try omega
theorem cY {t B:Nat}:∀l:List St,(∀x,x∈l→(Cp t x).length≤B)→(By t l).length≤l.length*B
 |[],_=>by simp [By]
 |x::l,h=>by
  have h1:=h x Za;have h2:=cY l (fun z hz=>h z (Zd _ hz));rw[By,Zb,Ze,Zr];omega
theorem fL {sc:Sc}(hs:sc.Ok)(raw:List Int)(gs gl:Nat→List St ×Nat)(T:Nat)(t:Nat)(hgs:∀a,(By (t+1) (gs a).1).length≤T)(hgl:∀a,(By (t+1) (gl a).1).length≤T)(k:Int)(a:Nat):
  ∃k' nm args thn els,(Bz sc raw gs gl k a).1=.mk k' nm args thn els∧nm.length≤20∧(∀x,x∈args→(Ak x).length≤exB 3)∧(By (t+1) thn).length≤T∧(By (t+1) els).length≤T:=by
 have z:(By (t+1) []).length≤T:=Zm _;have nn:∀x:Ex,x∈([]:List Ex)→(Ak x).length≤exB 3:=fun x hx=>by cases hx
 have n0:([]:Bs).length≤20:=Zm _;have ee:∀a,∀x,x∈[(Aq sc raw 3 a).1]→(Ak x).length≤exB 3:=fun a x hx=>by rw[Ya.1 hx];exact Pv hs raw 3 a
 unfold Bz;split
 ·exact⟨_,_,_,_,_,rfl,Ga (Rj hs raw a),nn,z,z⟩
 split
 ·exact⟨_,_,_,_,_,rfl,Ga (Pj hs raw a),ee _,z,z⟩
 split
 ·exact⟨_,_,_,_,_,rfl,n0,fun x hx=>by rw[Ya.1 hx];exact cH hs raw _ (exB 2) (Pv hs raw 2) a,z,z⟩
 split
 ·exact⟨_,_,_,_,_,rfl,n0,nn,z,z⟩
 split
 ·exact⟨_,_,_,_,_,rfl,n0,ee _,hgs _,hgs _⟩
 split
 ·exact⟨_,_,_,_,_,rfl,n0,ee _,hgl _,z⟩
 split
 ·exact⟨_,_,_,_,_,rfl,n0,nn,z,z⟩
 ·exact⟨_,_,_,_,_,rfl,n0,nn,z,z⟩
theorem nE {sc:Sc}(hs:sc.Ok)(raw:List Int)(gs gl:Nat→List St ×Nat)(T:Nat)(t d:Nat)(hgs:∀a,(By (t+1) (gs a).1).length≤T)(hgl:∀a,(By (t+1) (gl a).1).length≤T)(a:Nat):(Cp t (gSt sc raw gs gl d a).1).length≤3*t+2*exB 4+2*T+60:=by
 unfold gSt;dsimp only;obtain⟨k,nm,args,thn,els,h,h1,h2,h3,h4⟩:=fL hs raw gs gl T t hgs hgl (Ob raw d a) (Ac raw a 14).2;generalize (Bz sc raw gs gl (Ob raw d a) (Ac raw a 14).2).2=b;rw[h];have h2:∀x,x∈args→(Ak x).length≤exB 4:=fun x hx=>Zs (h2 x hx) (by decide)
 unfold Kt;split
 ·have:=sB (k:=k) (N:=20) (L:=exB 4) h1 (args:=args++[(Aq sc raw 4 b).1]) (fun x hx=>by
   rcases Zt.1 hx with hx|hx
   ·exact h2 x hx
   ·rw[Ya.1 hx];exact Pv hs raw 4 b) h3 h4
  show(Cp t (.mk k nm (args++[(Aq sc raw 4 b).1]) thn els)).length≤_
  omega
 ·have:=sB (k:=k) (N:=20) (L:=exB 4) h1 h2 h3 h4
  show(Cp t (.mk k nm args thn els)).length≤_
  omega
def stB:Nat→Nat
 |0=>4*(2*exB 4+100)
 |d+1=>4*(2*exB 4+2*stB d+100)
theorem Wy(one:Nat→St ×Nat)(P:St→Prop)(hg:∀a,P (one a).1)(c a:Nat):∀x,x∈(Ek one c a).1→P x:=Pl one P hg c a
theorem five(raw:List Int)(a:Nat):(Ac raw a 5).1.toNat≤4:=by have:=Ah raw a 5 (by decide);omega
theorem Qz(raw:List Int):∀(d t:Nat) (sc:Sc),sc.Ok→t+d≤10→∀a,(By t (Di raw d sc a).1).length≤stB d
 |0,t,sc,hs,ht,a=>by
  rw[Di];have h1:=cY (t:=t) (B:=2*exB 4+100) _ (Wy _ (fun x=>(Cp t x).length≤2*exB 4+100) (fun b=>Zs (nE hs raw (fun a=>([],a)) (fun a=>([],a)) 0 t 0 (fun _=>Zc _) (fun _=>Zc _) b) (by omega)) (Ac raw a 5).1.toNat (Ac raw a 5).2);rw[Mw]at h1;exact Zs h1 (Zo _ (five raw a))
 |d+1,t,sc,hs,ht,a=>by
  rw[Di];have h1:=cY (t:=t) (B:=2*exB 4+2*stB d+100) _ (Wy _ (fun x=>(Cp t x).length≤2*exB 4+2*stB d+100) (fun b=>Zs (nE hs raw (Di raw d sc) (Di raw d sc.inLoop) (stB d) t (d+1) (Qz raw d (t+1) sc hs (by omega)) (Qz raw d (t+1) sc.inLoop hs.inLoop (by omega)) b) (by omega)) (Ac raw a 5).1.toNat (Ac raw a 5).2);rw[Mw]at h1;exact Zs h1 (Zo _ (five raw a))
def fuB:Nat:=1000+stB 4
def prB:Nat:=200+3*fuB
theorem tH:2*prB≤140737488355328:=by decide+kernel
theorem lM {a:Ar}(h:Dk a=true):(Oe a).length≤100:=by
 unfold Dk at h;simp only[Zf,decide_eq_true_eq]at h;have h1:=Ga h.1;have h2:=Lib.itoa_length_le a.size (by omega) (by omega);unfold Oe;rw[cJ];simp only[Zy,Zz,Zb,Ze,Zl];omega
theorem Ur:∀l:List Ar,(∀a,a∈l→Dk a=true)→(Ep l).length≤l.length*100
 |[],_=>by simp [Ep]
 |a::l,h=>by
  have h1:=lM (h a Za);have h2:=Ur l (fun x hx=>h x (Zd _ hx));show(Oe a++Ep l).length≤_
  rw[Zb,Ze,Zr];omega
theorem Us:∀l:List Bs,(∀x,x∈l→Am x=true)→(Fr l).length≤l.length*40
 |[],_=>by simp [Fr]
 |x::l,h=>by
  have h1:=Ga (h x Za);have h2:=Us l (fun y hy=>h y (Zd _ hy));show(ln 1 [[105,110,116,32],x,[59]]++Fr l).length≤_
  rw[Zb,cJ,Ze,Zr];simp only[Zy,Zz,Zb,Ze,Zl];omega
theorem lR {f:Fu}(h:FOk f)(hp:f.params.length≤6)(hl:f.locals.length≤5)(hb:(By 1 f.body).length≤stB 4):(Jc f).length≤fuB:=by
 have h1:=Ga h.name;have h2:=nU 24 (f.params.map Ki) (fun x hx=>by
  obtain⟨y,hy,rfl⟩:=List.mem_map.1 hx;have:=Ga (h.params y hy);unfold Ki;rw[Zb];simp;omega)
 have h3:=Us f.locals h.locals;have h4:(f.params.map Ki).length*(24+2)≤6*26:=Zo _ (by rw[List.length_map];exact hp);have h5:f.locals.length*40≤5*40:=Zo _ hl;unfold Jc fuB;simp only[Zb,cJ,Zy,Zz,Ze,Zl];omega
theorem Uo:∀l:List Fu,(∀f,f∈l→(Jc f).length≤fuB)→(Fj l).length≤l.length*fuB
 |[],_=>by simp [Fj]
 |a::l,h=>by
  have h1:=h a Za;have h2:=Uo l (fun x hx=>h x (Zd _ hx));show(Jc a++Fj l).length≤_
  rw[Zb,Ze,Zr];omega
theorem Vb(raw:List Int)(sc:Sc)(P:Fu→Prop)(hP:∀f,f∈sc.funcs→∀a,P (Me raw sc f a).1):∀(l:List Fu),(∀f,f∈l→f∈sc.funcs)→∀a,∀x,x∈(Cd raw sc l a).1→P x
 |[],_,a,x,hx=>by cases hx
 |f::l,hl,a,x,hx=>by
  rw[Cd]at hx;rcases Zu.1 hx with rfl|hx
  ·exact hP f (hl f Za) a
  ·exact Vb raw sc P hP l (fun g hg=>hl g (Zd _ hg)) _ x hx
theorem Ph(raw:List Int)(sc:Sc):∀(l:List Fu) (a:Nat),(Cd raw sc l a).1.length=l.length
 |[],a=>rfl
 |g::l,a=>by rw[Cd,Ze,Ze,Ph raw sc l]
theorem Sl(free:Bool)(raw:List Int):∀n a,(Gv free raw n a).1.length=n
 |0,a=>rfl
 |n+1,a=>by rw[Gv,Ze,Sl free raw n]
theorem Sd(raw:List Int):∀n a,(Gr raw n a).1.length=n
 |0,a=>rfl
 |n+1,a=>by rw[Gr,Ze,Sd raw n]
theorem gSc_ok(raw:List Int)(free:Bool){f:Fu}(hf:f∈(Fv raw free).funcs)(k:Nat):Sc.Ok ⟨f.params++Cu.take k,(Fv raw free).arrays,(Fv raw free).funcs,free,false⟩:=by
 refine⟨fun x hx=>?_,fun x hx=>?_,fun x hx=>⟨(Fw raw free x hx).1,(Fw raw free x hx).2.1⟩⟩
 ·rcases Zt.1 hx with hx|hx
  ·exact(Fw raw free f hf).2.2 x hx
  ·exact Tp x (List.mem_of_mem_take hx)
 ·have:=Lh raw free x hx
  unfold Dk at this;exact((Zf _ _).mp this).1
theorem iM(raw:List Int)(free:Bool):∀f,f∈(Kb raw free).funcs→(Jc f).length≤fuB:=by
 intro f hf;have hr:=Oh raw free;unfold Eb at hr;simp only[Zf,Zq]at hr;have hok:=pV (hr.2 f hf);have h:=Vb (raw.take 400) (Fv (raw.take 400) free) (fun f=>f.params.length≤6∧f.locals.length≤5∧(By 1 f.body).length≤stB 4) (fun g hg a=>by
  have hh:=Fw (raw.take 400) free g hg;refine⟨hh.2.1,?_,?_⟩
  ·show(Cu.take _).length≤5
   rw[List.length_take];exact Nat.min_le_right _ _
  ·exact Qz (raw.take 400) 4 1 _ (gSc_ok (raw.take 400) free hg _) (by omega) _) (Fv (raw.take 400) free).funcs (fun f hf=>hf) _ f hf
 exact lR hok h.1 h.2.1 h.2.2
theorem Sn(raw:List Int)(free:Bool):(Kb raw free).arrays.length≤2∧(Kb raw free).funcs.length≤3∧0<(Kb raw free).funcs.length:=by
 have h1:=Ah (raw.take 400) 0 3 (by decide);have h2:=Ah (raw.take 400) (Ei (raw.take 400) free).2 3 (by decide);have ea:(Kb raw free).arrays.length=(Ac (raw.take 400) 0 3).1.toNat:=Sl _ _ _ _;have ef:(Kb raw free).funcs.length=(Ac (raw.take 400) (Ei (raw.take 400) free).2 3).1.toNat+1:=by
  show(Cd _ _ _ _).1.length=_
  rw[Ph];show(Ky::(Mp _ _).1).length=_
  rw[Ze];show(Gr _ _ _).1.length+1=_
  rw[Sd]
 rw[ea,ef];omega
theorem pU(raw:List Int)(free:Bool):(Du (Kb raw free)).length≤prB:=by
 have hr:=Oh raw free;unfold Eb at hr;simp only[Zf,Zq]at hr;obtain⟨c1,c2,_⟩:=Sn raw free;have h1:=Ur _ hr.1;have h2:=Uo _ (iM raw free);have h3:(Kb raw free).arrays.length*100≤2*100:=Zo _ c1;have h4:(Kb raw free).funcs.length*fuB≤3*fuB:=Zo _ c2;unfold Du prB;rw[Zb];omega
theorem qQ {p:Pr}(h:0<p.funcs.length):Du p≠[]:=by
 obtain⟨a,l⟩:=p
 cases l with
 |nil=>cases h
 |cons f l=>
  unfold Du;intro e;have:=(List.append_eq_nil_iff.1 e).2;simp [Fj,Jc]at this
def bindP {α β:Type}(p:PR α)(k:α→List Tk→PR β):PR β:=match p with
 |.error e=>.error e
 |.ok (x,r)=>k x r
def orP {α:Type}(s:Bs)(l:List Tk)(p:List Tk→PR α)(q:PR α):PR α:=match Bp s l with
 |some r=>p r
 |none=>q
def wantB {α:Type}(s:Bs)(l:List Tk)(p:List Tk→PR α):PR α:=match As s l with
 |.error e=>.error e
 |.ok r=>p r
def RelZ {α:Type}(B Z:List Tk)(L:Int)(x:α)(rest:List Tk)(z:PR α):Prop:=
 (∃A,rest=A++B∧z=.ok (x,A++Z))∨z=.error L∨∃x',z=.ok (x',Z)
def FinZ {α:Type}(Z:List Tk)(L:Int)(z:PR α):Prop:=z=.error L∨∃x',z=.ok (x',Z)
def EvZ {α:Type}(Z:List Tk)(L:Int)(q:Nat→List Tk→PR α):Prop:= ∃z,Ev (fun g=>q g Z) z∧FinZ Z L z
def Tame {α:Type}(B Z:List Tk)(L:Int)(p:List Tk→PR α)(q:Nat→List Tk→PR α):Prop:=
 EvZ Z L q∧∀a A x rest,p (a::(A++B))=.ok (x,rest)→∃z,Ev (fun g=>q g (a::(A++Z))) z∧RelZ B Z L x rest z
structure ElseZ (L:Int)(e1 e2:Tk):Prop where
 k1:e1.kind=2
 t1:e1.text=[101,108,115,101]
 l1:e1.line=L
 k2:e2.kind=2
 t2:e2.text=[101,108,115,101]
 l2:e2.line=L
abbrev Dc(l:List Tk)(i:Nat):Tk:=l.getD i ⟨0,[],0,0⟩
def Yy(w:World)(l:List Tk)(v:Value):Prop:=
 ∃a cap b off,v=.slice a l.length cap∧l.length≤cap∧(l.length=0∨a=some ⟨b,off,none⟩)∧l.length≤1000000∧
  ∀i,i<l.length→w.cell? ⟨b,off+i*4,none⟩=some (.int .i64 (Dc l i).kind)∧w.cell? ⟨b,off+i*4+1,none⟩=some (.string (Aa (Dc l i).text))∧w.cell? ⟨b,off+i*4+2,none⟩=some (.int .i64 (Dc l i).num)∧w.cell? ⟨b,off+i*4+3,none⟩=some (.int .i64 (Dc l i).line)
theorem Yy.old {w w':World}{l:List Tk}{v:Value}(h:Yy w l v)(hb:Below w.heap.size w w'):Yy w' l v:=by
 obtain⟨a,cap,b,off,h1,hc,h2,h3,h4⟩:=h;exact⟨a,cap,b,off,h1,hc,h2,h3,fun i hi=>⟨Ad hb (h4 i hi).1,Ad hb (h4 i hi).2.1,Ad hb (h4 i hi).2.2.1,Ad hb (h4 i hi).2.2.2⟩⟩
theorem Yy.slice {w:World}{l:List Tk}{v:Value}(h:Yy w l v):∃a cap,v=.slice a l.length cap∧l.length≤cap:=by
 obtain⟨a,cap,b,off,h1,hc,_⟩:=h;exact⟨a,cap,h1,hc⟩
theorem Yy.at {w:World}{l:List Tk}{a:Option Addr}{n cap:Nat}(h:Yy w l (.slice a n cap))(i:Nat)(hi:i<l.length):∃b off,a=some ⟨b,off,none⟩∧b<w.heap.size∧
  w.cell? ⟨b,off+i*4,none⟩=some (.int .i64 (Dc l i).kind)∧w.cell? ⟨b,off+i*4+1,none⟩=some (.string (Aa (Dc l i).text))∧w.cell? ⟨b,off+i*4+2,none⟩=some (.int .i64 (Dc l i).num)∧w.cell? ⟨b,off+i*4+3,none⟩=some (.int .i64 (Dc l i).line):=by
 obtain⟨a',cap',b,off,h1,hc,h2,h3,h4⟩:=h
 cases h1
 rcases h2 with h2|h2
 ·omega
 ·exact⟨b,off,h2,World.block_lt_of_cell? _ _ (h4 i hi).1,h4 i hi⟩
theorem Gt.tks {w:World}{base:Nat}{l:List Tk}{v:Value}(h:Gt w base l v)(hl:l.length≤1000000):Yy w l v:=by
 have h0:=h;rcases h.2 with⟨rfl,hz⟩|⟨g,cap,cur,rfl,hb,hg,hc,r⟩
 ·have:l=[]:=List.length_eq_zero_iff.1 hz
  subst this;exact⟨none,0,0,0,rfl,Zc _,.inl rfl,hl,fun i hi=>absurd hi (Nat.not_lt_zero _)⟩
 ·refine⟨_,cap,g,0,rfl,hc,.inr rfl,hl,fun i hi=>?_⟩
  have hp:l[i]? =some (Dc l i):=by simp [Dc,Yb hi]
  have c:∀q u,q<4→(Ii (Dc l i))[q]? =some u→w.cell? ⟨g,0+i*4+q,none⟩=some u:=fun q u hq hu=>by
   have:=zrow_at h0 (i*4+q) u (by rw[jH Ii 4 (fun _=>rfl) l i q _ hp hq];exact hu)
   rwa[Nat.zero_add]
  exact⟨c 0 _ (by decide) rfl,c 1 _ (by decide) rfl,c 2 _ (by decide) rfl,c 3 _ (by decide) rfl⟩
theorem Wu {x:T3}:∀ {l:List Pc},x∈Gc l→Pc.t x∈l
 |.g b::l,h=>Zd _ (Wu (l:=l) h)
 |.t y::l,h=>by
  rcases Zu.1 (show x∈y::Gc l from h)with rfl|h
  ·exact Za
  ·exact Zd _ (Wu h)
theorem pcs_tok {l:List Pc}(h:Bd l):∀x,x∈Gc l→Mi x:=fun x hx=>h _ (Wu hx)
theorem eP {p:Pr}(hr:Eb p=true)(hn:∀g,g∈p.funcs→∀x,x∈g.body→Xt x):Bd (Jq p):=by
 obtain⟨h1,h2⟩:=Lg hr;exact .app (Vy _ _ fun a ha=>(mW (h1 a ha)).1) (Vy _ _ fun x hx=>fu_toks (h2 x hx) (hn x hx))
theorem scan_pr {p:Pr}(hr:Eb p=true)(hn:∀g,g∈p.funcs→∀x,x∈g.body→Xt x)(hlen:(Du p).length≤20000)(w:World)(hl:Jj w):
  Calls Tryz.prog 20 #[.string (Aa (Du p))] w fun e w'=>Below w.heap.size w w'∧∃v T u,e=.returned (.tuple #[v,.int .i64 0,.int .i64 0])∧Yy w' (T++[u]) v∧T.map t3=Gc (Jq p)∧T.length≤20000:=by
 obtain⟨h1,h2⟩:=Lg hr;have hok:=eP hr hn;have hg:Do (Jq p)=[]:=pr_gap _ _;have hs:Fo Lb (Jq p) []:=jK qW digL p.arrays p.funcs [] (fun a ha=>(mW (h1 a ha)).2) h2;obtain⟨i1,i2⟩:=dV [] (Jq p) hok hs;have ht:=Op (Jq p);have hil:=Vw (Jq p) hok;rw[hg,Zj]at ht;rw[aT]at ht hil;have e0:Ao [] []++Cx (Hh (Jq p))=Du p:=by rw[←ht];rfl
 have hx:=Yf [] [] My (Hh (Jq p)) i1 (by rw[e0];exact hlen) w hl;rw[e0]at hx;refine hx.mono ?_;rintro e w' ⟨hb,v,he,hT⟩;have hl2:(Sp (1+Co (Ao [] [])) (Hh (Jq p))).length=(Hh (Jq p)).length:=Xp _ _;exact⟨hb,v,_,_,he,hT.tks (by show(_++[_]).length≤_;rw[Zb,hl2];show _+1≤_;omega),Vv _ _,by rw[hl2];omega⟩
def tkN(l:List Pc):Nat:=(Gc l).length
theorem Ca(a b:List Pc):tkN (a++b)=tkN a+tkN b:=by unfold tkN;rw[Hz,Zb]
theorem Ff(x:T3)(l:List Pc):tkN (.t x::l)=tkN l+1:=rfl
theorem Qf(b:Bs)(l:List Pc):tkN (.g b::l)=tkN l:=rfl
theorem tkN_nil:tkN []=0:=rfl
def tkE(e:Ex):Nat:=tkN (Ck e)
theorem cO(e:Ex)(lv:Int):tkN (Da e lv)≤tkE e+2:=by
 unfold Da Hl tkE;split
 ·rw[Ca,Ca];show 1+_+1≤_;omega
 ·omega
def Wr(l:List Ex):Nat:=(l.map (fun x=>tkE x+1)).sum
theorem sep_tk(l:List Ex):tkN (Ho (l.map Ck))≤Wr l:=by
 have more:∀m:List Ex,tkN ((m.map Ck).flatMap (fun y=>[sg [44],.g [32]]++y))=Wr m:=by
  intro m
  induction m with
  |nil=>rfl
  |cons y m ih=>
   rw[Zp,Zi,Ca,ih];show(tkN (Ck y)+1)+Wr m=_
   unfold Wr tkE;rw[Zp,List.sum_cons]
 cases l with
 |nil=>exact Zc _
 |cons x l=>
  rw[Zp,Ho,Ca,more];unfold Wr;rw[Zp,List.sum_cons];unfold tkE;omega
theorem qT(l:List Ex)(x:Ex):Wr (l++[x])=Wr l+(tkE x+1):=by unfold Wr;simp
theorem tkE_1(o n:Int)(nm:Bs)(l:List Ex):tkE (.mk 1 o n nm l)=1:=by unfold tkE;rw[Su];rfl
theorem tkE_2(o n:Int)(nm:Bs)(l:List Ex):tkE (.mk 2 o n nm l)=1:=by unfold tkE;rw[Sy];rfl
theorem tkE_3(o n:Int)(nm:Bs)(x:Ex):tkE (.mk 3 o n nm [x])≤3+tkE x:=by
 have:=cO x 9;unfold tkE;rw[Th,Ff];unfold tkE at this;omega
theorem tkE_4(o n:Int)(nm:Bs)(x y:Ex):tkE (.mk 4 o n nm [x,y])≤5+tkE x+tkE y:=by
 have h1:=cO x (Al o);have h2:=cO y (Al o+1);unfold tkE at*;rw[Tr,Ca,Ca];show _+(1+_)≤_
 omega
theorem tkE_5(o n:Int)(nm:Bs)(l:List Ex):tkE (.mk 5 o n nm l)≤3+Wr l:=by
 have:=sep_tk l;unfold tkE;rw[Lp,Ff,Ff,Ca];show _+1+1+1≤_
 omega
theorem tkE_6(o n:Int)(nm:Bs)(x:Ex):tkE (.mk 6 o n nm [x])=3+tkE x:=by
 unfold tkE;rw[Tz,Ff,Ff,Ca];show tkN (Ck x)+1+1+1=_
 omega
theorem tkE_7(o n:Int)(nm:Bs)(l:List Ex):tkE (.mk 7 o n nm l)=3:=by unfold tkE;rw[Ud];rfl
theorem Gn(raw:List Int)(a:Nat)(n:Int)(h:a≤raw.length):a≤(Ac raw a n).2∧(Ac raw a n).2≤raw.length∧((Ac raw a n).2<raw.length→(Ac raw a n).2=a+1)∧(raw.length≤a→Ac raw a n=(0,a)):=by
 unfold Ac;split
 ·exact⟨Zc _,h,fun h=>by omega,fun _=>rfl⟩
 ·exact⟨Nat.le_succ _,by show a+1≤_;omega,fun _=>rfl,fun h=>by omega⟩
structure Cost (N K a b T:Nat):Prop where
 le:a≤b
 top:b≤N
 paid:b<N→T+1+3*a≤3*b
 more:T+3*a≤K+3*b
def Wx(N K:Nat)(g:Nat→Ex ×Nat):Prop:= ∀a,a≤N→Cost N K a (g a).2 (tkE (g a).1)∧(N≤a→(g a).2=a∧tkE (g a).1≤1)
theorem Ts {N K:Nat}{g:Nat→Ex ×Nat}(hg:Wx N K g):∀c a,a≤N→a≤(Dt g c a).2∧(Dt g c a).2≤N∧((Dt g c a).2<N→Wr (Dt g c a).1+3*a≤3*(Dt g c a).2)∧Wr (Dt g c a).1+3*a≤K+2*c+3*(Dt g c a).2
 |0,a,h=>⟨Zc _,h,fun _=>by show 0+_≤_;simp [Dt],by show 0+_≤_;simp [Dt]⟩
 |c+1,a,h=>by
  obtain⟨h1,h2,h3,h4⟩:=Ts hg c a h;obtain⟨⟨q1,q2,q3,q4⟩,q5⟩:=hg (Dt g c a).2 h2;rw[Dt];dsimp only;rw[qT];refine⟨by omega,q2,fun hl=>?_,?_⟩
  ·have:=h3 (by omega);have:=q3 hl;omega
  ·by_cases hb:(Dt g c a).2<N
   ·have:=h3 hb;omega
   ·obtain⟨e1,e2⟩:=q5 (by omega);rw[e1];omega
theorem bC {sc:Sc}(hs:sc.Ok)(raw:List Int){K:Nat}{g:Nat→Ex ×Nat}(hg:Wx raw.length K g)(a:Nat)(ha:a≤raw.length):
  a≤(Ey sc raw g a).2∧(Ey sc raw g a).2≤raw.length∧((Ey sc raw g a).2<raw.length→tkE (Ey sc raw g a).1+3*a≤3*(Ey sc raw g a).2)∧tkE (Ey sc raw g a).1+3*a≤K+15+3*(Ey sc raw g a).2:=by
 unfold Ey;split
 ·have h7:=Ah raw (Ac raw a 312).2 7 (by decide)
  obtain⟨m1,m2,m3,_⟩:=Gn raw a 312 ha;obtain⟨n1,n2,n3,_⟩:=Gn raw (Ac raw a 312).2 7 m2;obtain⟨h1,h2,h3,h4⟩:=Ts hg (Ac raw (Ac raw a 312).2 7).1.toNat _ n2;have:=tkE_5 0 0 (Jw (Ac raw a 312).1) (Dt g (Ac raw (Ac raw a 312).2 7).1.toNat (Ac raw (Ac raw a 312).2 7).2).1;dsimp only;exact⟨by omega,h2,fun hl=>by have:=h3 hl;have:=n3 (by omega);have:=m3 (by omega);omega,by omega⟩
 ·rename_i hn
  have hl:=cN hn;have hr:=Ah raw a sc.funcs.length (by omega);have hf:Am (Dn sc.funcs (Ac raw a sc.funcs.length).1.toNat).name=true∧(Dn sc.funcs (Ac raw a sc.funcs.length).1.toNat).params.length≤6:=hs.funcs _ (pZ (d:=Fu.nil) (i:=(Ac raw a sc.funcs.length).1.toNat) (by omega));obtain⟨m1,m2,m3,_⟩:=Gn raw a sc.funcs.length ha;dsimp only;generalize Dn sc.funcs (Ac raw a sc.funcs.length).1.toNat=f at hf ⊢;obtain⟨h1,h2,h3,h4⟩:=Ts hg f.params.length _ m2;have:=tkE_5 0 0 f.name (Dt g f.params.length (Ac raw a sc.funcs.length).2).1;exact⟨by omega,h2,fun hl=>by have:=h3 hl;have:=m3 (by omega);omega,by omega⟩
theorem Tj {free:Bool}{l:List Bs}(raw:List Int)(a:Nat)(ha:a≤raw.length):a≤(Gg free l raw a).2∧(Gg free l raw a).2≤raw.length∧(raw.length≤a→(Gg free l raw a).2=a):=by
 unfold Gg;split
 ·obtain⟨h1,h2,h3,h4⟩:=Gn raw a 312 ha;exact⟨h1,h2,fun h=>by dsimp only;rw[h4 h]⟩
 ·obtain⟨h1,h2,h3,h4⟩:=Gn raw a l.length ha;exact⟨h1,h2,fun h=>by dsimp only;rw[h4 h]⟩
theorem Ra {free:Bool}{l:List Ar}(raw:List Int)(a:Nat)(ha:a≤raw.length):a≤(Cg free l raw a).2∧(Cg free l raw a).2≤raw.length∧((Cg free l raw a).2<raw.length→a+1≤(Cg free l raw a).2)∧(raw.length≤a→(Cg free l raw a).2=a):=by
 unfold Cg;split
 ·obtain⟨h1,h2,h3,h4⟩:=Gn raw a 312 ha
  obtain⟨q1,q2,q3,q4⟩:=Gn raw (Ac raw a 312).2 1000 h2;exact⟨by dsimp only;omega,q2,fun hl=>by have:=q3 hl;dsimp only at hl ⊢;omega,fun h=>by dsimp only;rw[h4 h]at q4 ⊢;rw[q4 h]⟩
 ·obtain⟨h1,h2,h3,h4⟩:=Gn raw a l.length ha
  exact⟨h1,h2,fun hl=>by have:=h3 hl;dsimp only at hl ⊢;omega,fun h=>by dsimp only;rw[h4 h]⟩
theorem rG {sc:Sc}(hs:sc.Ok)(raw:List Int){K:Nat}{g:Nat→Ex ×Nat}(k:Int)(hg:k<4∨Wx raw.length K g)(a:Nat)(ha:a+1≤raw.length):Cost raw.length (K+12) a (Ds sc raw g k (a+1)).2 (tkE (Ds sc raw g k (a+1)).1):=by
 unfold Ds;split
 ·obtain⟨h1,h2,_⟩:=Tj (free:=sc.free) (l:=sc.vars) raw (a+1) ha
  dsimp only;rw[tkE_2];exact⟨by omega,h2,fun _=>by omega,by omega⟩
 split
 ·obtain⟨h1,h2,h3,_⟩:=Gn raw (a+1) 3 ha
  dsimp only;rw[tkE_7];exact⟨by omega,h2,fun hl=>by have:=h3 hl;omega,by omega⟩
 split
 ·have hb:a+1≤(if k=3 then(Ac raw (a+1) 3).2 else a+1)∧(if k=3 then(Ac raw (a+1) 3).2 else a+1)≤raw.length:=by
   split
   ·obtain⟨h1,h2,_⟩:=Gn raw (a+1) 3 ha;exact⟨h1,h2⟩
   ·exact⟨Zc _,ha⟩
  obtain⟨n1,n2,_⟩:=Gn raw _ 1000 hb.2;obtain⟨m1,m2,_⟩:=Gn raw _ 8 n2;dsimp only;rw[tkE_1];exact⟨by omega,m2,fun _=>by omega,by omega⟩
 rename_i hk;have hg:Wx raw.length K g:=hg.resolve_left hk;split
 ·obtain⟨n1,n2,n3,_⟩:=Gn raw (a+1) 3 ha
  obtain⟨⟨q1,q2,q3,q4⟩,_⟩:=hg (Ac raw (a+1) 3).2 n2;have:=tkE_3 (17+(Ac raw (a+1) 3).1) 0 [] (g (Ac raw (a+1) 3).2).1;dsimp only;exact⟨by omega,q2,fun hl=>by have:=q3 hl;omega,by omega⟩
 split
 ·obtain⟨n1,n2,n3,_⟩:=Ra (free:=sc.free) (l:=sc.arrays) raw (a+1) ha
  obtain⟨⟨q1,q2,q3,q4⟩,_⟩:=hg (Cg sc.free sc.arrays raw (a+1)).2 n2;dsimp only;rw[tkE_6];exact⟨by omega,q2,fun hl=>by have:=q3 hl;omega,by omega⟩
 split
 ·obtain⟨h1,h2,h3,h4⟩:=bC hs raw hg (a+1) ha
  exact⟨by omega,h2,fun hl=>by have:=h3 hl;omega,by omega⟩
 ·obtain⟨n1,n2,n3,_⟩:=Gn raw (a+1) 16 ha
  obtain⟨⟨q1,q2,q3,q4⟩,q5⟩:=hg (Ac raw (a+1) 16).2 n2;obtain⟨⟨r1,r2,r3,r4⟩,r5⟩:=hg (g (Ac raw (a+1) 16).2).2 q2;have:=tkE_4 (1+(Ac raw (a+1) 16).1) 0 [] (g (Ac raw (a+1) 16).2).1 (g (g (Ac raw (a+1) 16).2).2).1;dsimp only;refine⟨by omega,r2,fun hl=>by have:=r3 hl;have:=q3 (by omega);have:=n3 (by omega);omega,?_⟩
  by_cases hb:(g (Ac raw (a+1) 16).2).2<raw.length
  ·have:=q3 hb;omega
  ·obtain⟨e1,e2⟩:=r5 (by omega);rw[e1];omega
theorem aZ {sc:Sc}(hs:sc.Ok)(raw:List Int)(d K:Nat){g:Nat→Ex ×Nat}(hg:d<2∨Wx raw.length K g):Wx raw.length (K+12) (Qi sc raw d g):=by
 intro a ha;unfold Qi
 by_cases h:raw.length≤a
 ·have e:∀n,Ac raw a n=(0,a):=fun n=>by unfold Ac;rw[if_pos h]
  have ek:gK raw d a=0:=by unfold gK;rw[e];split<;>rfl
  rw[ek,e];have eg:Ds sc raw g 0 a=(.mk 1 0 0 [] [],a):=by
   unfold Ds;rw[if_neg (by simp),if_neg (by simp),if_pos (by decide),if_neg (by decide)];dsimp only;rw[e 1000];dsimp only;rw[e 8];rfl
  dsimp only;rw[eg];dsimp only;rw[tkE_1];exact⟨⟨Zc _,ha,fun hl=>by omega,by omega⟩,fun _=>⟨rfl,Zc _⟩⟩
 ·have e:(Ac raw a 12).2=a+1:=by unfold Ac;rw[if_neg h]
  rw[e];refine⟨rG hs raw (gK raw d a) ?_ a (by omega),fun hl=>by omega⟩;rcases hg with hd|hg
  ·left
   unfold gK;rw[if_pos hd];have:=Ah raw a 12 (by decide);omega
  ·exact .inr hg
theorem Mx {sc:Sc}(hs:sc.Ok)(raw:List Int):∀d,Wx raw.length (12*(d+1)) (Aq sc raw d)
 |0=>by rw[Aq];exact aZ hs raw 0 0 (.inl (by decide))
 |d+1=>by rw[Aq];exact aZ hs raw (d+1) (12*(d+1)) (.inr (Mx hs raw d))
theorem Ka(t:Nat)(l:List Pc):tkN (Dy t l)=tkN l:=by
 show tkN (([.g (Jl t)]++l)++[.g [10]])=_
 rw[Ca,Ca];show 0+tkN l+0=_;omega
theorem Uk(t:Nat)(x:St):∀l:List St,tkN (Cs t (l++[x]))=tkN (Cs t l)+tkN (Ec t x)
 |[]=>by rw[Zj,Cs,Cs,Ca];show _+0=0+_;omega
 |y::l=>by rw[Zx,Cs,Cs,Ca,Ca,Uk t x l];omega
def Xv(N K:Nat)(g:Nat→List St ×Nat):Prop:= ∀t a,a≤N→(a≤(g a).2∧(g a).2≤N∧((g a).2<N→tkN (Cs t (g a).1)+3+3*a≤3*(g a).2)∧tkN (Cs t (g a).1)+3*a≤K+3*(g a).2)∧(N≤a→(g a).2=a∧(g a).1=[])
theorem nN {sc:Sc}(hs:sc.Ok)(raw:List Int)(gs gl:Nat→List St ×Nat)(d a t:Nat)(ha:a=raw.length):(gSt sc raw gs gl d a).2=a∧tkN (Ec t (gSt sc raw gs gl d a).1)≤5:=by
 have e:∀n,Ac raw a n=(0,a):=fun n=>by unfold Ac;rw[if_pos (by omega)]
 have ek:Ob raw d a=0:=by unfold Ob;rw[e];split<;>rfl
 obtain⟨q1,q2⟩:=(Mx hs raw 4 a (by omega)).2 (by omega);unfold gSt;rw[ek,e];unfold Bz;dsimp only
 by_cases hv:sc.hasVars=true
 ·rw[if_pos ⟨by decide,hv⟩]
  obtain⟨_,_,hn⟩:=Tj (free:=sc.free) (l:=sc.vars) raw a (by omega);have hn:=hn (by omega);dsimp only;rw[Fb _ _ _ (by simp [Ce]),hn];refine⟨q1,?_⟩;show tkN (Ec t (.mk 1 _ ([]++[_]) [] []))≤5
  rw[Zj,sT,Ka,Ff,Qf,Ff,Qf,Ca];show tkE _+1+1+1≤5
  omega
 ·rw[if_neg (fun h=>hv h.2),if_neg (by simp),if_neg (by simp),if_neg (by simp),if_neg (by simp),if_neg (by simp),if_neg (by simp),if_neg (by simp),if_neg (by simp)]
  dsimp only;rw[Fb _ _ _ (by simp [Ce])];refine⟨q1,?_⟩;show tkN (Ec t (.mk 8 _ ([]++[_]) [] []))≤5
  rw[Zj,vR,Ka,Ff,Ff,Ca];show tkE _+2+1+1≤5
  omega
theorem mP {sc:Sc}(hs:sc.Ok)(raw:List Int)(gs gl:Nat→List St ×Nat)(d K t:Nat)(hK:60≤K)(hg:d<2∨Xv raw.length K gs)(hl:d<2∨Xv raw.length K gl)(a:Nat)(ha:a<raw.length):
  a≤(gSt sc raw gs gl d a).2∧(gSt sc raw gs gl d a).2≤raw.length∧((gSt sc raw gs gl d a).2<raw.length→tkN (Ec t (gSt sc raw gs gl d a).1)+3*a≤3*(gSt sc raw gs gl d a).2)∧tkN (Ec t (gSt sc raw gs gl d a).1)+3*a≤K+4+3*(gSt sc raw gs gl d a).2:=by
 unfold gSt;have hk:∀k,Ob raw d a=k→7≤k→k<11→2≤d:=by
  intro k hk h1 h2;unfold Ob at hk;split at hk
  ·omega
  ·omega
 generalize Ob raw d a=k at hk;have hk:=hk k rfl;have e:(Ac raw a 14).2=a+1:=by unfold Ac;rw[if_neg (by omega)]
 rw[e];dsimp only;have ha1:a+1≤raw.length:=ha;have x4:=Mx hs raw 4;have x3:=Mx hs raw 3;unfold Bz;split
 ·obtain⟨n1,n2,_⟩:=Tj (free:=sc.free) (l:=sc.vars) raw (a+1) ha
  dsimp only;rw[Fb _ _ _ (by simp [Ce])];obtain⟨⟨q1,q2,q3,q4⟩,_⟩:=x4 _ n2;dsimp only;rw[Zj,sT,Ka,Ff,Qf,Ff,Qf,Ca];unfold tkE at q3 q4;refine⟨by omega,q2,fun hl=>?_,?_⟩
  ·have:=q3 hl;show _+1+1+1+_≤_;omega
  ·show _+1+1+1+_≤_;omega
 split
 ·obtain⟨n1,n2,n3,_⟩:=Ra (free:=sc.free) (l:=sc.arrays) raw (a+1) ha
  dsimp only;rw[Fb _ _ _ (by simp [Ce])];obtain⟨⟨q1,q2,q3,q4⟩,_⟩:=x3 _ n2;obtain⟨⟨r1,r2,r3,r4⟩,r5⟩:=x4 _ q2;dsimp only;rw[show ∀x y:Ex,[x]++[y]=[x,y]from fun _ _=>rfl,stp2,Ka,Ff,Ff,Ca,Ff,Qf,Ff,Qf,Ca];unfold tkE at q3 q4 r3 r4 r5;refine⟨by omega,r2,fun hl=>?_,?_⟩
  ·have:=r3 hl;have:=q3 (by omega);have:=n3 (by omega);show _+(_+1+1+1)+1+1+_≤_;omega
  ·show _+(_+1+1+1)+1+1+_≤_
   by_cases hb:(Aq sc raw 3 (Cg sc.free sc.arrays raw (a+1)).2).2<raw.length
   ·have:=q3 hb;omega
   ·obtain⟨e1,e2⟩:=r5 (by omega);rw[e1];omega
 split
 ·obtain⟨h1,h2,h3,h4⟩:=bC hs raw (Mx hs raw 2) (a+1) ha
  have hkd:∃s l,(Ey sc raw (Aq sc raw 2) (a+1)).1=.mk 5 0 0 s l:=by
   unfold Ey;split<;>exact⟨_,_,rfl⟩
  obtain⟨s,l,hc⟩:=hkd;dsimp only;rw[Hf _ _ _ (by simp [Ce])];dsimp only;rw[hc]at h3 h4 ⊢;have es:tkN (Ec t (.mk 10 [] [.mk 5 0 0 s l] [] []))=tkE (.mk 5 0 0 s l)+1:=by
   rw[nP,Ka];unfold tkE;rw[Lp,Ff,Ff,Ff,Ff,Ca,Ca];rfl
  rw[es];exact⟨by omega,h2,fun hl=>by have:=h3 hl;omega,by omega⟩
 split
 ·obtain⟨n1,n2,n3,_⟩:=Gn raw (a+1) 3 ha
  obtain⟨m1,m2,m3,_⟩:=Gn raw (Ac raw (a+1) 3).2 2 n2;obtain⟨⟨q1,q2,q3,q4⟩,_⟩:=x4 _ m2;dsimp only;split
  ·rw[Fb _ _ _ (by simp [Ce])]
   dsimp only;rw[Zj,stp7,Ka,Ff,Qf,Ca];unfold tkE at q3 q4;refine⟨by omega,q2,fun hl=>?_,?_⟩
   ·have:=q3 hl;show _+1+1+_≤_;omega
   ·show _+1+1+_≤_;omega
  ·rw[Fb _ _ _ (by simp [Ce])]
   dsimp only;rw[Zj,stp9,Ka,Ff,Ff,Ca];unfold tkE at q3 q4;refine⟨by omega,q2,fun hl=>?_,?_⟩
   ·have:=q3 hl;show _+2+1+1+_≤_;omega
   ·show _+2+1+1+_≤_;omega
 split
 ·rename_i h78
  have hd:=hk (by omega) (by omega);have hg:=hg.resolve_left (by omega);obtain⟨⟨q1,q2,q3,q4⟩,_⟩:=x3 _ ha1;obtain⟨⟨r1,r2,r3,r4⟩,r5⟩:=hg (t+1) _ q2;obtain⟨⟨p1,p2,p3,p4⟩,p5⟩:=hg (t+1) _ r2;dsimp only;rw[Hf _ _ _ (by simp [Ce])];dsimp only;have es:∀(x:Ex) (A B:List St),tkN (Ec t (.mk 3 [] [x] A B))≤8+tkE x+tkN (Cs (t+1) A)+tkN (Cs (t+1) B)∧(B=[]→tkN (Ec t (.mk 3 [] [x] A B))≤5+tkE x+tkN (Cs (t+1) A)):=by
   intro x A B;rw[stp3,Ca,Ca,Ca,Ka,Ka,Ff,Qf,Ff,Ca];show(tkE x+2+1+1)+(_+(_+1))≤_∧(B=[]→(tkE x+2+1+1)+(_+(_+1))≤_)
   cases B with
   |nil=>rw[if_pos (show([]:List St).isEmpty=true from rfl),tkN_nil];rw[show tkN (Cs (t+1) [])=0 from rfl];exact⟨by omega,fun _=>by omega⟩
   |cons y l=>
    rw[if_neg (by simp),Ca,Ka];show(tkE x+2+1+1)+(_+(3+_+1))≤_∧_
    exact⟨by omega,fun h=>by cases h⟩
  obtain⟨s1,s2⟩:=es (Aq sc raw 3 (a+1)).1 (gs (Aq sc raw 3 (a+1)).2).1 (gs (gs (Aq sc raw 3 (a+1)).2).2).1;refine⟨by omega,p2,fun hl=>?_,?_⟩
  ·have:=p3 hl;have:=r3 (by omega);have:=q3 (by omega);omega
  ·by_cases hb:(Aq sc raw 3 (a+1)).2<raw.length
   ·have:=q3 hb
    by_cases hc:(gs (Aq sc raw 3 (a+1)).2).2<raw.length
    ·have:=r3 hc;omega
    ·obtain⟨e1,e2⟩:=p5 (by omega)
     have:=s2 e2;rw[e1];omega
   ·obtain⟨e1,e2⟩:=r5 (by omega)
    obtain⟨f1,f2⟩:=p5 (by omega);have:=s2 f2;have e3:tkN (Cs (t+1) (gs (Aq sc raw 3 (a+1)).2).1)=0:=by rw[e2];rfl
    omega
 split
 ·rename_i h910
  have hd:=hk (by omega) (by omega);have hl:=hl.resolve_left (by omega);obtain⟨⟨q1,q2,q3,q4⟩,_⟩:=x3 _ ha1;obtain⟨⟨r1,r2,r3,r4⟩,r5⟩:=hl (t+1) _ q2;dsimp only;rw[Hf _ _ _ (by simp [Ce])];dsimp only;have es:∀(x:Ex) (A:List St),tkN (Ec t (.mk 4 [] [x] A []))=5+tkE x+tkN (Cs (t+1) A):=by
   intro x A;rw[stp4,Ca,Ca,Ka,Ka,Ff,Qf,Ff,Ca];show(tkE x+2+1+1)+(_+1)=_;omega
  rw[es];refine⟨by omega,r2,fun hl=>?_,?_⟩
  ·have:=r3 hl;have:=q3 (by omega);omega
  ·by_cases hb:(Aq sc raw 3 (a+1)).2<raw.length
   ·have:=q3 hb;omega
   ·obtain⟨e1,e2⟩:=r5 (by omega);rw[e1,e2,show tkN (Cs (t+1) [])=0 from rfl];omega
 split
 ·obtain⟨n1,n2,n3,_⟩:=Gn raw (a+1) 2 ha
  obtain⟨m1,m2,m3,_⟩:=Gn raw (Ac raw (a+1) 2).2 2 n2;dsimp only;split
  ·rw[Hf _ _ _ (by simp [Ce])]
   dsimp only;rw[stp5,Ka];refine⟨by omega,m2,fun hl=>?_,?_⟩<;>(show 2+_≤_;omega)
  ·rw[Hf _ _ _ (by simp [Ce])]
   dsimp only;rw[stp6,Ka];refine⟨by omega,m2,fun hl=>?_,?_⟩<;>(show 2+_≤_;omega)
 ·obtain⟨b,hb,hb1,hb2⟩:∃b,(if k=6 then(Ac raw (a+1) 3).2 else if k=11∧(sc.loop||sc.free)=true then(Ac raw (a+1) 2).2 else a+1)=b∧a+1≤b∧b≤raw.length:=by
   refine⟨_,rfl,?_⟩;obtain⟨n1,n2,_⟩:=Gn raw (a+1) 3 ha;obtain⟨m1,m2,_⟩:=Gn raw (a+1) 2 ha;split
   ·exact⟨n1,n2⟩
   split
   ·exact⟨m1,m2⟩
   ·exact⟨Zc _,ha⟩
  dsimp only;rw[Fb _ _ _ (by simp [Ce]),hb];obtain⟨⟨q1,q2,q3,q4⟩,_⟩:=x4 _ hb2;dsimp only;rw[Zj,vR,Ka,Ff,Ff,Ca];unfold tkE at q3 q4;refine⟨by omega,q2,fun hl=>?_,?_⟩
  ·have:=q3 hl;show _+2+1+1+_≤_;omega
  ·show _+2+1+1+_≤_;omega
theorem Ta {N K t:Nat}{one:Nat→St ×Nat}(h1:∀a,a<N→a≤(one a).2∧(one a).2≤N∧((one a).2<N→tkN (Ec t (one a).1)+3*a≤3*(one a).2)∧tkN (Ec t (one a).1)+3*a≤K+3*(one a).2)(h2:∀a,a=N→(one a).2=a∧tkN (Ec t (one a).1)≤5):
  ∀c a,a≤N→a≤(Ek one c a).2∧(Ek one c a).2≤N∧((Ek one c a).2<N→tkN (Cs t (Ek one c a).1)+3*a≤3*(Ek one c a).2)∧tkN (Cs t (Ek one c a).1)+3*a≤K+5*c+3*(Ek one c a).2
 |0,a,h=>⟨Zc _,h,fun _=>by rw[Ek];show 0+_≤_;omega,by rw[Ek];show 0+_≤_;omega⟩
 |c+1,a,h=>by
  obtain⟨q1,q2,q3,q4⟩:=Ta h1 h2 c a h;rw[Ek];dsimp only;rw[Uk]
  by_cases hb:(Ek one c a).2<N
  ·obtain⟨r1,r2,r3,r4⟩:=h1 _ hb
   have:=q3 hb;exact⟨by omega,r2,fun hl=>by have:=r3 hl;omega,by omega⟩
  ·obtain⟨r1,r2⟩:=h2 _ (show(Ek one c a).2=N by omega)
   rw[r1];exact⟨by omega,q2,fun hl=>by omega,by omega⟩
theorem Qr(raw:List Int):∀(d:Nat) (sc:Sc),sc.Ok→Xv raw.length (84+24*d) (Di raw d sc)
 |0,sc,hs=>by
  intro t a ha;rw[Di];have h5:(Ac raw a 5).1.toNat≤4:=by have:=Ah raw a 5 (by decide);omega
  obtain⟨n1,n2,n3,n4⟩:=Gn raw a 5 ha;obtain⟨q1,q2,q3,q4⟩:=Ta (fun a ha=>mP hs raw (fun a=>([],a)) (fun a=>([],a)) 0 60 t (Zc _) (.inl (by decide)) (.inl (by decide)) a ha) (fun a ha=>nN hs raw (fun a=>([],a)) (fun a=>([],a)) 0 a t ha) (Ac raw a 5).1.toNat _ n2;refine⟨⟨by omega,q2,fun hl=>by have:=q3 hl;have:=n3 (by omega);omega,by omega⟩,fun hl=>?_⟩;rw[n4 hl];exact⟨rfl,rfl⟩
 |d+1,sc,hs=>by
  intro t a ha;rw[Di];have h5:(Ac raw a 5).1.toNat≤4:=by have:=Ah raw a 5 (by decide);omega
  obtain⟨n1,n2,n3,n4⟩:=Gn raw a 5 ha;obtain⟨q1,q2,q3,q4⟩:=Ta (fun a ha=>mP hs raw (Di raw d sc) (Di raw d sc.inLoop) (d+1) (84+24*d) t (by omega) (.inr (Qr raw d sc hs)) (.inr (Qr raw d sc.inLoop hs.inLoop)) a ha) (fun a ha=>nN hs raw (Di raw d sc) (Di raw d sc.inLoop) (d+1) a t ha) (Ac raw a 5).1.toNat _ n2;refine⟨⟨by omega,q2,fun hl=>by have:=q3 hl;have:=n3 (by omega);omega,by omega⟩,fun hl=>?_⟩;rw[n4 hl];exact⟨rfl,rfl⟩
theorem Vq {α:Type}(f:α→List Pc)(n:Nat)(h:∀x,tkN (f x)≤n):∀l:List α,tkN (l.flatMap f)≤n*l.length
 |[]=>Zm _
 |x::l=>by
  have h1:=h x;have h2:=Vq f n h l;rw[Zi,Ca,Ze,Nat.mul_add];omega
theorem fu_tk(f:Fu)(hp:f.params.length≤6)(hl:f.locals.length≤5):tkN (Qb f)≤39+tkN (Cs 1 f.body):=by
 obtain⟨nm,ps,ls,bd⟩:=f;dsimp only at hp hl ⊢;have h1:tkN (Ho (ps.map Gb))≤3*ps.length:=by
  cases ps with
  |nil=>exact Zc _
  |cons x l=>
   have e:Ho ((x::l).map Gb)=Gb x++l.flatMap (fun y=>[sg [44],.g [32]]++Gb y):=by
    show Gb x++(l.map Gb).flatMap _=_;rw[Zv]
   have:=Vq (fun y=>[sg [44],.g [32]]++Gb y) 3 (fun _=>Zc _) l;rw[e,Ca,Ze];show 2+_≤_
   omega
 have h2:=Vq Qc 3 (fun x=>by show tkN (Dy 1 _)≤3;rw[Ka];exact Zc _) ls;show tkN (wd [105,110,116]:: .g [32]::nmp nm::sg [40]::(Ho (ps.map Gb)++([sg [41],.g [32],sg [123],.g [10]]++(ls.flatMap Qc++(Cs 1 bd++Dy 0 [sg [125]])))))≤_
 rw[Ff,Qf,Ff,Ff,Ca,Ca,Ca,Ca,Ka];show _+(2+(_+(_+1)))+1+1+1≤_
 omega
theorem Va(raw:List Int)(sc:Sc)(ha:∀x,x∈sc.arrays→Am x.name=true)(hf:∀x,x∈sc.funcs→Tc x):∀l a,(∀x,x∈l→Tc x)→a≤raw.length→
  a≤(Cd raw sc l a).2∧(Cd raw sc l a).2≤raw.length∧((Cd raw sc l a).2<raw.length→tkN ((Cd raw sc l a).1.flatMap Qb)+3*a≤39*l.length+3*(Cd raw sc l a).2)∧tkN ((Cd raw sc l a).1.flatMap Qb)+3*a≤39*l.length+180+3*(Cd raw sc l a).2∧(raw.length≤a→(Cd raw sc l a).2=a∧tkN ((Cd raw sc l a).1.flatMap Qb)≤39*l.length)
 |[],a,_,h=>⟨Zc _,h,fun _=>by show 0+_≤_;simp [Cd],by show 0+_≤_;simp [Cd],fun _=>⟨rfl,Zm _⟩⟩
 |f::l,a,hl,h=>by
  have hh:=hl f Za;have hL:∀x,x∈Cu.take (Ac raw a 6).1.toNat→Am x=true:=fun x hx=>Tp x (List.mem_of_mem_take hx)
  have hsc:Sc.Ok ⟨f.params++Cu.take (Ac raw a 6).1.toNat,sc.arrays,sc.funcs,sc.free,false⟩:=⟨fun x hx=>by
   rcases Zt.1 hx with hx|hx
   ·exact hh.2.2 x hx
   ·exact hL x hx,ha,fun x hx=>⟨(hf x hx).1,(hf x hx).2.1⟩⟩
  obtain⟨n1,n2,n3,n4⟩:=Gn raw a 6 h;obtain⟨⟨q1,q2,q3,q4⟩,q5⟩:=Qr raw 4 _ hsc 1 _ n2;have eb:(Me raw sc f a).2=(Di raw 4 ⟨f.params++Cu.take (Ac raw a 6).1.toNat,sc.arrays,sc.funcs,sc.free,false⟩ (Ac raw a 6).2).2:=rfl;have hfu:=fu_tk (Me raw sc f a).1 hh.2.1 (by show(Cu.take _).length≤5;rw[List.length_take];exact Nat.min_le_right _ _);have ebd:(Me raw sc f a).1.body=(Di raw 4 ⟨f.params++Cu.take (Ac raw a 6).1.toNat,sc.arrays,sc.funcs,sc.free,false⟩ (Ac raw a 6).2).1:=rfl;rw[ebd]at hfu;obtain⟨r1,r2,r3,r4,r5⟩:=Va raw sc ha hf l (Me raw sc f a).2 (fun x hx=>hl x (Zd _ hx)) (by rw[eb];exact q2);rw[Cd];dsimp only;rw[Zi,Ca,Ze,Nat.mul_add];rw[eb]at r1 r2 r3 r4 r5 ⊢;generalize Di raw 4 ⟨f.params++Cu.take (Ac raw a 6).1.toNat,sc.arrays,sc.funcs,sc.free,false⟩ (Ac raw a 6).2=b at*;refine⟨by omega,r2,fun hlt=>?_,?_,fun hge=>?_⟩
  ·have:=r3 hlt;have:=q3 (by omega);omega
  ·by_cases hb:b.2<raw.length
   ·have:=q3 hb;omega
   ·obtain⟨e1,e2⟩:=r5 (by omega);omega
  ·have n5:(Ac raw a 6).2=a:=by rw[n4 hge]
   obtain⟨e1,e2⟩:=q5 (by omega);obtain⟨f1,f2⟩:=r5 (by omega);rw[e2]at hfu;rw[show tkN (Cs 1 [])=0 from rfl]at hfu;exact⟨by omega,by omega⟩
theorem eZ(free:Bool)(raw:List Int):∀i a,(Gv free raw i a).1.length=i
 |0,a=>rfl
 |i+1,a=>by rw[Gv];simp [eZ free raw i]
theorem iQ(raw:List Int):∀i a,(Gr raw i a).1.length=i
 |0,a=>rfl
 |i+1,a=>by rw[Gr];simp [iQ raw i]
theorem jG(free:Bool)(raw:List Int):∀i a,a≤raw.length→a≤(Gv free raw i a).2∧(Gv free raw i a).2≤raw.length
 |0,a,h=>⟨Zc _,h⟩
 |i+1,a,h=>by
  rw[Gv];dsimp only;have h1:a≤(Rz free raw (i+1) a).2∧(Rz free raw (i+1) a).2≤raw.length:=by
   obtain⟨n1,n2,_⟩:=Gn raw a 4 h;unfold Rz;split
   ·obtain⟨m1,m2,_⟩:=Ra (free:=true) (l:=[]) raw _ n2;exact⟨by omega,m2⟩
   ·exact⟨n1,n2⟩
  obtain⟨q1,q2⟩:=jG free raw i _ h1.2;exact⟨by omega,q2⟩
theorem iH(raw:List Int):∀i a,a≤raw.length→a≤(Gr raw i a).2∧(Gr raw i a).2≤raw.length
 |0,a,h=>⟨Zc _,h⟩
 |i+1,a,h=>by
  rw[Gr];dsimp only;obtain⟨n1,n2,_⟩:=Gn raw a 7 h;obtain⟨q1,q2⟩:=iH raw i (dN raw (i+1) a).2 n2;exact⟨Zs n1 q1,q2⟩
theorem kP(raw0:List Int)(free:Bool):tkN (Jq (Kb raw0 free))≤1600:=by
 obtain⟨raw,hraw⟩:∃raw,raw0.take 400=raw:=⟨_,rfl⟩;have hlen:raw.length≤400:=by rw[←hraw,List.length_take];omega
 obtain⟨n1,n2,_⟩:=Gn raw 0 3 (Zm _);have a3:=Ah raw 0 3 (by decide);obtain⟨a1,a2⟩:=jG free raw (Ac raw 0 3).1.toNat _ n2;have hal:(Ei raw free).1.length≤2:=by show(Gv free raw _ _).1.length≤2;rw[eZ];omega
 have a2:(Ei raw free).2≤raw.length:=a2;obtain⟨m1,m2,_⟩:=Gn raw (Ei raw free).2 3 a2;have f3:=Ah raw (Ei raw free).2 3 (by decide);obtain⟨b1,b2⟩:=iH raw (Ac raw (Ei raw free).2 3).1.toNat _ m2;have hfl:(Fv raw free).funcs.length≤3:=by
  show(Ky::(Gr raw _ _).1).length≤3
  rw[Ze,iQ];omega
 have b2:(Mp raw (Ei raw free).2).2≤raw.length:=b2;obtain⟨c1,c2,c3,c4,c5⟩:=Va raw (Fv raw free) (fun x hx=>by
  have:=Lh raw free x hx;unfold Dk at this;exact((Zf _ _).mp this).1) (Fw raw free) (Fv raw free).funcs (Mp raw (Ei raw free).2).2 (Fw raw free) b2
 have h6:=Vq Yw 6 (fun x=>by show tkN (Dy 0 _)≤6;rw[Ka];exact Zc _) (Ei raw free).1;have e:Jq (Kb raw0 free)=(Ei raw free).1.flatMap Yw++(Cd raw (Fv raw free) (Fv raw free).funcs (Mp raw (Ei raw free).2).2).1.flatMap Qb:=by
  rw[←hraw];rfl
 rw[e,Ca];have h7:6*(Ei raw free).1.length≤12:=by omega
 have h8:39*(Fv raw free).funcs.length≤117:=by omega
 omega
def blG(k:Nat):Bs ×List (Bs ×Bs):=if k=0 then([32],[])else if k=1 then([10],[])else if k=2 then([9,9],[])else([32],[([47,47,32,120,59],[10])])
def blT(k:Nat):Bs:=Ao (blG k).1 (blG k).2
theorem cC {P:Bs ×List (Bs ×Bs)→Prop}(h0:P ([32],[]))(h1:P ([10],[]))(h2:P ([9,9],[]))(h3:P ([32],[([47,47,32,120,59],[10])]))(k:Nat):P (blG k):=by
 unfold blG;split
 ·exact h0
 split
 ·exact h1
 split
 ·exact h2
 ·exact h3
theorem xB(k:Nat):Oa (blG k).1 (blG k).2∧∃c t,(blG k).1=c::t:=by
 refine cC (P:=fun g=>Oa g.1 g.2∧∃c t,g.1=c::t) ?_ ?_ ?_ ?_ k
 ·exact⟨⟨by decide,fun p hp=>(by cases hp)⟩,_,_,rfl⟩
 ·exact⟨⟨by decide,fun p hp=>(by cases hp)⟩,_,_,rfl⟩
 ·exact⟨⟨by decide,fun p hp=>(by cases hp)⟩,_,_,rfl⟩
 ·refine⟨⟨by decide,fun p hp=>?_⟩,_,_,rfl⟩
  rw[Ya]at hp;subst hp;exact⟨⟨⟨_,rfl⟩,by decide,by decide+kernel,by decide+kernel⟩,by decide,_,rfl⟩
theorem blT_len(k:Nat):(blT k).length≤7:=by
 unfold blT;refine cC (P:=fun g=>(Ao g.1 g.2).length≤7) ?_ ?_ ?_ ?_ k<;>decide
def Jk(A:Nat→T3)(G:Nat→Nat)(j:Nat):Bs:=(Zh j).flatMap (fun i=>(A i).text++blT (G i))
theorem lB(A:Nat→T3)(G:Nat→Nat)(j:Nat):Jk A G (j+1)=Jk A G j++((A j).text++blT (G j)):=by
 unfold Jk;rw[List.range_succ,Zw];simp
def Tt(a b:T3):Bool:=(a.kind !=4 && b.kind !=4)||(a.kind==4 && b.kind==4)
def kV(A:Nat→T3)(i:Nat):List Pc:=if Tt (A i) (A (i+1))=true then [.g [32]]else []
def Wh(A:Nat→T3)(k m:Nat):List Pc:=(List.range' k m).flatMap (fun i=>.t (A i)::kV A i)
def Jh(A:Nat→T3)(j:Nat):Bs:=Az (Wh A 0 j)
theorem Wo(A:Nat→T3)(j:Nat):Jh A (j+1)=Jh A j++((A j).text++(if Tt (A j) (A (j+1))=true then [32]else [])):=by
 unfold Jh Wh;rw[List.range'_concat,Zw,Ap];congr 1
 simp only[Nat.zero_add,Nat.one_mul,Zi,List.flatMap_nil,List.append_nil];rw[Kv];unfold kV;split<;>rfl
theorem Ms(A:Nat→T3)(k m:Nat):Wh A k (m+1)=.t (A k)::(kV A k++Wh A (k+1) m):=by
 unfold Wh;rw[List.range'_succ,Zi];rfl
theorem mO(A:Nat→T3):∀m k,Gc (Wh A k m)=(List.range' k m).map A
 |0,k=>rfl
 |m+1,k=>by
  rw[Ms,List.range'_succ,Zp];show A k::Gc (kV A k++Wh A (k+1) m)=_
  rw[Hz,mO A m (k+1)];unfold kV;split<;>rfl
theorem nW(A:Nat→T3):∀m k,(∀i,i<k+m→Mi (A i))→Bd (Wh A k m)
 |0,k,h=>.nil
 |m+1,k,h=>by
  rw[Ms];refine .cons (h k (by omega)) (.app ?_ (nW A m (k+1) (fun i hi=>h i (by omega))));unfold kV;split
  ·exact .sp (by decide) .nil
  ·exact .nil
theorem tS {x:Bs}(h:Et x=true){k:Int}(hk:k≠4)(r:Bs):Lb k (x++r)=true:=by
 rcases Iw h with rfl|rfl|rfl|rfl|rfl|rfl|rfl|rfl|rfl|rfl|rfl|rfl|rfl|rfl|rfl|rfl|rfl|rfl|rfl|rfl|rfl|rfl|rfl|rfl|rfl|rfl|rfl<;>
  (unfold Lb;dsimp only[Zx];rw[if_neg hk];split<;>decide)
theorem tok_sep {a b:T3}(hb:Mi b)(hs:Tt a b=false)(r:Bs):Lb a.kind (b.text++r)=true:=by
 obtain⟨k,t,n⟩:=b;obtain⟨h1,h2,_⟩:=hb;dsimp only at h1 h2 ⊢;have hs:Tt a ⟨k,t,n⟩=false:=hs
 cases h1 with
 |name x hx hk c t hc hl ha=>
  have h4:a.kind=4:=by
   unfold Tt at hs;dsimp only at hs
   by_cases h:a.kind=4
   ·exact h
   ·exfalso;rw[show((1:Int) !=4)=true by decide,show(a.kind !=4)=true by simpa using h]at hs;cases hs
  rw[h4,hc];exact qW.head c _ (by unfold Uf;rw[hl];rfl)
 |word x hk c t hc hl ha=>
  have h4:a.kind=4:=by
   unfold Tt at hs;dsimp only at hs
   by_cases h:a.kind=4
   ·exact h
   ·exfalso;rw[show((2:Int) !=4)=true by decide,show(a.kind !=4)=true by simpa using h]at hs;cases hs
  rw[h4,hc];exact qW.head c _ (by unfold Uf;rw[hl];rfl)
 |num u hu hi c t hc hd=>
  have h4:a.kind=4:=by
   unfold Tt at hs;dsimp only at hs
   by_cases h:a.kind=4
   ·exact h
   ·exfalso;rw[show((3:Int) !=4)=true by decide,show(a.kind !=4)=true by simpa using h]at hs;cases hs
  rw[h4,hc];exact qW.head c _ (by unfold Uf;rw[hd];simp)
 |quote r x=>exact absurd rfl (h2 rfl _)
 |sign x hx c t hc h7 hn=>
  have h4:a.kind≠4:=by
   unfold Tt at hs;dsimp only at hs;intro h;rw[h]at hs;cases hs
  exact tS hx h4 r
theorem fS(A:Nat→T3):∀m k,(∀i,i<k+m→Mi (A i))→Fo Lb (Wh A k m) []
 |0,k,h=>trivial
 |m+1,k,h=>by
  rw[Ms];have ih:=fS A m (k+1) (fun i hi=>h i (by omega));unfold kV
  by_cases hs:Tt (A k) (A (k+1))=true
  ·rw[if_pos hs]
   exact⟨qW.soft _ 32 _ (by decide),ih⟩
  ·rw[if_neg hs]
   refine⟨?_,ih⟩;rw[Zj,List.append_nil]
   cases m with
   |zero=>exact qW.nil _
   |succ m=>
    rw[Ms,Kv];exact tok_sep (h (k+1) (by omega)) (by simpa using hs) _
theorem nR {α:Type}(f g:α→Bs)(n:Nat):∀l:List α,(∀x,x∈l→(f x).length≤(g x).length+n)→(l.flatMap f).length≤(l.flatMap g).length+n*l.length
 |[],_=>Zm _
 |x::l,h=>by
  have h1:=h x Za;have h2:=nR f g n l (fun y hy=>h y (Zd _ hy));rw[Zi,Zi,Zb,Zb,Ze,Nat.mul_add];omega
theorem Xe:∀(l:List Pc),((Gc l).flatMap (·.text)).length≤(Az l).length
 |[]=>Zc _
 |.g b::l=>by have:=Xe l;show((Gc l).flatMap (·.text)).length≤(b++Az l).length;rw[Zb];omega
 |.t x::l=>by have:=Xe l;show(x.text++(Gc l).flatMap (·.text)).length≤(x.text++Az l).length;rw[Zb,Zb];omega
theorem aX {p:Pr}{A:Nat→T3}{n:Nat}(hA:(Zh n).map A=Gc (Jq p)):((Zh n).flatMap (fun i=>(A i).text)).length≤(Du p).length:=by
 have:=Xe (Jq p);rw[aT,←hA,Zv]at this;exact this
theorem aQ {p:Pr}{A:Nat→T3}{G:Nat→Nat}{n:Nat}(hA:(Zh n).map A=Gc (Jq p)):∀j,j≤n→(Jk A G j).length≤(Du p).length+7*j:=fun j hj=>by
 have h1:=aX hA;have h2:=nR (fun i=>(A i).text++blT (G i)) (fun i=>(A i).text) 7 (Zh j) (fun i _=>by rw[Zb];have:=blT_len (G i);omega);rw[List.length_range]at h2;have h3:((Zh j).flatMap (fun i=>(A i).text)).length≤((Zh n).flatMap (fun i=>(A i).text)).length:=by
  obtain⟨d,rfl⟩:∃d,n=j+d:=⟨n-j,by omega⟩;rw[List.range_add,Zw,Zb];omega
 unfold Jk;omega
theorem bT {p:Pr}{A:Nat→T3}{n:Nat}(hA:(Zh n).map A=Gc (Jq p)):∀j,j≤n→(Jh A j).length≤(Du p).length+j:=by
 have h1:=aX hA;have h2:∀j,(Jh A j).length≤((Zh j).flatMap (fun i=>(A i).text)).length+j:=by
  intro j
  induction j with
  |zero=>exact Zc _
  |succ j ih=>
   rw[Wo,List.range_succ,Zw,Zb,Zb,Zb];have:(if Tt (A j) (A (j+1))=true then [32]else([]:Bs)).length≤1:=by split<;>simp
   simp only[Zi,List.flatMap_nil,List.append_nil];omega
 intro j hj;have h3:((Zh j).flatMap (fun i=>(A i).text)).length≤((Zh n).flatMap (fun i=>(A i).text)).length:=by
  obtain⟨d,rfl⟩:∃d,n=j+d:=⟨n-j,by omega⟩;rw[List.range_add,Zw,Zb];omega
 have:=h2 j;omega
theorem dS {p:Pr}{A:Nat→T3}{n:Nat}(hok:Bd (Jq p))(hA:(Zh n).map A=Gc (Jq p))(i:Nat)(hi:i<n):Mi (A i):=
 pcs_tok hok _ (by rw[←hA];exact List.mem_map.2 ⟨i,List.mem_range.2 hi,rfl⟩)
theorem blk_t {p:Pr}(hr:Eb p=true)(hn:∀g,g∈p.funcs→∀x,x∈g.body→Xt x)(hlen:(Du p).length≤5000)(A:Nat→T3)(G:Nat→Nat)(n:Nat)(hA:(Zh n).map A=Gc (Jq p))(hc:n≤1600)(w:World)(hl:Jj w):
  Calls Tryz.prog 14 #[.string (Aa (Jk A G n))] w (WhP w (p,0,0)):=by
 obtain⟨h1,h2⟩:=Lg hr;have hok:=eP hr hn;obtain⟨li,hli⟩:∃li:List It,(Zh n).map (fun i=>(⟨(A i).text,(A i).kind,(A i).num,(blG (G i)).1,(blG (G i)).2⟩:It))=li:=⟨_,rfl⟩;have hlit:Cx li=Jk A G n:=by rw[←hli];unfold Cx Jk;rw[Zv];rfl
 have hll:li.length=n:=by rw[←hli,List.length_map,List.length_range]
 have hii:∀i,i∈li→ItOk i∧I64 i.n:=by
  intro i hi;rw[←hli]at hi;obtain⟨k,hk,rfl⟩:=List.mem_map.1 hi;obtain⟨t1,t2,t3⟩:=dS hok hA k (List.mem_range.1 hk);exact⟨⟨t1,(xB (G k)).1,(xB (G k)).2⟩,t3⟩
 have ht3:∀line,(Sp line li).map t3=Gc (Jq p):=by
  have key:∀(l:List It) line,(Sp line l).map t3=l.map (fun i=>⟨i.k,i.x,i.n⟩):=by
   intro l
   induction l with
   |nil=>intro line;rfl
   |cons i l ih=>intro line;rw[Sp,Zp,Zp,ih];rfl
  intro line;rw[key,←hA,←hli,List.map_map];rfl
 have hb:=aQ (G:=G) hA n (Zc _);have hu:(⟨5,[],0,pL (1+Co (Ao [] [])) li⟩:Tk).kind=5:=rfl;obtain⟨f0,hf⟩:=Wv h2 (ht3 (1+Co (Ao [] []))) hu;have e0:Ao [] []++Cx li=Jk A G n:=by rw[←hlit];rfl
 have hx:=Qa [] [] My li (Oi.of [] li (fun i hi=>(hii i hi).1)) (fun i hi=>(hii i hi).2) (by rw[e0];omega) (by omega) (f0+4*(li.length+1)+4) (by omega) w hl;rw[e0]at hx;have e1:Fm (f0+4*(li.length+1)+4) ⟨[],[]⟩ (Dw (1+Co (Ao [] [])) li)=.ok (p,[⟨5,[],0,pL (1+Co (Ao [] [])) li⟩]):=hf _ (by omega);rw[e1,aS hr rfl]at hx;exact hx
theorem blk_u {p:Pr}(hr:Eb p=true)(hn:∀g,g∈p.funcs→∀x,x∈g.body→Xt x)(hlen:(Du p).length≤5000)(A:Nat→T3)(n:Nat)(hA:(Zh n).map A=Gc (Jq p))(hc:n≤1600)(w:World)(hl:Jj w):
  Calls Tryz.prog 14 #[.string (Aa (Jh A n))] w (WhP w (p,0,0)):=by
 obtain⟨h1,h2⟩:=Lg hr;have hok:=eP hr hn;have hul:=bT hA n (Zc _);have hg:Do (Wh A 0 n)=[]:=by
  cases n with
  |zero=>rfl
  |succ n=>rw[Ms];rfl
 refine(oB (Wh A 0 n) (nW A n 0 (fun i hi=>dS hok hA i (by omega))) (fS A n 0 (fun i hi=>dS hok hA i (by omega))) (by show(Jh A n).length≤_;omega) (by rw[hg];exact My) (fun r=>r=(p,0,0)) ?_ w hl).mono ?_
 ·intro T u hT hu hx
  rw[mO,←List.range_eq_range',hA]at hT;exact⟨.ok (p,[u]),Wv h2 hT hu,aS hr hu⟩
 ·rintro r w' ⟨R,rfl,hp⟩;exact hp
end Go.Proofs.YtcfpfnoldgnloaaGreatDoor

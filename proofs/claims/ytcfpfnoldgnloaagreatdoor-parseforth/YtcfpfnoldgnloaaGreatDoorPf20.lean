/-
  awake's walk; pick. Condition: the library's tables lie in memory.
-/
import Derived.Test.YtcfpfnoldgnloaaGreatDoorPf19
import Derived.Test.YtcfpfnoldgnloaaGreatDoorPf09
import Derived.Test.YtcfpfnoldgnloaaGreatDoorPf11
set_option linter.unusedVariables false
set_option linter.unusedSimpArgs false
namespace Go.Proofs.YtcfpfnoldgnloaaGreatDoor
open Go.RowKit Go.Proofs.Tryz
set_option maxHeartbeats 20000000
set_option maxRecDepth 100000
open List renaming mem_cons_self→Za,length_append→Zb,mem_cons_of_mem→Zc,length_cons→Zd,length_nil→Zj,append_assoc→Zk,all_eq_true→Zl,mem_cons→Zn,flatMap_cons→Zo,cons_append→Zq,mem_singleton→Zr,getElem?_eq_getElem→Zs,flatten_cons→Zt,flatten_nil→Zu
open Go.Lib renaming hid→Ze,nDigits→Zm
open Bool renaming and_eq_true→Zf
open Go.Proofs.Tryz renaming prog→Zg
open Fx renaming app→Zh
open Nat renaming le_refl→Zi,zero_le→Zp
def Dy:List Pc→Bs
 |.g b::l=>b++Dy l
 |_=>[]
def Iq:List Pc→List It
 |[]=>[]
 |.g _::l=>Iq l
 |.t x::l=>⟨x.text,x.kind,x.num,Dy l,[]⟩::Iq l
theorem Ry:∀l:List Pc,Dy l++Dv (Iq l)=Be l
 |[]=>rfl
 |.g b::l=>by
  show(b++Dy l)++Dv (Iq l)=b++Be l
  rw[Zk,Ry l]
 |.t x::l=>by
  show []++Dv (_::Iq l)=x.text++Be l
  rw[Ue,List.nil_append];show x.text++(Aw (Dy l) []++Dv (Iq l))=_
  rw[show Aw (Dy l) []=Dy l by unfold Aw;simp,Ry l]
theorem dC:∀(l:List Pc) (line:Nat),(Yx line (Iq l)).map t3=Ls l
 |[],line=>rfl
 |.g b::l,line=>dC l line
 |.t x::l,line=>by
  show(⟨x.kind,x.text,x.num,line⟩:Tk)|>fun t=>t3 t::(Yx _ (Iq l)).map t3=x::Ls l
  rw[dC l];rfl
def Rf(x:T3):Prop:=Ma x.text x.kind x.num∧(x.kind=3→∀r,x.text≠39::r)∧I64 x.num
def Bg(l:List Pc):Prop:= ∀p,p∈l→match p with|.t x=>Rf x|.g b=> ∀c,c∈b→Bh c=true
theorem Qa:∀(l:List Pc),Bg l→∀c,c∈Dy l→Bh c=true
 |[],h,c,hc=>by cases hc
 |.t x::l,h,c,hc=>by cases hc
 |.g b::l,h,c,hc=>by
  rcases List.mem_append.1 (show c∈b++Dy l from hc)with hc|hc
  ·exact h (.g b) Za c hc
  ·exact Qa l (fun p hp=>h p (Zc _ hp)) c hc
theorem lM(z:Bs):∀(l:List Pc),Bg l→Fx Oe l z→Xh z (Iq l)∧∀i,i∈Iq l→I64 i.n
 |[],h,hs=>⟨trivial,fun i hi=>by cases hi⟩
 |.g b::l,h,hs=>lM z l (fun p hp=>h p (Zc _ hp)) hs
 |.t x::l,h,hs=>by
  have hl:Bg l:=fun p hp=>h p (Zc _ hp)
  obtain⟨i1,i2⟩:=lM z l hl hs.2;obtain⟨h1,h2,h3⟩:Rf x:=h (.t x) Za;have hg:Aw (Dy l) []=Dy l:=by unfold Aw;simp
  refine⟨⟨eJ h1 h2 ?_,⟨Qa l hl,fun p hp=>by cases hp⟩,i1⟩,fun i hi=>?_⟩
  ·show Oe x.kind (Aw (Dy l) []++(Dv (Iq l)++z))=true
   rw[hg,←Zk,Ry];exact hs.1
  ·rcases Zn.1 hi with rfl|hi
   ·exact h3
   ·exact i2 i hi
theorem Te {c:UInt8}{r:Bs}(h7:c.toNat<128)(h:c≠61∧c≠60∧c≠62∧c≠47):Oe 4 (c::r)=true:=by
 obtain⟨h1,h2,h3,h4⟩:=h;simp [Oe,h7,h1,h2,h3,h4]
theorem sepR:Od Oe:=by
 refine⟨fun k=>rfl,fun k c r h=>?_,fun c r h=>?_,fun k r h=>?_⟩
 ·have hc:c=32∨c=41∨c=93∨c=44∨c=59∨c=10:=by simpa [gA,or_assoc]using h
  by_cases h4:k=4
  ·subst h4;rcases hc with rfl|rfl|rfl|rfl|rfl|rfl<;>exact Te (by decide) (by decide)
  ·by_cases h3:k=3
   ·subst h3;rcases hc with rfl|rfl|rfl|rfl|rfl|rfl<;>(unfold Oe;dsimp only;rw[if_neg (by decide),if_pos rfl];decide)
   ·unfold Oe
    rcases hc with rfl|rfl|rfl|rfl|rfl|rfl<;>(dsimp only;rw[if_neg h4,if_neg h3];decide)
 ·unfold fN at h
  by_cases hl:Cd c=true
  ·have:=Pv hl
   exact Te (bJ hl) ⟨by rintro rfl;exact absurd this (by decide),by rintro rfl;exact absurd this (by decide),by rintro rfl;exact absurd this (by decide),by rintro rfl;exact absurd this (by decide)⟩
  ·by_cases hd:Bu c=true
   ·have h1:=iN hd
    have h2:=Wg hd;exact Te h2 ⟨by rintro rfl;exact absurd hd (by decide),by rintro rfl;exact absurd hd (by decide),by rintro rfl;exact absurd hd (by decide),by rintro rfl;exact absurd hd (by decide)⟩
   ·have hc:c=40∨c=45∨c=33∨c=126:=by simpa [hl,hd,or_assoc]using h
    rcases hc with rfl|rfl|rfl|rfl<;>exact Te (by decide) (by decide)
 ·by_cases h4:k=4
  ·subst h4;exact⟨Te (by decide) (by decide),Te (by decide) (by decide)⟩
  ·refine⟨?_,?_⟩<;>(unfold Oe;dsimp only;rw[if_neg h4,if_neg h];decide)
theorem digL:Yw:=fun u=>⟨Lm u,Tf u⟩
theorem cW(u:Nat)(h:u<10000000000000000000):Zm u≤19:=by
 by_cases h0:u<10
 ·rw[Zm,dif_pos h0];decide
 ·have step:∀(n u:Nat),(¬u<10→Zm (u / 10)≤n)→Zm u≤n+1:=fun n u h=>by
   rw[Zm];split
   ·omega
   ·rename_i hh;have:=h hh;omega
  have pw:∀(n u:Nat),u<10 ^ (n+1)→Zm u≤n+1:=by
   intro n
   induction n with
   |zero=>intro u hu;rw[Zm,dif_pos (by omega)];omega
   |succ n ih=>intro u hu;exact step (n+1) u (fun _=>ih (u / 10) (by rw[Nat.pow_succ]at hu;omega))
  exact pw 18 u (by omega)
theorem tI {n:Int}(h0:0≤n)(h1:I64 n):Rf ⟨3,Lib.itoa n,n⟩:=by
 have e:Lib.itoa n=Lib.decDigits n.toNat:=by unfold Lib.itoa;rw[if_neg (by omega)]
 have hu:(n.toNat:Int)=n:=by omega
 have hb:n.toNat≤9223372036854775807:=by have:=h1.2;omega
 refine⟨?_,fun _ r hr=>?_,h1⟩
 ·show Ma (Lib.itoa n) 3 n
  rw[e];rcases hq:Lib.decDigits n.toNat with _|⟨c,t⟩
  ·exact absurd hq (Tf _)
  ·have hlen:(Lib.decDigits n.toNat).length≤19:=by
    rw[Lib.decDigits_length];exact cW _ (by omega)
   have:=Ma.num n.toNat hlen hb c t hq (Lm _ c (by rw[hq];exact Za));rw[hu]at this;rw[←hq];exact this
 ·have hr:Lib.itoa n=39::r:=hr
  rw[e]at hr;have:=Lm n.toNat 39 (by rw[hr];exact Za);exact absurd this (by decide)
theorem Xt:∀(f:Bool) (x:Bs),Ha f x=true→∀c,c∈x→c.toNat<128∧Sk (c.toNat:Nat)=true
 |_,[],_,c,hc=>by cases hc
 |f,d::l,h,c,hc=>by
  rw[Ha]at h;obtain⟨h1,h2⟩:=(Zf _ _).mp h;rcases Zn.1 hc with rfl|hc
  ·unfold Sk
   rw[Lt,Lr];rcases(Bool.or_eq_true _ _).mp h1 with h3|h3
   ·exact⟨bJ h3,by rw[h3];rfl⟩
   ·have h4:=((Zf _ _).mp h3).2
    exact⟨Wg h4,by rw[h4];simp⟩
  ·exact Xt false l h2 c hc
theorem Ve {s:Bs}(h:Am s=true):Rf ⟨1,s,0⟩:=by
 have h':=h;unfold Am at h';simp only[Zf]at h';obtain⟨⟨⟨h1,h2⟩,h3⟩,h4⟩:=h';refine⟨?_,fun e=>absurd (show(1:Int)=3 from e) (by decide),Ga⟩
 cases s with
 |nil=>exact absurd h1 (by decide)
 |cons c t=>
  have hl:Cd c=true:=by
   rw[Ha]at h4;have:=((Zf _ _).mp h4).1;simpa using this
  exact .name (c::t) h (by simpa using h3) c t rfl hl (Xt true _ h4)
theorem Iu {x:Bs}(h:Fj x=true):Rf ⟨4,x,0⟩:=⟨mT h,fun e=>absurd (show(4:Int)=3 from e) (by decide),Ga⟩
theorem nB {o:Int}(h:0<Al o∨o=17∨o=18∨o=19):Fj (Ao o)=true:=by
 rcases h with h|rfl|rfl|rfl
 ·obtain⟨i,rfl⟩:=Sh h
  exact(by decide:∀i:Fin 16,Fj (Ao ((i.val:Int)+1))=true) i
 ·decide
 ·decide
 ·decide
inductive N64:Ex→Prop
 |mk (k o n:Int) (nm:Bs) (args:List Ex) (h:I64 n) (ha:∀x,x∈args→N64 x):N64 (.mk k o n nm args)
theorem Bg.app {a b:List Pc}(h1:Bg a)(h2:Bg b):Bg (a++b):=fun p hp=>by
 rcases List.mem_append.1 hp with h|h
 ·exact h1 p h
 ·exact h2 p h
theorem Bg.cons {p:Pc}{l:List Pc}(h1:match p with|.t x=>Rf x|.g b=> ∀c,c∈b→Bh c=true)(h2:Bg l):Bg (p::l):=fun q hq=>by
 rcases Zn.1 hq with rfl|h
 ·exact h1
 ·exact h2 q h
theorem Bg.nil:Bg []:=fun p hp=>by cases hp
theorem cD {e:Ex}{lv:Int}(h:Bg (Cs e)):Bg (Dt e lv):=by
 unfold Dt Hw;split
 ·exact Bg.app (Bg.app (Bg.cons (Iu (by decide)) Bg.nil) h) (Bg.cons (Iu (by decide)) Bg.nil)
 ·exact h
theorem Lj {e:Ex}(h:WEx e)(hn:N64 e):Bg (Cs e):=by
 induction h with
 |num n h=>cases hn with|mk _ _ _ _ _ h1 ha=>rw[Ya];exact Bg.cons (tI h h1) Bg.nil
 |var s h=>rw[Wa];exact Bg.cons (Ve h) Bg.nil
 |one o x ho hx ih=>cases hn with|mk _ _ _ _ _ h1 ha=>rw[Yj];exact Bg.cons (Iu (nB (.inr ho))) (cD (ih (ha x Za)))
 |two o x y ho hx hy ihx ihy=>
  cases hn with
  |mk _ _ _ _ _ h1 ha=>
   rw[Wf];refine Bg.app (cD (ihx (ha x Za))) (Bg.cons (by show ∀c,c∈[32]→_;decide) (Bg.cons (Iu (nB (.inl ho))) (Bg.cons (by show ∀c,c∈[32]→_;decide) (cD (ihy (ha y (by simp)))))))
 |call s l h hl hx ih=>
  cases hn with
  |mk _ _ _ _ _ h1 ha=>
   rw[Nw];refine Bg.cons (Ve h) (Bg.cons (Iu (by decide)) (Bg.app ?_ (Bg.cons (Iu (by decide)) Bg.nil)));have hm:∀(l:List Ex),(∀x,x∈l→Bg (Cs x))→Bg (l.flatMap (fun y=>[sg [44],.g [32]]++Cs y)):=by
    intro l hl p hp;obtain⟨y,hy,hp⟩:=List.mem_flatMap.1 hp;exact Bg.app (Bg.cons (Iu (by decide)) (Bg.cons (by show ∀c,c∈[32]→_;decide) Bg.nil)) (hl y hy) p hp
   cases l with
   |nil=>exact Bg.nil
   |cons x l=>
    rw[Oz];exact Bg.app (ih x Za (ha x Za)) (hm l (fun y hy=>ih y (Zc _ hy) (ha y (Zc _ hy))))
 |idx s x h hx ih=>
  cases hn with
  |mk _ _ _ _ _ h1 ha=>rw[Wl];exact Bg.cons (Ve h) (Bg.cons (Iu (by decide)) (Bg.app (ih (ha x Za)) (Bg.cons (Iu (by decide)) Bg.nil)))
 |read=>rw[Wc];exact Bg.cons ⟨dB (by decide) (by decide),fun e=>absurd (show(2:Int)=3 from e) (by decide),Ga⟩ (Bg.cons (Iu (by decide)) (Bg.cons (Iu (by decide)) Bg.nil))
theorem Ag.n64 {D:Nat→Prop}{w:World}{l:List Ex}{v:Value}(h:Ag D w l v):∀x,x∈l→N64 x:=by
 induction h with
 |mk l a cap b off sv hcap hfit ha h0 h1 h2 h3 h4 hs hn ih=>
  intro x hx;obtain⟨i,hi,rfl⟩:=List.getElem_of_mem hx;have e:Cb l i=l[i]:=by simp [Cb,Zs hi]
  have h1:=ih i hi;have h2:=hn i hi;rw[e]at h1 h2;generalize l[i]=y at h1 h2;obtain⟨k,o,n,nm,args⟩:=y;exact .mk k o n nm args h2 h1
theorem tok_ne {x:T3}(h:Rf x):x.text≠[]:=h.1.ne
theorem cY:∀l:List Pc,Bg l→(Iq l).length≤(Be l).length
 |[],h=>Zi _
 |.g b::l,h=>by
  have:=cY l (fun p hp=>h p (Zc _ hp));show(Iq l).length≤(b++Be l).length
  rw[Zb];omega
 |.t x::l,h=>by
  have:=cY l (fun p hp=>h p (Zc _ hp));have h1:x.text≠[]:=tok_ne (h (.t x) Za);have h2:0<x.text.length:=List.length_pos_iff.2 h1;show(Iq l).length+1≤(x.text++Be l).length
  rw[Zb];omega
theorem Jc {S:Int→Bs→Bool}{t:Nat}{l:List Pc}{z:Bs}(h:Fx S l (10::z)):Fx S (Er t l) z:=
 Zh (a:=[.g (Ke t)]++l) (b:=[.g [10]]) h trivial
theorem Gs {S:Int→Bs→Bool}(hS:Od S)(s:Bs)(c:UInt8)(z:Bs)(hc:gA c=true):Fx S [sg s] (c::z):=⟨hS.ofSoft (Gg hc) 4,trivial⟩
theorem So {S:Int→Bs→Bool}:∀(l:List St),(∀x,x∈l→∀t z,Fx S (Gn t x) z)→∀t z,Fx S (Fq t l) z
 |[],_,t,z=>trivial
 |x::l,h,t,z=>by
  rw[Fq];exact Zh (h x Za t _) (So l (fun y hy=>h y (Zc _ hy)) t z)
theorem Ox {S:Int→Bs→Bool}(hS:Od S)(hd:Yw){e:Ex}(h:WEx e)(l:List Pc)(z:Bs)(hz:Vs (Be l++z))(hl:Fx S l z):Fx S (Cs e++l) z:=Zh (ex_sep hS hd h _ hz) hl
theorem eS {S:Int→Bs→Bool}(hS:Od S)(hd:Yw){e:Ex}(h:WEx e)(w:Bs)(t:Nat)(z:Bs):Fx S (Er t (wd w:: .g [32]::sg [40]::(Cs e++[sg [41],.g [32],sg [123]]))) z:=by
 refine Jc ⟨hS.soft 2 32 _ (by decide),?_,Ox hS hd h _ _ (Gg (by decide)) ⟨hS.soft 4 32 _ (by decide),Gs hS _ 10 _ (by decide)⟩⟩;rw[As,Zk];exact hS.ofHead (Kp hd h).app
theorem st_sep {S:Int→Bs→Bool}(hS:Od S)(hd:Yw){x:St}(h:WSt x):∀t z,Fx S (Gn t x) z:=by
 induction h with
 |set s x h hx=>
  intro t z;rw[stp1];exact Jc ⟨hS.soft 1 32 _ (by decide),hS.soft 4 32 _ (by decide),Ox hS hd hx _ _ (Gg (by decide)) (Gs hS _ 10 _ (by decide))⟩
 |store s x y h hx hy=>
  intro t z;rw[stp2];refine Jc ⟨(hS.opens 1 _ (by decide)).2,?_,Ox hS hd hx _ _ (Gg (by decide)) ⟨hS.soft 4 32 _ (by decide),hS.soft 4 32 _ (by decide),Ox hS hd hy _ _ (Gg (by decide)) (Gs hS _ 10 _ (by decide))⟩⟩;rw[As,Zk];exact hS.ofHead (Kp hd hx).app
 |cond x a b hx ha hb iha ihb=>
  intro t z;rw[stp3];refine Zh (eS hS hd hx _ t _) (Zh (So a iha _ _) (Zh ?_ (Jc (Gs hS _ 10 _ (by decide)))))
  cases b with
  |nil=>exact trivial
  |cons y l=>
   rw[if_neg (by simp)];exact Zh (Jc ⟨hS.soft 4 32 _ (by decide),hS.soft 2 32 _ (by decide),Gs hS _ 10 _ (by decide)⟩) (So (y::l) ihb _ _)
 |loop x a hx ha iha=>
  intro t z;rw[stp4];exact Zh (eS hS hd hx _ t _) (Zh (So a iha _ _) (Jc (Gs hS _ 10 _ (by decide))))
 |brk=>intro t z;rw[stp5];exact Jc ⟨hS.soft 2 59 _ (by decide),Gs hS _ 10 _ (by decide)⟩
 |cont=>intro t z;rw[stp6];exact Jc ⟨hS.soft 2 59 _ (by decide),Gs hS _ 10 _ (by decide)⟩
 |ret x hx=>
  intro t z;rw[stp7];exact Jc ⟨hS.soft 2 32 _ (by decide),Ox hS hd hx _ _ (Gg (by decide)) (Gs hS _ 10 _ (by decide))⟩
 |print x hx=>
  intro t z;rw[stp8];refine Jc ⟨(hS.opens 2 _ (by decide)).1,?_,Ox hS hd hx _ _ (Gg (by decide)) ⟨hS.soft 4 59 _ (by decide),Gs hS _ 10 _ (by decide)⟩⟩;rw[As,Zk];exact hS.ofHead (Kp hd hx).app
 |trap x hx=>
  intro t z;rw[stp9];refine Jc ⟨(hS.opens 2 _ (by decide)).1,?_,Ox hS hd hx _ _ (Gg (by decide)) ⟨hS.soft 4 59 _ (by decide),Gs hS _ 10 _ (by decide)⟩⟩;rw[As,Zk];exact hS.ofHead (Kp hd hx).app
 |call s l hx=>
  intro t z;have e:Gn t (.mk 10 [] [.mk 5 0 0 s l] [] [])=Er t (Cs (.mk 5 0 0 s l)++[sg [59]]):=by rw[sL,Nw];simp only[Zk,Zq,List.nil_append]
  rw[e];exact Jc (Ox hS hd hx _ _ (Gg (by decide)) (Gs hS _ 10 _ (by decide)))
theorem rA {S:Int→Bs→Bool}(hS:Od S)(x:Bs)(z:Bs)(hz:Vs z):Fx S (Hp x) z:=⟨hS.soft 2 32 _ (by decide),hS.ofSoft hz 1,trivial⟩
theorem mV {S:Int→Bs→Bool}(hS:Od S)(z:Bs)(hz:Vs z):∀(l:List Bs),Fx S (l.flatMap (fun y=>[sg [44],.g [32]]++Hp y)) z∧Vs (Be (l.flatMap (fun y=>[sg [44],.g [32]]++Hp y))++z)
 |[]=>⟨trivial,hz⟩
 |y::l=>by
  obtain⟨h1,h2⟩:=mV hS z hz l;rw[Zo];exact⟨Zh (a:=[sg [44],.g [32]]++Hp y) ⟨hS.soft 4 32 _ (by decide),rA hS y _ h2⟩ h1,Gg (by decide)⟩
theorem sQ {S:Int→Bs→Bool}(hS:Od S):∀(l:List Bs) (z:Bs),Fx S (l.flatMap Rk) z
 |[],z=>trivial
 |y::l,z=>by
  rw[Zo];exact Zh (Jc ⟨hS.soft 2 32 _ (by decide),hS.soft 1 59 _ (by decide),Gs hS _ 10 _ (by decide)⟩) (sQ hS l z)
theorem fu_sep {S:Int→Bs→Bool}(hS:Od S)(hd:Yw){g:Fu}(hg:WFu g)(z:Bs):Fx S (Wr g) z:=by
 obtain⟨nm,ps,ls,bd⟩:=g;obtain⟨_,_,_,hb⟩:=hg;dsimp only at hb;have hbd:Fx S ([sg [41],.g [32],sg [123],.g [10]]++(ls.flatMap Rk++(Fq 1 bd++Er 0 [sg [125]]))) z:=
  ⟨hS.soft 4 32 _ (by decide),hS.soft 4 10 _ (by decide),(show Fx S (ls.flatMap Rk++(Fq 1 bd++Er 0 [sg [125]])) z from Zh (sQ hS ls _) (Zh (So bd (fun x hx=>st_sep hS hd (hb x hx)) _ _) (Jc (Gs hS _ 10 _ (by decide)))))⟩
 refine⟨hS.soft 2 32 _ (by decide),(hS.opens 1 _ (by decide)).1,?_,?_⟩
 ·cases ps with
  |nil=>exact hS.soft 4 41 _ (by decide)
  |cons x l=>exact hS.head 105 _ (by decide)
 ·show Fx S (Jt (ps.map Hp)++([sg [41],.g [32],sg [123],.g [10]]++(ls.flatMap Rk++(Fq 1 bd++Er 0 [sg [125]])))) z
  refine Zh ?_ hbd
  cases ps with
  |nil=>exact trivial
  |cons x l=>
   have e:Jt ((x::l).map Hp)=Hp x++l.flatMap (fun y=>[sg [44],.g [32]]++Hp y):=by
    show Hp x++(l.map Hp).flatMap _=_;rw[List.flatMap_map]
   rw[e];obtain⟨h1,h2⟩:=mV hS (Be ([sg [41],.g [32],sg [123],.g [10]]++(ls.flatMap Rk++(Fq 1 bd++Er 0 [sg [125]])))++z) (Gg (by decide)) l;exact Zh (rA hS x _ h2) h1
theorem ar_sep {S:Int→Bs→Bool}(hS:Od S)(hd:Yw){a:Ar}(ha:0≤a.size)(z:Bs):Fx S (gV a) z:=by
 refine Jc ⟨hS.soft 2 32 _ (by decide),(hS.opens 1 _ (by decide)).2,?_,hS.soft 3 93 _ (by decide),hS.soft 4 59 _ (by decide),Gs hS _ 10 _ (by decide)⟩;exact hS.ofHead (Ob.app (show Ob (Be [nu a.size,sg [93],sg [59]])from by rw[Om];exact(gE ha hd).app))
theorem kG {S:Int→Bs→Bool}(hS:Od S)(hd:Yw):∀(m:List Ar) (l:List Fu) (z:Bs),(∀a,a∈m→0≤a.size)→(∀x,x∈l→WFu x)→Fx S (m.flatMap gV++l.flatMap Wr) z
 |[],[],z,_,_=>trivial
 |[],g::l,z,h1,h2=>by
  show Fx S ((g::l).flatMap Wr) z
  rw[Zo];exact Zh (fu_sep hS hd (h2 g Za) _) (kG hS hd [] l z h1 (fun x hx=>h2 x (Zc _ hx)))
 |a::m,l,z,h1,h2=>by
  rw[Zo,Zk];exact Zh (ar_sep hS hd (h1 a Za) _) (kG hS hd m l z (fun x hx=>h1 x (Zc _ hx)) h2)
inductive Vb:St→Prop
 |mk (k:Int) (nm:Bs) (args:List Ex) (thn els:List St) (ha:∀x,x∈args→N64 x) (ht:∀y,y∈thn→Vb y) (he:∀y,y∈els→Vb y):Vb (.mk k nm args thn els)
theorem jF {b:Bs}(h:b.all Bh=true):match Pc.g b with|.t x=>Rf x|.g b=> ∀c,c∈b→Bh c=true:=fun c hc=>Zl.1 h c hc
theorem word_ok {x:Bs}(h1:Hn x=true)(h2:Ni x=true):Rf ⟨2,x,0⟩:=⟨dB h1 h2,fun e=>absurd (show(2:Int)=3 from e) (by decide),Ga⟩
theorem jK(t:Nat):(Ke t).all Bh=true:=by
 unfold Ke;rw[Zl];intro c hc;rw[List.eq_of_mem_replicate hc];rfl
theorem Mb {t:Nat}{l:List Pc}(h:Bg l):Bg (Er t l):=Bg.app (Bg.app (Bg.cons (jF (jK t)) Bg.nil) h) (Bg.cons (jF (by decide)) Bg.nil)
theorem Bg.sg {s:Bs}{l:List Pc}(h:Fj s=true)(hl:Bg l):Bg (sg s::l):=Bg.cons (Iu h) hl
theorem Bg.wd {s:Bs}{l:List Pc}(h:(Hn s && Ni s)=true)(hl:Bg l):Bg (wd s::l):=Bg.cons (word_ok ((Zf _ _).mp h).1 ((Zf _ _).mp h).2) hl
theorem Bg.nm {s:Bs}{l:List Pc}(h:Am s=true)(hl:Bg l):Bg (nmp s::l):=Bg.cons (Ve h) hl
theorem Bg.sp {b:Bs}{l:List Pc}(h:b.all Bh=true)(hl:Bg l):Bg (.g b::l):=Bg.cons (jF h) hl
theorem Oj:∀(l:List St),(∀x,x∈l→∀t,Bg (Gn t x))→∀t,Bg (Fq t l)
 |[],_,t=>Bg.nil
 |x::l,h,t=>by
  rw[Fq];exact Bg.app (h x Za t) (Oj l (fun y hy=>h y (Zc _ hy)) t)
theorem bL {e:Ex}(h:Bg (Cs e)){w:Bs}(hw:(Hn w && Ni w)=true)(t:Nat):Bg (Er t (wd w:: .g [32]::sg [40]::(Cs e++[sg [41],.g [32],sg [123]]))):=
 Mb (.wd hw (.sp (by decide) (.sg (by decide) (.app h (.sg (by decide) (.sp (by decide) (.sg (by decide) .nil)))))))
theorem st_toks {x:St}(h:WSt x)(hn:Vb x):∀t,Bg (Gn t x):=by
 induction h with
 |set s x h hx=>
  cases hn with|mk _ _ _ _ _ ha ht he=>
  intro t;rw[stp1];exact Mb (.nm h (.sp (by decide) (.sg (by decide) (.sp (by decide) (.app (Lj hx (ha x Za)) (.sg (by decide) .nil))))))
 |store s x y h hx hy=>
  cases hn with|mk _ _ _ _ _ ha ht he=>
  intro t;rw[stp2];exact Mb (.nm h (.sg (by decide) (.app (Lj hx (ha x Za)) (.sg (by decide) (.sp (by decide) (.sg (by decide) (.sp (by decide) (.app (Lj hy (ha y (by simp))) (.sg (by decide) .nil)))))))))
 |cond x a b hx h1 h2 iha ihb=>
  cases hn with|mk _ _ _ _ _ ha ht he=>
  intro t;rw[stp3];refine .app (bL (Lj hx (ha x Za)) (by decide) t) (.app (Oj a (fun y hy=>iha y hy (ht y hy)) _) (.app ?_ (Mb (.sg (by decide) .nil))));split
  ·exact .nil
  ·exact .app (Mb (.sg (by decide) (.sp (by decide) (.wd (by decide) (.sp (by decide) (.sg (by decide) .nil)))))) (Oj b (fun y hy=>ihb y hy (he y hy)) _)
 |loop x a hx h1 iha=>
  cases hn with|mk _ _ _ _ _ ha ht he=>
  intro t;rw[stp4];exact .app (bL (Lj hx (ha x Za)) (by decide) t) (.app (Oj a (fun y hy=>iha y hy (ht y hy)) _) (Mb (.sg (by decide) .nil)))
 |brk=>intro t;rw[stp5];exact Mb (.wd (by decide) (.sg (by decide) .nil))
 |cont=>intro t;rw[stp6];exact Mb (.wd (by decide) (.sg (by decide) .nil))
 |ret x hx=>
  cases hn with|mk _ _ _ _ _ ha ht he=>
  intro t;rw[stp7];exact Mb (.wd (by decide) (.sp (by decide) (.app (Lj hx (ha x Za)) (.sg (by decide) .nil))))
 |print x hx=>
  cases hn with|mk _ _ _ _ _ ha ht he=>
  intro t;rw[stp8];exact Mb (.wd (by decide) (.sg (by decide) (.app (Lj hx (ha x Za)) (.sg (by decide) (.sg (by decide) .nil)))))
 |trap x hx=>
  cases hn with|mk _ _ _ _ _ ha ht he=>
  intro t;rw[stp9];exact Mb (.wd (by decide) (.sg (by decide) (.app (Lj hx (ha x Za)) (.sg (by decide) (.sg (by decide) .nil)))))
 |call s l hx=>
  cases hn with|mk _ _ _ _ _ ha ht he=>
  intro t;have e:Gn t (.mk 10 [] [.mk 5 0 0 s l] [] [])=Er t (Cs (.mk 5 0 0 s l)++[sg [59]]):=by rw[sL,Nw];simp only[Zk,Zq,List.nil_append]
  rw[e];exact Mb (.app (Lj hx (ha _ Za)) (.sg (by decide) .nil))
theorem Vl {α:Type}(f:α→List Pc)(l:List α)(h:∀x,x∈l→Bg (f x)):Bg (l.flatMap f):=fun p hp=>by
 obtain⟨x,hx,hp⟩:=List.mem_flatMap.1 hp;exact h x hx p hp
theorem pa_ok {x:Bs}(h:Am x=true):Bg (Hp x):=.wd (by decide) (.sp (by decide) (.nm h .nil))
theorem fu_toks {g:Fu}(hg:WFu g)(hn:∀x,x∈g.body→Vb x):Bg (Wr g):=by
 obtain⟨nm,ps,ls,bd⟩:=g;obtain⟨h1,h2,h3,hb⟩:=hg;dsimp only at h1 h2 h3 hb hn;have htail:Bg (ls.flatMap Rk++(Fq 1 bd++Er 0 [sg [125]])):=.app (Vl Rk ls fun x hx=>(show Bg (Er 1 [wd [105,110,116],.g [32],nmp x,sg [59]])from Mb (.wd (by decide) (.sp (by decide) (.nm (h3 x hx) (.sg (by decide) .nil)))))) (.app (Oj bd (fun y hy=>st_toks (hb y hy) (hn y hy)) _) (Mb (.sg (by decide) .nil)));have hps:Bg (Jt (ps.map Hp)):=by
  cases ps with
  |nil=>exact .nil
  |cons x l=>
   have e:Jt ((x::l).map Hp)=Hp x++l.flatMap (fun y=>[sg [44],.g [32]]++Hp y):=by
    show Hp x++(l.map Hp).flatMap _=_;rw[List.flatMap_map]
   rw[e];exact .app (pa_ok (h2 x Za)) (Vl _ _ fun y hy=>.sg (by decide) (.sp (by decide) (pa_ok (h2 y (Zc _ hy)))))
 show Bg (wd [105,110,116]:: .g [32]::nmp nm::sg [40]::(Jt (ps.map Hp)++(sg [41]:: .g [32]::sg [123]:: .g [10]::(ls.flatMap Rk++(Fq 1 bd++Er 0 [sg [125]])))))
 exact .wd (by decide) (.sp (by decide) (.nm h1 (.sg (by decide) (.app hps (.sg (by decide) (.sp (by decide) (.sg (by decide) (.sp (by decide) htail))))))))
theorem mE {a:Ar}(h:Dr a=true):Bg (gV a)∧0≤a.size:=by
 unfold Dr at h;obtain⟨h1,h2⟩:=(Zf _ _).mp h;have h2:=of_decide_eq_true h2;exact⟨Mb (.wd (by decide) (.sp (by decide) (.nm h1 (.sg (by decide) (.cons (tI (by omega) ⟨by omega,by omega⟩) (.sg (by decide) (.sg (by decide) .nil))))))),by omega⟩
theorem pr_gap:∀(m:List Ar) (l:List Fu),Dy (m.flatMap gV++l.flatMap Wr)=[]
 |[],[]=>rfl
 |[],g::l=>rfl
 |a::m,l=>rfl
theorem oT(l:List Pc)(hp:Bg l)(hs:Fx Oe l [])(hlen:(Be l).length≤20000)(hb:Qf (Dy l) [])(Q:Pr ×Int ×Int→Prop)
  (hz:∀(T:List Tk) (u:Tk),T.map t3=Ls l→u.kind=5→u.text=[]→∃z,Ev (fun f=>Di f ⟨[],[]⟩ (T++[u])) z∧Q (Mw (Qq z))) (w:World) (hl:Jk w):
  Calls Zg 14 #[.string (Aa (Be l))] w fun e w'=> ∃r,Q r∧WhP w r e w':=by
 obtain⟨i1,i2⟩:=lM [] l hp hs;have ht:=Ry l;obtain⟨z,⟨f0,hf⟩,hq⟩:=hz (Yx (1+Cx (Aw (Dy l) [])) (Iq l)) ⟨5,[],0,endL (1+Cx (Aw (Dy l) [])) (Iq l)⟩ (dC l _) rfl rfl;have hil:=cY l hp;have eg:Aw (Dy l) []=Dy l:=by unfold Aw;simp
 have e0:Aw (Dy l) []++Dv (Iq l)=Be l:=by rw[eg];exact ht
 have hx:=Sx (Dy l) [] hb (Iq l) i1 i2 (by rw[e0];exact hlen) (by omega) (f0+4*((Iq l).length+1)+4) (by omega) w hl;rw[e0]at hx;refine hx.mono ?_;intro e w' hp;have e1:Di (f0+4*((Iq l).length+1)+4) ⟨[],[]⟩ (Eg (1+Cx (Aw (Dy l) [])) (Iq l))=z:=hf _ (by omega);rw[e1]at hp;exact⟨_,hq,hp⟩
theorem pQ {p:Pr}{u:Tk}(hr:Df p=true)(hu:u.kind=5):Mw (Qq (.ok (p,[u])))=(p,0,0):=by
 have h1:Qq (.ok (p,[u]))=(p,0,0):=by show(if u.kind=5 then(p,(0:Int),(0:Int))else _)=_;rw[if_pos hu]
 rw[h1];show(if(0:Int)=0∧Df p=false then _ else(p,(0:Int),(0:Int)))=_
 rw[if_neg (by rintro⟨_,h2⟩;rw[hr]at h2;cases h2)]
theorem cG {p:Pr}(h:Df p=true):(∀a,a∈p.arrays→Dr a=true)∧∀x,x∈p.funcs→WFu x:=by
 unfold Df at h;simp only[Zf,Zl]at h;exact⟨h.1,fun x hx=>wfu_of (h.2 x hx)⟩
theorem pr_good {p:Pr}(hr:Df p=true)(hn:∀g,g∈p.funcs→∀x,x∈g.body→Vb x)(hlen:(Dn p).length≤20000)(w:World)(hl:Jk w):
  Calls Zg 14 #[.string (Aa (Dn p))] w (WhP w (p,0,0)):=by
 obtain⟨h1,h2⟩:=cG hr;have hg:Dy (tO p)=[]:=pr_gap _ _;rw[←qX]at hlen ⊢;refine(oT (tO p) (.app (Vl _ _ fun a ha=>(mE (h1 a ha)).1) (Vl _ _ fun x hx=>fu_toks (h2 x hx) (hn x hx))) (kG sepR digL p.arrays p.funcs [] (fun a ha=>(mE (h1 a ha)).2) h2) hlen (by rw[hg];exact Rl) (fun r=>r=(p,0,0)) ?_ w hl).mono ?_
 ·intro T u hT hu hx
  exact⟨.ok (p,[u]),mA h2 hT hu,pQ hr hu⟩
 ·rintro r w' ⟨R,rfl,hp⟩;exact hp
def Gf {α β:Type}(p:PR α)(k:α→List Tk→PR β):PR β:=match p with
 |.error e=>.error e
 |.ok (x,r)=>k x r
def orP {α:Type}(s:Bs)(l:List Tk)(p:List Tk→PR α)(q:PR α):PR α:=match Bn s l with
 |some r=>p r
 |none=>q
def Hb {α:Type}(s:Bs)(l:List Tk)(p:List Tk→PR α):PR α:=match Ap s l with
 |.error e=>.error e
 |.ok r=>p r
def RelZ {α:Type}(B Z:List Tk)(L:Int)(x:α)(rest:List Tk)(z:PR α):Prop:=
 (∃A,rest=A++B∧z=.ok (x,A++Z))∨z=.error L∨∃x',z=.ok (x',Z)
def FinZ {α:Type}(Z:List Tk)(L:Int)(z:PR α):Prop:=z=.error L∨∃x',z=.ok (x',Z)
def EvZ {α:Type}(Z:List Tk)(L:Int)(q:Nat→List Tk→PR α):Prop:= ∃z,Ev (fun g=>q g Z) z∧FinZ Z L z
def Tame {α:Type}(B Z:List Tk)(L:Int)(p:List Tk→PR α)(q:Nat→List Tk→PR α):Prop:=
 EvZ Z L q∧∀a A x rest,p (a::(A++B))=.ok (x,rest)→∃z,Ev (fun g=>q g (a::(A++Z))) z∧RelZ B Z L x rest z
structure ElseZ (L:Int)(e1 e2:Tk):Prop where
 k1:e1.kind=2
 t1:e1.text=[101,108,115,101]
 l1:e1.line=L
 k2:e2.kind=2
 t2:e2.text=[101,108,115,101]
 l2:e2.line=L
def headP(f:Nat)(l:List Tk):PR Ex:=match l with
 |[]=>.error 0
 |t::r=>if t.kind=3 then .ok (.mk 1 0 t.num [] [],r)else if t.kind=1 then Cz f t.text r else .error t.line
theorem sB(f:Nat)(lv:Int)(l:List Tk):Bc (f+1) lv l=Gf (Bk f l) (fun x r=>Ij f lv x r):=by rw[Bc];kernel_rfl
theorem vE(f:Nat)(l:List Tk):Bk (f+1) l=orP (Ao 17) l (fun r=>Gf (Bk f r) (fun x r=>.ok (.mk 3 17 0 [] [x],r))) (orP (Ao 18) l (fun r=>Gf (Bk f r) (fun x r=>.ok (.mk 3 18 0 [] [x],r))) (orP (Ao 19) l (fun r=>Gf (Bk f r) (fun x r=>.ok (.mk 3 19 0 [] [x],r)))
  (orP [40] l (fun r=>Gf (Bc f 1 r) (fun x r=>Hb [41] r (fun r=>.ok (x,r)))) (orP [114,101,97,100] l (fun r=>Hb [40] r (fun r=>Hb [41] r (fun r=>.ok (.mk 7 0 0 [] [],r)))) (headP f l))))):=by
 rw[Bk.eq_def];dsimp only;unfold Fe;unfold orP
 cases Bn (Ao 17) l with
 |some r=>kernel_rfl
 |none=>
  cases Bn (Ao 18) l with
  |some r=>kernel_rfl
  |none=>
   cases Bn (Ao 19) l with
   |some r=>kernel_rfl
   |none=>kernel_rfl
theorem vI(f:Nat)(s:Bs)(l:List Tk):Cz (f+1) s l=orP [40] l (fun r=>Gf (Fr f r) (fun a r=>.ok (.mk 5 0 0 s a,r))) (orP [91] l (fun r=>Gf (Bc f 1 r) (fun x r=>Hb [93] r (fun r=>.ok (.mk 6 0 0 s [x],r)))) (.ok (.mk 2 0 0 s [],l))):=by rw[Cz];kernel_rfl
theorem args_eq(f:Nat)(l:List Tk):Fr (f+1) l=orP [41] l (fun r=>.ok ([],r)) (Gz f [] l):=by rw[Fr];kernel_rfl
theorem more_eq(f:Nat)(a:List Ex)(l:List Tk):Gz (f+1) a l=Gf (Bc f 1 l) (fun x r=>orP [44] r (fun r=>Gz f (a++[x]) r) (Hb [41] r (fun r=>.ok (a++[x],r)))):=by rw[Gz];kernel_rfl
mutual
def Iy:Ex→Ex→Bool
 |.mk k o n nm us,.mk k' o' n' nm' bs=>k==k' && o==o' && n==n' && nm==nm' && Gy us bs
def Gy:List Ex→List Ex→Bool
 |[],[]=>true
 |x::l,y::m=>Iy x y && Gy l m
 |_,_=>false
end
mutual
theorem lR:∀a b:Ex,Iy a b=true↔a=b
 |.mk k o n nm us,.mk k' o' n' nm' bs=>by
  rw[Iy];simp only[Zf,beq_iff_eq,Pd us bs,Ex.mk.injEq];simp only[and_assoc]
theorem Pd:∀a b:List Ex,Gy a b=true↔a=b
 |[],[]=>by simp [Gy]
 |x::l,y::m=>by rw[Gy];simp [lR x y,Pd l m]
 |[],y::m=>by simp [Gy]
 |x::l,[]=>by simp [Gy]
end
mutual
def Gb:St→St→Bool
 |.mk k nm us t e,.mk k' nm' us' t' e'=>k==k' && nm==nm' && Gy us us' && Gt t t' && Gt e e'
def Gt:List St→List St→Bool
 |[],[]=>true
 |x::l,y::m=>Gb x y && Gt l m
 |_,_=>false
end
mutual
theorem jZ:∀a b:St,Gb a b=true↔a=b
 |.mk k nm us t e,.mk k' nm' us' t' e'=>by
  rw[Gb];simp only[Zf,beq_iff_eq,Pd us us',Mh t t',Mh e e',St.mk.injEq];simp only[and_assoc]
theorem Mh:∀a b:List St,Gt a b=true↔a=b
 |[],[]=>by simp [Gt]
 |x::l,y::m=>by rw[Gt];simp [jZ x y,Mh l m]
 |[],y::m=>by simp [Gt]
 |x::l,[]=>by simp [Gt]
end
def Ho:List Bs→List Bs→Bool
 |[],[]=>true
 |x::l,y::m=>x==y && Ho l m
 |_,_=>false
theorem Vt:∀a b:List Bs,Ho a b=true↔a=b
 |[],[]=>by simp [Ho]
 |x::l,y::m=>by rw[Ho];simp [Vt l m]
 |[],y::m=>by simp [Ho]
 |x::l,[]=>by simp [Ho]
def Jb(f g:Fu):Bool:=f.name==g.name && Ho f.params g.params && Ho f.locals g.locals && Gt f.body g.body
theorem lT(f g:Fu):Jb f g=true↔f=g:=by
 obtain⟨a,b,c,d⟩:=f;obtain⟨a',b',c',d'⟩:=g;unfold Jb;simp only[Zf,beq_iff_eq,Vt,Mh,Fu.mk.injEq];simp only[and_assoc]
def Jp:List Fu→List Fu→Bool
 |[],[]=>true
 |x::l,y::m=>Jb x y && Jp l m
 |_,_=>false
theorem Uo:∀a b:List Fu,Jp a b=true↔a=b
 |[],[]=>by simp [Jp]
 |x::l,y::m=>by rw[Jp];simp [lT x y,Uo l m]
 |[],y::m=>by simp [Jp]
 |x::l,[]=>by simp [Jp]
def Kz(a b:Ar):Bool:=a.name==b.name && a.size==b.size
theorem kQ(f g:Ar):Kz f g=true↔f=g:=by
 obtain⟨a,b⟩:=f;obtain⟨a',b'⟩:=g;unfold Kz;simp
def Hl:List Ar→List Ar→Bool
 |[],[]=>true
 |x::l,y::m=>Kz x y && Hl l m
 |_,_=>false
theorem Tx:∀a b:List Ar,Hl a b=true↔a=b
 |[],[]=>by simp [Hl]
 |x::l,y::m=>by rw[Hl];simp [kQ x y,Tx l m]
 |[],y::m=>by simp [Hl]
 |x::l,[]=>by simp [Hl]
def Yf(p q:Pr):Bool:=Hl p.arrays q.arrays && Jp p.funcs q.funcs
theorem lI(p q:Pr):Yf p q=true↔p=q:=by
 obtain⟨a,b⟩:=p;obtain⟨c,d⟩:=q;unfold Yf;simp [Tx,Uo]
def Cf {α:Type}(f:α→α→Bool):List α→List α→Bool
 |[],[]=>true
 |x::l,y::m=>f x y && Cf f l m
 |_,_=>false
theorem Ph:∀l m,Gy l m=Cf Iy l m
 |[],[]=>rfl
 |x::l,y::m=>by rw[Gy,Cf,Ph l m]
 |[],y::m=>by simp [Gy,Cf]
 |x::l,[]=>by simp [Gy,Cf]
theorem Me:∀l m,Gt l m=Cf Gb l m
 |[],[]=>rfl
 |x::l,y::m=>by rw[Gt,Cf,Me l m]
 |[],y::m=>by simp [Gt,Cf]
 |x::l,[]=>by simp [Gt,Cf]
theorem Us:∀l m,Jp l m=Cf Jb l m
 |[],[]=>rfl
 |x::l,y::m=>by rw[Jp,Cf,Us l m]
 |[],y::m=>by simp [Jp,Cf]
 |x::l,[]=>by simp [Jp,Cf]
theorem Ua:∀l m,Hl l m=Cf Kz l m
 |[],[]=>rfl
 |x::l,y::m=>by rw[Hl,Cf,Ua l m]
 |[],y::m=>by simp [Hl,Cf]
 |x::l,[]=>by simp [Hl,Cf]
theorem Xe:∀l m,Ho l m=Cf (fun x y=>x==y) l m
 |[],[]=>rfl
 |x::l,y::m=>by rw[Ho,Cf,Xe l m]
 |[],y::m=>by simp [Ho,Cf]
 |x::l,[]=>by simp [Ho,Cf]
theorem Kh {α:Type}(f:α→α→Bool):∀(l m:List α),l.length≠m.length→Cf f l m=false
 |[],[],h=>absurd rfl h
 |x::l,y::m,h=>by rw[Cf,Kh f l m (by simpa using h)];simp
 |[],y::m,_=>rfl
 |x::l,[],_=>rfl
theorem Jg {α:Type}(f:α→α→Bool)(d:α):∀(l m:List α),l.length=m.length→(∀i,i<l.length→f (l.getD i d) (m.getD i d)=true)→Cf f l m=true
 |[],[],_,_=>rfl
 |x::l,y::m,h,hf=>by
  have h0:f x y=true:=by have:=hf 0 (by simp);simpa using this
  rw[Cf,h0,Jg f d l m (by simpa using h) (fun i hi=>by have:=hf (i+1) (by simpa using hi);simpa using this)];rfl
 |[],y::m,h,_=>by simp at h
 |x::l,[],h,_=>by simp at h
theorem Ih {α:Type}(f:α→α→Bool)(d:α):∀(l m:List α) (i:Nat),l.length=m.length→i<l.length→f (l.getD i d) (m.getD i d)=false→Cf f l m=false
 |x::l,y::m,0,_,_,hf=>by rw[Cf,show f x y=false by simpa using hf];rfl
 |x::l,y::m,i+1,h,hi,hf=>by rw[Cf,Ih f d l m i (by simpa using h) (by simpa using hi) (by simpa using hf)];simp
 |[],_,_,_,hi,_=>by simp at hi
 |x::l,[],_,h,_,_=>by simp at h
mutual
def Bl:Ex→Nat
 |.mk _ _ _ _ us=>1+Bj us
def Bj:List Ex→Nat
 |[]=>0
 |x::l=>Bl x+Bj l
end
mutual
def Li:St→Nat
 |.mk _ _ us t e=>1+Bj us+Ck t+Ck e
def Ck:List St→Nat
 |[]=>0
 |x::l=>Li x+Ck l
end
theorem Sf:∀l m,Bj (l++m)=Bj l+Bj m
 |[],m=>by simp [Bj]
 |x::l,m=>by rw[Zq,Bj,Bj,Sf l m];omega
theorem Rp:∀l m,Ck (l++m)=Ck l+Ck m
 |[],m=>by simp [Ck]
 |x::l,m=>by rw[Zq,Ck,Ck,Rp l m];omega
def Gd(l:List Tk):Prop:=Jv l∧∀t,t∈l→1≤t.line
def BdR {α:Type}(n:Nat)(μ:α→Nat)(z:PR α):Prop:=(∃e,z=.error e∧1≤e)∨∃x r,z=.ok (x,r)∧Gd r∧μ x+r.length≤n
def Bd {α:Type}(c:Nat)(μ:α→Nat)(p:List Tk→PR α):Prop:= ∀l,Gd l→BdR (l.length+c) μ (p l)
theorem Ru {t:Tk}{r:List Tk}(h:Gd (t::r))(hk:t.kind≠5):Gd r:=⟨h.1.tail hk,fun u hu=>h.2 u (Zc _ hu)⟩
theorem mZ {l:List Tk}(h:Gd l):1≤Lh l:=by
 obtain⟨t,r,rfl⟩:=h.1.ne;exact h.2 t Za
theorem mF {l r:List Tk}{s:Bs}(h:Gd l)(e:Bn s l=some r):Gd r∧r.length+1=l.length:=by
 obtain⟨t,u,rfl⟩:=h.1.ne
 by_cases hs:isP s t=true
 ·rw[An hs]at e
  cases e
  exact⟨Ru h (Xf hs),rfl⟩
 ·rw[Af (by simpa using hs)]at e;cases e
theorem Jr {α:Type}{c:Nat}{μ:α→Nat}{p:List Tk→PR α}(h:∀l,p l=.error (Lh l)):Bd c μ p:=fun l hl=>.inl ⟨_,h l,mZ hl⟩
theorem Ec {α:Type}{c:Nat}{μ:α→Nat}(x:α)(h:μ x≤c):Bd c μ (fun l=>.ok (x,l)):=fun l hl=>.inr ⟨x,l,rfl,hl,by omega⟩
theorem Gm {α:Type}{c:Nat}{μ:α→Nat}{p p':List Tk→PR α}(h:Bd c μ p')(e:∀l,p l=p' l):Bd c μ p:=fun l hl=>by rw[e];exact h l hl
theorem Ns {α:Type}{c c':Nat}{μ:α→Nat}{p:List Tk→PR α}(h:Bd c μ p)(hc:c≤c'):Bd c' μ p:=fun l hl=>by
 rcases h l hl with h|⟨x,r,e,hg,hn⟩
 ·exact .inl h
 ·exact .inr ⟨x,r,e,hg,by omega⟩
theorem Cq {α β:Type}{c1:Nat}{c2:α→Nat}{c:Nat}{μ1:α→Nat}{μ2:β→Nat}{p:List Tk→PR α}{p2:α→List Tk→PR β}(h1:Bd c1 μ1 p)(h2:∀x,Bd (c2 x) μ2 (p2 x))(hc:∀x,c1+c2 x≤c+μ1 x):Bd c μ2 (fun l=>Gf (p l) p2):=by
 intro l hl;dsimp only;rcases h1 l hl with⟨e,he,h⟩|⟨x,r,he,hg,hn⟩
 ·rw[he];exact .inl ⟨e,rfl,h⟩
 ·rw[he]
  have hx:=hc x;rcases h2 x r hg with⟨e,he2,h⟩|⟨y,r2,he2,hg2,hn2⟩
  ·exact .inl ⟨e,he2,h⟩
  ·exact .inr ⟨y,r2,he2,hg2,by omega⟩
theorem Hi {α:Type}{c:Nat}{μ:α→Nat}{s:Bs}{p q:List Tk→PR α}(h1:Bd (c+1) μ p)(h2:Bd c μ q):Bd c μ (fun l=>orP s l p (q l)):=by
 intro l hl;dsimp only;unfold orP
 cases e:Bn s l with
 |none=>exact h2 l hl
 |some r=>
  obtain⟨hg,hn⟩:=mF hl e;have:=h1 r hg;rw[show r.length+(c+1)=l.length+c by omega]at this;exact this
theorem Dz {α:Type}{c:Nat}{μ:α→Nat}{s:Bs}{p:List Tk→PR α}(h1:Bd (c+1) μ p):Bd c μ (fun l=>Hb s l p):=by
 intro l hl;dsimp only;unfold Hb Ap
 cases e:Bn s l with
 |none=>exact .inl ⟨_,rfl,mZ hl⟩
 |some r=>
  obtain⟨hg,hn⟩:=mF hl e;have:=h1 r hg;rw[show r.length+(c+1)=l.length+c by omega]at this;exact this
theorem mN {k:Int}(hk:k≠5):Bd 0 (fun _=>1) (Ju k):=by
 intro l hl;obtain⟨t,r,rfl⟩:=hl.1.ne;show BdR _ _ (if t.kind=k then .ok (t,r)else .error t.line)
 by_cases h:t.kind=k
 ·rw[if_pos h];exact .inr ⟨t,r,rfl,Ru hl (by rw[h];exact hk),by simp only[Zd];omega⟩
 ·rw[if_neg h];exact .inl ⟨_,rfl,hl.2 t Za⟩
theorem Vg:Bd 0 (fun _=>1) Ef:=
 Gm (Cq (c2:=fun _=>1) (mN (k:=1) (by decide)) (fun t=>Ec t.text (Zi _)) (fun _=>by omega)) (fun l=>by unfold Ef Gf;kernel_rfl)
theorem bd_bin {lv:Int}{t:Tk}{r:List Tk}(h:Db lv (t::r)≠0):t.kind≠5:=by
 unfold Db at h;intro e;apply h
 have:∀l:List Int,l.find? (fun op=>isP (Ao op) t && decide (lv≤Al op))=none:=by
  intro l;rw[List.find?_eq_none];intro x _;have:isP (Ao x) t=false:=by unfold isP;rw[e];rfl
  rw[this];simp
 dsimp only;rw[this];rfl
theorem Sv(k o n:Int)(s:Bs):Bl (.mk k o n s [])=1:=by rw[Bl,Bj]
theorem exc_two(k o n:Int)(s:Bs)(x y:Ex):Bl (.mk k o n s [x,y])=1+(Bl x+Bl y):=by rw[Bl,Bj,Bj,Bj];omega
theorem nF(k o n:Int)(s:Bs)(x:Ex):Bl (.mk k o n s [x])=1+Bl x:=by rw[Bl,Bj,Bj];omega
theorem Yd(k o n:Int)(s:Bs)(a:List Ex):Bl (.mk k o n s a)=1+Bj a:=by rw[Bl]
theorem iR(a:List Ex)(x:Ex):Bj (a++[x])=Bj a+Bl x:=by rw[Sf,Bj,Bj];omega
theorem nK:∀f:Nat,(∀lv,Bd 0 Bl (Bc f lv))∧(∀lv x,Bd (Bl x) Bl (Ij f lv x))∧Bd 0 Bl (Bk f)∧(∀s,Bd 1 Bl (Cz f s))∧Bd 0 Bj (Fr f)∧∀a,Bd (Bj a) Bj (Gz f a)
 |0=>⟨fun lv=>Jr (fun l=>by rw[Bc]),fun lv x=>Jr (fun l=>by rw[Ij]),Jr (fun l=>by rw[Bk]),fun s=>Jr (fun l=>by rw[Cz]),Jr (fun l=>by rw[Fr]),fun a=>Jr (fun l=>by rw[Gz])⟩
 |f+1=>by
  obtain⟨ic,il,it,inm,ia,im⟩:=nK f;refine⟨fun lv=>?_,fun lv x=>?_,?_,fun s=>?_,?_,fun a=>?_⟩
  ·exact Gm (Cq (c2:=Bl) it (fun x=>il lv x) (fun x=>by omega)) (sB f lv)
  ·intro l hl
   rw[Ij];split
   ·exact .inr ⟨x,l,rfl,hl,by omega⟩
   ·rename_i h0
    obtain⟨t,r,rfl⟩:=hl.1.ne;have hg:=Ru hl (bd_bin h0);have ht:=Cq (c:=Bl x+1) (ic (Al (Db lv (t::r))+1)) (fun y=>il lv (.mk 4 (Db lv (t::r)) 0 [] [x,y])) (fun y=>by rw[exc_two];omega) r hg;rw[show r.length+(Bl x+1)=(t::r).length+Bl x by simp only[Zd];omega]at ht;refine Eq.mp (congrArg (BdR _ Bl) ?_) ht
    kernel_rfl
  ·have un:∀o:Int,Bd 1 Bl (fun r=>Gf (Bk f r) (fun x r=>(.ok (Ex.mk 3 o 0 [] [x],r):PR Ex))):=fun o=>Cq (c2:=fun x=>1+Bl x) it (fun x=>Ec _ (by rw[nF];exact Zi _)) (fun x=>by omega)
   refine Gm (Hi (un 17) (Hi (un 18) (Hi (un 19) (Hi (Cq (c2:=fun x=>Bl x) (ic 1) (fun x=>Dz (Ec _ (by omega))) (fun x=>by omega)) (Hi (Dz (Dz (Ec _ (by rw[Sv];omega)))) (q:=headP f) ?_))))) (vE f);intro l hl;obtain⟨t,r,rfl⟩:=hl.1.ne;show BdR _ _ (if t.kind=3 then _ else _)
   by_cases h3:t.kind=3
   ·rw[if_pos h3];exact .inr ⟨_,r,rfl,Ru hl (by rw[h3];decide),by rw[Sv];simp only[Zd];omega⟩
   ·rw[if_neg h3]
    by_cases h1:t.kind=1
    ·rw[if_pos h1]
     have:=inm t.text r (Ru hl (by rw[h1];decide));exact this
    ·rw[if_neg h1];exact .inl ⟨_,rfl,hl.2 t Za⟩
  ·exact Gm (Hi (Cq (c2:=fun a=>1+Bj a) ia (fun a=>Ec _ (by rw[Yd];exact Zi _)) (fun a=>by omega)) (Hi (Cq (c2:=fun x=>Bl x) (ic 1) (fun x=>Dz (Ec _ (by rw[nF];omega))) (fun x=>by omega)) (Ec _ (by rw[Sv];exact Zi _)))) (vI f s)
  ·exact Gm (Hi (Ec _ (by rw[Bj];omega)) (im [])) (args_eq f)
  ·exact Gm (Cq (c2:=fun x=>Bj a+Bl x) (ic 1) (fun x=>Hi (Ns (im (a++[x])) (by rw[iR];omega)) (Dz (Ec _ (by rw[iR];omega)))) (fun x=>by omega)) (more_eq f a)
theorem Ky(k:Int)(s:Bs)(us:List Ex)(a b:List St):Li (.mk k s us a b)=1+Bj us+Ck a+Ck b:=by rw[Li]
theorem exs0:Bj []=0:=by rw[Bj]
theorem Wz(x:Ex):Bj [x]=Bl x:=by rw[Bj,Bj];rfl
theorem exs2(x y:Ex):Bj [x,y]=Bl x+Bl y:=by rw[Bj,Wz]
theorem Sq:Ck []=0:=by rw[Ck]
theorem sO(a:List St)(x:St):Ck (a++[x])=Ck a+Li x:=by rw[Rp,Ck,Sq];omega
theorem aR(f:Nat):Bd 0 Bl (Cj f):=
 Gm (Dz (s:=[40]) (Cq (c2:=Bl) ((nK f).1 1) (fun x=>Dz (s:=[41]) (Ec x (by omega))) (fun x=>by omega))) (fun l=>by kernel_rfl)
theorem qR(f:Nat):Bd 0 Li (Aq f):=by
 have hi:=aR f;have hc:=(nK f).1 1;have ha:=(nK f).2.2.2.2.1;exact Gm (Hi (s:=[98,114,101,97,107]) (Ec (.mk 5 [] [] [] []) (by rw[Ky,exs0,Sq];omega)) (Hi (s:=[99,111,110,116,105,110,117,101]) (Ec (.mk 6 [] [] [] []) (by rw[Ky,exs0,Sq];omega)) (Hi (s:=[114,101,116,117,114,110]) (Cq (c2:=fun x=>1+Bl x) hc (fun x=>Ec (.mk 7 [] [x] [] []) (by rw[Ky,Wz,Sq];omega)) (fun x=>by omega))
  (Hi (s:=[112,114,105,110,116]) (Cq (c2:=fun x=>1+Bl x) hi (fun x=>Ec (.mk 8 [] [x] [] []) (by rw[Ky,Wz,Sq];omega)) (fun x=>by omega)) (Hi (s:=[116,114,97,112]) (Cq (c2:=fun x=>1+Bl x) hi (fun x=>Ec (.mk 9 [] [x] [] []) (by rw[Ky,Wz,Sq];omega)) (fun x=>by omega))
  (Cq (c2:=fun _=>1) Vg (fun s=>Hi (s:=[40]) (Cq (c2:=fun a=>2+Bj a) ha (fun a=>Ec (.mk 10 [] [.mk 5 0 0 s a] [] []) (by rw[Ky,Wz,Yd,Sq];omega)) (fun a=>by omega))
   (Hi (s:=[91]) (Cq (c2:=fun x=>2+Bl x) hc (fun x=>Dz (s:=[93]) (Dz (s:=[61]) (Cq (c2:=fun y=>1+Bl x+Bl y) hc (fun y=>Ec (.mk 2 s [x,y] [] []) (by rw[Ky,exs2,Sq];omega)) (fun y=>by omega)))) (fun x=>by omega))
    (Dz (s:=[61]) (Cq (c2:=fun x=>1+Bl x) hc (fun x=>Ec (.mk 1 s [x] [] []) (by rw[Ky,Wz,Sq];omega)) (fun x=>by omega))))) (fun _=>by omega))))))) (fun l=>by kernel_rfl)
theorem stmt_eq(f:Nat)(l:List Tk):Dh (f+1) l=orP [105,102] l (fun r=>Gf (Cj f r) (fun x r=>Hb [123] r (fun r=>Gf (Cu f [] r) (fun a r=>orP [101,108,115,101] r (fun r=>Hb [123] r (fun r=>Gf (Cu f [] r) (fun b r=>.ok (.mk 3 [] [x] a b,r)))) (.ok (.mk 3 [] [x] a [],r))))))
  (orP [119,104,105,108,101] l (fun r=>Gf (Cj f r) (fun x r=>Hb [123] r (fun r=>Gf (Cu f [] r) (fun a r=>.ok (.mk 4 [] [x] a [],r))))) (Gf (Aq f l) (fun x r=>Hb [59] r (fun r=>.ok (x,r))))):=by
 rw[Dh];unfold orP Hb Gf
 cases Bn [105,102] l with
 |none=>kernel_rfl
 |some r=>
  dsimp only
  cases Cj f r with
  |error e=>kernel_rfl
  |ok xr=>
   dsimp only
   cases Ap [123] xr.2 with
   |error e=>kernel_rfl
   |ok r=>
    dsimp only
    cases Cu f [] r with
    |error e=>kernel_rfl
    |ok ar=>
     dsimp only
     cases Bn [101,108,115,101] ar.2<;>kernel_rfl
theorem bd_st:∀f:Nat,Bd 0 Li (Dh f)∧∀a,Bd (Ck a) Ck (Cu f a)
 |0=>⟨Jr (fun l=>by rw[Dh]),fun a=>Jr (fun l=>by rw[Cu])⟩
 |f+1=>by
  obtain⟨is,il⟩:=bd_st f;have hi:=aR f;have hs:=qR f;have i0:Bd 0 Ck (Cu f []):=Ns (il []) (by rw[Sq];exact Zi _);refine⟨?_,fun a=>?_⟩
  ·exact Gm (Hi (s:=[105,102]) (Cq (c2:=fun x=>1+Bl x) hi (fun x=>Dz (s:=[123]) (Cq (c2:=fun a=>1+Bl x+Ck a) i0 (fun a=>Hi (s:=[101,108,115,101]) (Dz (s:=[123]) (Cq (c2:=fun b=>1+Bl x+Ck a+Ck b) i0 (fun b=>Ec (.mk 3 [] [x] a b) (by rw[Ky,Wz];omega)) (fun b=>by omega))) (Ec (.mk 3 [] [x] a []) (by rw[Ky,Wz,Sq];omega))) (fun a=>by omega))) (fun x=>by omega))
    (Hi (s:=[119,104,105,108,101]) (Cq (c2:=fun x=>1+Bl x) hi (fun x=>Dz (s:=[123]) (Cq (c2:=fun a=>1+Bl x+Ck a) i0 (fun a=>Ec (.mk 4 [] [x] a []) (by rw[Ky,Wz,Sq];omega)) (fun a=>by omega))) (fun x=>by omega))
     (Cq (c2:=Li) hs (fun x=>Dz (s:=[59]) (Ec x (by omega))) (fun x=>by omega)))) (stmt_eq f)
  ·exact Gm (Hi (s:=[125]) (Ec a (by omega)) (Cq (c2:=fun x=>Ck (a++[x])) is (fun x=>il (a++[x])) (fun x=>by rw[sO];omega))) (fun l=>by rw[Cu];kernel_rfl)
theorem Ra {α:Type}(a:List α)(x:α):(a++[x]).length=a.length+1:=by simp
theorem mI:∀(f:Nat) a,Bd a.length List.length (Jf f a)
 |0,a=>Jr (fun l=>by rw[Jf])
 |f+1,a=>Gm (Dz (s:=[105,110,116]) (Cq (c2:=fun _=>a.length+1) Vg (fun s=>Hi (s:=[44]) (Ns (mI f (a++[s])) (by rw[Ra];omega)) (Dz (s:=[41]) (Ec (a++[s]) (by rw[Ra];omega)))) (fun _=>by omega))) (fun l=>by rw[Jf];kernel_rfl)
theorem aL:∀(f:Nat) a,Bd a.length List.length (Fv f a)
 |0,a=>Jr (fun l=>by rw[Fv])
 |f+1,a=>Gm (Hi (s:=[105,110,116]) (Cq (c2:=fun _=>a.length+1) Vg (fun s=>Dz (s:=[59]) (Ns (aL f (a++[s])) (by rw[Ra];omega))) (fun _=>by omega)) (Ec a (Zi _))) (fun l=>by rw[Fv];unfold orP;cases Bn [105,110,116] l<;>kernel_rfl)
def fuN(x:Fu):Nat:=1+x.params.length+x.locals.length+Ck x.body
def Tb:List Fu→Nat
 |[]=>0
 |x::l=>fuN x+Tb l
def prN(p:Pr):Nat:=p.arrays.length+Tb p.funcs
theorem fF(x:Fu):∀a,Tb (a++[x])=Tb a+fuN x
 |[]=>by simp only[List.nil_append,Tb];omega
 |y::a=>by rw[Zq,Tb,Tb,fF x a];omega
theorem bd_fun(f:Nat)(s:Bs):Bd 1 fuN (Dq f s):=
 Gm (Cq (c:=1) (c2:=fun ps=>1+ps.length) (Hi (c:=0) (s:=[41]) (Ec ([]:List Bs) (by show 0≤_;omega)) (mI f [])) (fun ps=>Dz (s:=[123]) (Cq (c2:=fun ls=>1+ps.length+ls.length) (aL f []) (fun ls=>Cq (c2:=fun b=>1+ps.length+ls.length+Ck b) (Ns ((bd_st f).2 []) (by rw[Sq];exact Zi 0)) (fun b=>Ec ⟨s,ps,ls,b⟩ (Zi _)) (fun b=>by omega)) (fun ls=>by show 0+_≤_;omega))) (fun ps=>by omega)) (fun l=>by kernel_rfl)
theorem prog_eq(g:Nat)(p:Pr)(l:List Tk):Di (g+1) p l=if(l.head?.map (·.kind)).getD 0=5 then .ok (p,l)else Hb [105,110,116] l (fun r=>Gf (Ef r) (fun s r=>if p.funcs.isEmpty=true then orP [91] r (fun r=>Gf (Ju 3 r) (fun t r=>Hb [93] r (fun r=>Hb [59] r (fun r=>Di g {p with arrays:=p.arrays++[⟨s,t.num⟩]} r)))) (Hb [40] r (fun r=>Gf (Dq g s r) (fun x r=>Di g {p with funcs:=p.funcs++[x]} r)))else Hb [40] r (fun r=>Gf (Dq g s r) (fun x r=>Di g {p with funcs:=p.funcs++[x]} r)))):=by
 rw[Di]
 by_cases h5:(l.head?.map (·.kind)).getD 0=5
 ·rw[if_pos h5,if_pos h5]
 ·rw[if_neg h5,if_neg h5]
  by_cases he:p.funcs.isEmpty=true
  ·simp only[if_pos he];kernel_rfl
  ·simp only[if_neg he];kernel_rfl
theorem cN:∀(f:Nat) (p:Pr),Bd (prN p) prN (Di f p)
 |0,p=>Jr (fun l=>by rw[Di])
 |f+1,p=>by
  have hf:∀s,Bd (prN p+2) prN (fun r=>Hb [40] r (fun r=>Gf (Dq f s r) (fun x r=>Di f {p with funcs:=p.funcs++[x]} r))):=fun s=>Dz (s:=[40]) (Cq (c2:=fun x=>prN p+fuN x) (bd_fun f s) (fun x=>Ns (cN f {p with funcs:=p.funcs++[x]}) (by show p.arrays.length+Tb (p.funcs++[x])≤p.arrays.length+Tb p.funcs+fuN x;rw[fF];omega)) (fun x=>by omega))
  have ha:∀s,Bd (prN p+3) prN (fun r=>Gf (Ju 3 r) (fun t r=>Hb [93] r (fun r=>Hb [59] r (fun r=>Di f {p with arrays:=p.arrays++[⟨s,t.num⟩]} r)))):=fun s=>Cq (c2:=fun _=>prN p+4) (mN (k:=3) (by decide)) (fun t=>Dz (s:=[93]) (Dz (s:=[59]) (Ns (cN f {p with arrays:=p.arrays++[⟨s,t.num⟩]}) (by show(p.arrays++[_]).length+Tb p.funcs≤p.arrays.length+Tb p.funcs+4+1+1;rw[Ra];omega)))) (fun _=>by omega)
  have hw:Bd (prN p) prN (fun l=>Hb [105,110,116] l (fun r=>Gf (Ef r) (fun s r=>if p.funcs.isEmpty=true then orP [91] r (fun r=>Gf (Ju 3 r) (fun t r=>Hb [93] r (fun r=>Hb [59] r (fun r=>Di f {p with arrays:=p.arrays++[⟨s,t.num⟩]} r)))) (Hb [40] r (fun r=>Gf (Dq f s r) (fun x r=>Di f {p with funcs:=p.funcs++[x]} r)))else Hb [40] r (fun r=>Gf (Dq f s r) (fun x r=>Di f {p with funcs:=p.funcs++[x]} r))))):=by
   refine Dz (s:=[105,110,116]) (Cq (c2:=fun _=>prN p+2) Vg (fun s=>?_) (fun _=>by omega))
   by_cases he:p.funcs.isEmpty=true
   ·simp only[if_pos he]
    exact Hi (s:=[91]) (ha s) (hf s)
   ·simp only[if_neg he]
    exact hf s
  intro l hl;rw[prog_eq];split
  ·exact .inr ⟨p,l,rfl,hl,by omega⟩
  ·exact hw l hl
inductive Vz:Ex→Prop
 |num (n:Int) (h:0≤n):Vz (.mk 1 0 n [] [])
 |var (nm:Bs) (h:Am nm=true):Vz (.mk 2 0 0 nm [])
 |one (o:Int) (x:Ex) (h:o=17∨o=18∨o=19) (hx:Cl x=true):Vz (.mk 3 o 0 [] [x])
 |two (o:Int) (x y:Ex) (h:0<Al o) (hx:Cl x=true) (hy:Cl y=true):Vz (.mk 4 o 0 [] [x,y])
 |call (nm:Bs) (l:List Ex) (h:Am nm=true) (hn:l.length≤6) (hl:∀x,x∈l→Cl x=true):Vz (.mk 5 0 0 nm l)
 |index (nm:Bs) (x:Ex) (h:Am nm=true) (hx:Cl x=true):Vz (.mk 6 0 0 nm [x])
 |read:Vz (.mk 7 0 0 [] [])
def SOk(x:St):Prop:= ∃m,Ed m x=true
inductive Mj:St→Prop
 |set (nm:Bs) (x:Ex) (h:Am nm=true) (hx:Cl x=true):Mj (.mk 1 nm [x] [] [])
 |store (nm:Bs) (x y:Ex) (h:Am nm=true) (hx:Cl x=true) (hy:Cl y=true):Mj (.mk 2 nm [x,y] [] [])
 |iff (x:Ex) (t e:List St) (hx:Cl x=true) (ht:∀y,y∈t→SOk y) (he:∀y,y∈e→SOk y):Mj (.mk 3 [] [x] t e)
 |loop (x:Ex) (t:List St) (hx:Cl x=true) (ht:∀y,y∈t→SOk y):Mj (.mk 4 [] [x] t [])
 |brk:Mj (.mk 5 [] [] [] [])
 |cont:Mj (.mk 6 [] [] [] [])
 |ret (x:Ex) (hx:Cl x=true):Mj (.mk 7 [] [x] [] [])
 |prt (x:Ex) (hx:Cl x=true):Mj (.mk 8 [] [x] [] [])
 |trp (x:Ex) (hx:Cl x=true):Mj (.mk 9 [] [x] [] [])
 |call (nm:Bs) (l:List Ex) (h:Am nm=true) (hn:l.length≤6) (hl:∀x,x∈l→Cl x=true):Mj (.mk 10 [] [.mk 5 0 0 nm l] [] [])
structure FOk (f:Fu):Prop where
 name:Am f.name=true
 params:∀x,x∈f.params→Am x=true
 locals:∀x,x∈f.locals→Am x=true
 body:∀x,x∈f.body→SOk x
theorem nQ {f:Fu}(h:Fa f=true):FOk f:=by
 unfold Fa at h;simp only[Zf,Zl]at h;exact⟨h.1.1.1.1,h.1.1.1.2,h.1.1.2,fun x hx=>⟨40,h.2 x hx⟩⟩
theorem Cr {l:Bs}(h:Am l=true):l.length≤20:=by
 unfold Am at h;simp only[Zf,decide_eq_true_eq]at h;exact h.1.1.2
theorem dR(L:Nat):∀l:List Bs,(∀x,x∈l→x.length≤L)→(Bq l).length≤l.length*(L+2)
 |[],_=>by simp [Bq]
 |x::l,h=>by
  have more:∀m:List Bs,(∀x,x∈m→x.length≤L)→(m.flatMap (fun y=>[44,32]++y)).length≤m.length*(L+2):=by
   intro m
   induction m with
   |nil=>intro _;simp
   |cons y m ih=>
    intro hm;have h1:=hm y Za;have h2:=ih (fun z hz=>hm z (Zc _ hz));simp only[Zo,Zb,Zd,Zj]at h2 ⊢;rw[Nat.add_mul];omega
  have h1:=h x Za;have h2:=more l (fun z hz=>h z (Zc _ hz));rw[Bq,Zb,Zd,Nat.add_mul];omega
theorem Mu(e:Ex)(lev:Int)(t:Bs):(Em e lev t).length≤t.length+2:=by
 unfold Em;split
 ·simp
 ·omega
theorem cM:∀i:Fin 20,(Ao i.val).length≤2:=by decide+kernel
theorem Ri(o:Int):(Ao o).length≤2:=by
 by_cases h:0≤o∧o≤19
 ·have e1:((o.toNat:Nat):Int)=o:=Int.toNat_of_nonneg (by omega)
  have:=cM ⟨o.toNat,by omega⟩;simp only[e1]at this;exact this
 ·unfold Ao
  rw[if_neg (by omega),if_neg (by omega),if_neg (by omega),if_neg (by omega),if_neg (by omega),if_neg (by omega),if_neg (by omega),if_neg (by omega),if_neg (by omega),if_neg (by omega),if_neg (by omega),if_neg (by omega),if_neg (by omega),if_neg (by omega),if_neg (by omega),if_neg (by omega),if_neg (by omega),if_neg (by omega),if_neg (by omega)];exact Zp _
theorem mM(n:Int)(h:0≤n∧n≤9223372036854775807)(o:Int)(nm:Bs)(l:List Ex):(Ah (.mk 1 o n nm l)).length≤21:=by
 rw[iD];exact Lib.itoa_length_le n (by omega) h.2
theorem gH {L:Nat}{nm:Bs}{l:List Ex}(hn:nm.length≤20)(h6:l.length≤6)(hl:∀x,x∈l→(Ah x).length≤L):(Ah (.mk 5 0 0 nm l)).length≤6*L+64:=by
 rw[Wp];have:=dR L (l.map Ah) (fun x hx=>by
  obtain⟨y,hy,rfl⟩:=List.mem_map.1 hx;exact hl y hy)
 simp only[List.length_map,Zb,Zd,Zj]at this ⊢;have:l.length*(L+2)≤6*(L+2):=Nat.mul_le_mul_right _ h6;omega
theorem aI {sc:Sc}(hs:sc.Ok)(raw:List Int)(g:Nat→Ex ×Nat)(L:Nat)(hg:∀a,(Ah (g a).1).length≤L)(a:Nat):(Ah (Ik sc raw g a).1).length≤6*L+64:=by
 unfold Ik;split
 ·have h7:=Aj raw (Ad raw a 312).2 7 (by decide)
  exact gH (Cr (Kn _)) (by rw[Ie];omega) (Kj g (fun x=>(Ah x).length≤L) hg _ _)
 ·rename_i hn
  have hl:=eP hn;have hr:=Aj raw a sc.funcs.length (by omega);have hf:Am (Eb sc.funcs (Ad raw a sc.funcs.length).1.toNat).name=true∧(Eb sc.funcs (Ad raw a sc.funcs.length).1.toNat).params.length≤6:=hs.funcs _ (tC (d:=Fu.nil) (i:=(Ad raw a sc.funcs.length).1.toNat) (by omega));dsimp only;generalize Eb sc.funcs (Ad raw a sc.funcs.length).1.toNat=f at hf ⊢;exact gH (Cr hf.1) (by rw[Ie];exact hf.2) (Kj g (fun x=>(Ah x).length≤L) hg _ _)
theorem aT {sc:Sc}(hs:sc.Ok)(raw:List Int)(g:Nat→Ex ×Nat)(L:Nat)(hg:∀a,(Ah (g a).1).length≤L)(k:Int)(a:Nat):(Ah (Ez sc raw g k a).1).length≤6*L+64:=by
 unfold Ez;split
 ·have:=Cr (Sn hs raw a)
  dsimp only;rw[Xw];omega
 split
 ·dsimp only;rw[Vu];simp
 split
 ·have h1:=Aj raw (if k=3 then(Ad raw a 3).2 else a) 1000 (by decide)
  have h2:=Pf _ (Ad raw (Ad raw (if k=3 then(Ad raw a 3).2 else a) 1000).2 8).1 h1;have:=mM _ h2 0 [] [];dsimp only;omega
 split
 ·have:=hg (Ad raw a 3).2
  dsimp only;rw[Yh _ _ _ _ (by simp)];have h2:=Ri (17+(Ad raw a 3).1);have h3:=Mu (g (Ad raw a 3).2).1 9 (Ah (g (Ad raw a 3).2).1);show(Ao _++Em (g (Ad raw a 3).2).1 9 (Ah (g (Ad raw a 3).2).1)).length≤_
  rw[Zb];omega
 split
 ·have h1:=Cr (Pt hs raw a)
  have h2:=hg (Cw sc.free sc.arrays raw a).2;dsimp only;rw[Wi _ _ _ _ (by simp)];show(_++[91]++Ah (g (Cw sc.free sc.arrays raw a).2).1++[93]).length≤_
  simp only[Zb,Zd,Zj];omega
 split
 ·exact aI hs raw g L hg a
 ·dsimp only;rw[Yb _ _ _ _ (by simp)]
  have h1:=hg (Ad raw a 16).2;have h2:=hg (g (Ad raw a 16).2).2;have h3:=Ri (1+(Ad raw a 16).1);have h4:=Mu (g (Ad raw a 16).2).1 (Al (1+(Ad raw a 16).1)) (Ah (g (Ad raw a 16).2).1);have h5:=Mu (g (g (Ad raw a 16).2).2).1 (Al (1+(Ad raw a 16).1)+1) (Ah (g (g (Ad raw a 16).2).2).1);show(Em (g (Ad raw a 16).2).1 (Al (1+(Ad raw a 16).1)) (Ah (g (Ad raw a 16).2).1)++([32]++(Ao _++[32]))++Em (g (g (Ad raw a 16).2).2).1 (Al (1+(Ad raw a 16).1)+1) (Ah (g (g (Ad raw a 16).2).2).1)).length≤_
  simp only[Zb,Zd,Zj];omega
def exB:Nat→Nat
 |0=>64
 |d+1=>6*exB d+64
theorem Pp {sc:Sc}(hs:sc.Ok)(raw:List Int):∀d a,(Ah (Ax sc raw d a).1).length≤exB d
 |0,a=>by
  rw[Ax];unfold Um;have:=aT hs raw (fun a=>(Ex.nil,a)) 0 (fun a=>by show(Ah (.mk 0 0 0 [] [])).length≤0;rw[Hc];decide) (gK raw 0 a) (Ad raw a 12).2;simp only[exB];omega
 |d+1,a=>by
  rw[Ax];unfold Um;exact aT hs raw _ (exB d) (Pp hs raw d) _ _
theorem rR(t:Nat):(Ke t).length=t:=List.length_replicate
theorem Qy(t:Nat)(l:List Bs):(ln t l).length=t+l.flatten.length+1:=by unfold ln;rw[Zb,Zb,rR];rfl
theorem kB {t N L T E:Nat}{k:Int}{nm:Bs}{args:List Ex}{thn els:List St}(hn:nm.length≤N)(ha:∀x,x∈args→(Ah x).length≤L)(hT:(Ca (t+1) thn).length≤T)(hE:(Ca (t+1) els).length≤E):(Cn t (.mk k nm args thn els)).length≤3*t+N+2*L+T+E+40:=by
 have hx:∀i,(Ah (Cb args i)).length≤L:=fun i=>by
  unfold Cb;rcases Nat.lt_or_ge i args.length with h|h
  ·rw[List.getD_eq_getElem?_getD,Zs h];exact ha _ (List.getElem_mem h)
  ·rw[List.getD_eq_getElem?_getD,List.getElem?_eq_none h]
   show(Ah (.mk 0 0 0 [] [])).length≤L
   rw[Hc];exact Zp _
 have h0:=hx 0;have h1:=hx 1;rw[Ft];unfold Dk
 repeat' split
 all_goals
  try simp only[Qy,Zb,Zt,Zu,Zd,Zj]
  try omega
theorem dN {t B:Nat}:∀l:List St,(∀x,x∈l→(Cn t x).length≤B)→(Ca t l).length≤l.length*B
 |[],_=>by simp [Ca]
 |x::l,h=>by
  have h1:=h x Za;have h2:=dN l (fun z hz=>h z (Zc _ hz));rw[Ca,Zb,Zd,Nat.add_mul];omega
theorem eZ {sc:Sc}(hs:sc.Ok)(raw:List Int)(gs gl:Nat→List St ×Nat)(T:Nat)(t:Nat)(hgs:∀a,(Ca (t+1) (gs a).1).length≤T)(hgl:∀a,(Ca (t+1) (gl a).1).length≤T)(k:Int)(a:Nat):
  ∃k' nm args thn els,(Ce sc raw gs gl k a).1=.mk k' nm args thn els∧nm.length≤20∧(∀x,x∈args→(Ah x).length≤exB 3)∧(Ca (t+1) thn).length≤T∧(Ca (t+1) els).length≤T:=by
 have z:(Ca (t+1) []).length≤T:=Zp _;have nn:∀x:Ex,x∈([]:List Ex)→(Ah x).length≤exB 3:=fun x hx=>by cases hx
 have n0:([]:Bs).length≤20:=Zp _;have ee:∀a,∀x,x∈[(Ax sc raw 3 a).1]→(Ah x).length≤exB 3:=fun a x hx=>by rw[Zr.1 hx];exact Pp hs raw 3 a
 unfold Ce;split
 ·exact⟨_,_,_,_,_,rfl,Cr (Sn hs raw a),nn,z,z⟩
 split
 ·exact⟨_,_,_,_,_,rfl,Cr (Pt hs raw a),ee _,z,z⟩
 split
 ·exact⟨_,_,_,_,_,rfl,n0,fun x hx=>by rw[Zr.1 hx];exact aI hs raw _ (exB 2) (Pp hs raw 2) a,z,z⟩
 split
 ·exact⟨_,_,_,_,_,rfl,n0,nn,z,z⟩
 split
 ·exact⟨_,_,_,_,_,rfl,n0,ee _,hgs _,hgs _⟩
 split
 ·exact⟨_,_,_,_,_,rfl,n0,ee _,hgl _,z⟩
 split
 ·exact⟨_,_,_,_,_,rfl,n0,nn,z,z⟩
 ·exact⟨_,_,_,_,_,rfl,n0,nn,z,z⟩
theorem nE {sc:Sc}(hs:sc.Ok)(raw:List Int)(gs gl:Nat→List St ×Nat)(T:Nat)(t d:Nat)(hgs:∀a,(Ca (t+1) (gs a).1).length≤T)(hgl:∀a,(Ca (t+1) (gl a).1).length≤T)(a:Nat):(Cn t (gSt sc raw gs gl d a).1).length≤3*t+2*exB 4+2*T+60:=by
 unfold gSt;dsimp only;obtain⟨k,nm,args,thn,els,h,h1,h2,h3,h4⟩:=eZ hs raw gs gl T t hgs hgl (To raw d a) (Ad raw a 14).2;generalize (Ce sc raw gs gl (To raw d a) (Ad raw a 14).2).2=b;rw[h];have h2:∀x,x∈args→(Ah x).length≤exB 4:=fun x hx=>Nat.le_trans (h2 x hx) (by decide)
 unfold Kr;split
 ·have:=kB (k:=k) (N:=20) (L:=exB 4) h1 (args:=args++[(Ax sc raw 4 b).1]) (fun x hx=>by
   rcases List.mem_append.1 hx with hx|hx
   ·exact h2 x hx
   ·rw[Zr.1 hx];exact Pp hs raw 4 b) h3 h4
  show(Cn t (.mk k nm (args++[(Ax sc raw 4 b).1]) thn els)).length≤_
  omega
 ·have:=kB (k:=k) (N:=20) (L:=exB 4) h1 h2 h3 h4
  show(Cn t (.mk k nm args thn els)).length≤_
  omega
def stB:Nat→Nat
 |0=>4*(2*exB 4+100)
 |d+1=>4*(2*exB 4+2*stB d+100)
theorem Xb(one:Nat→St ×Nat)(P:St→Prop)(hg:∀a,P (one a).1)(c a:Nat):∀x,x∈(Ir one c a).1→P x:=Pw one P hg c a
theorem five(raw:List Int)(a:Nat):(Ad raw a 5).1.toNat≤4:=by have:=Aj raw a 5 (by decide);omega
theorem Qj(raw:List Int):∀(d t:Nat) (sc:Sc),sc.Ok→t+d≤10→∀a,(Ca t (Gk raw d sc a).1).length≤stB d
 |0,t,sc,hs,ht,a=>by
  rw[Gk];have h1:=dN (t:=t) (B:=2*exB 4+100) _ (Xb _ (fun x=>(Cn t x).length≤2*exB 4+100) (fun b=>Nat.le_trans (nE hs raw (fun a=>([],a)) (fun a=>([],a)) 0 t 0 (fun _=>Zi _) (fun _=>Zi _) b) (by omega)) (Ad raw a 5).1.toNat (Ad raw a 5).2);rw[Mp]at h1;exact Nat.le_trans h1 (Nat.mul_le_mul_right _ (five raw a))
 |d+1,t,sc,hs,ht,a=>by
  rw[Gk];have h1:=dN (t:=t) (B:=2*exB 4+2*stB d+100) _ (Xb _ (fun x=>(Cn t x).length≤2*exB 4+2*stB d+100) (fun b=>Nat.le_trans (nE hs raw (Gk raw d sc) (Gk raw d sc.inLoop) (stB d) t (d+1) (Qj raw d (t+1) sc hs (by omega)) (Qj raw d (t+1) sc.inLoop hs.inLoop (by omega)) b) (by omega)) (Ad raw a 5).1.toNat (Ad raw a 5).2);rw[Mp]at h1;exact Nat.le_trans h1 (Nat.mul_le_mul_right _ (five raw a))
theorem sep_sum(f:Ex→Nat):∀l:List Ex,(∀x,x∈l→(Ah x).length+2≤64*Bl x)→(Bq (l.map Ah)).length≤64*Bj l
 |[],_=>Zp _
 |x::l,h=>by
  have more:∀m:List Ex,(∀x,x∈m→(Ah x).length+2≤64*Bl x)→((m.map Ah).flatMap (fun y=>[44,32]++y)).length≤64*Bj m:=by
   intro m
   induction m with
   |nil=>intro _;simp
   |cons y m ih=>
    intro hm;have h1:=hm y Za;have h2:=ih (fun z hz=>hm z (Zc _ hz));rw[Bj];simp only[List.map_cons,Zo,Zb,Zd,Zj]at h2 ⊢;omega
  have h1:=h x Za;have h2:=more l (fun z hz=>h z (Zc _ hz));rw[List.map_cons,Bq,Zb,Bj];omega
theorem fM {l:List Ex}(h:l.length=1):∃a,l=[a]:=by
 match l,h with
 |[a],_=>exact⟨a,rfl⟩
theorem vN {l:List Ex}(h:l.length=2):∃a b,l=[a,b]:=by
 match l,h with
 |[a,b],_=>exact⟨a,b,rfl⟩
theorem tF(x:Ex)(hw:Cl x=true)(hn:N64 x):(Ah x).length+2≤64*Bl x:=by
 have hp:=Cm hw;have ih:∀a,a∈x.args→(Ah a).length+2≤64*Bl a:=fun a ha=>tF a (hp.2 a ha) (by
  cases hn with
  |mk k o n nm args h hall=>exact hall a ha)
 have hk:=Rj hp.1;have hh:=hp.1
 cases hn with
 |mk k o n nm args h64 hall=>
 clear hw hp hall;unfold Da at hh;simp only[Zf]at hh;obtain⟨⟨⟨⟨hok,hargs⟩, -⟩, -⟩, -⟩:=hh;simp only[Ex.kind,Ex.args]at hk ih hargs;rw[Yd];rcases hk with rfl|rfl|rfl|rfl|rfl|rfl|rfl
 ·have h0:0≤n:=of_decide_eq_true (show decide (0≤n)=true from hok)
  have:=mM n ⟨h0,by have:=h64.2;omega⟩ o nm args;omega
 ·have:=Cr (show Am nm=true from hok)
  rw[Xw];omega
 ·have hl:(args.length:Int)=1:=by simpa [Dc,Ex.kind]using hargs
  obtain⟨a,rfl⟩:=fM (l:=args) (by omega);have h1:=ih a Za;have h2:=Ri o;have h3:=Mu a 9 (Ah a);rw[Yh _ _ _ _ (by simp),Wz];show(Ao o++Em a 9 (Ah a)).length+2≤_
  rw[Zb];omega
 ·have hl:(args.length:Int)=2:=by simpa [Dc,Ex.kind]using hargs
  obtain⟨a,b,rfl⟩:=vN (l:=args) (by omega);have h1:=ih a Za;have h1':=ih b (Zc _ Za);have h2:=Ri o;have h3:=Mu a (Al o) (Ah a);have h4:=Mu b (Al o+1) (Ah b);rw[Yb _ _ _ _ (by simp),exs2];show(Em a (Al o) (Ah a)++([32]++(Ao o++[32]))++Em b (Al o+1) (Ah b)).length+2≤_
  simp only[Zb,Zd,Zj];omega
 ·have h0:Am nm=true:=((Zf _ _).mp (show(Am nm && decide ((args.length:Int)≤6))=true from hok)).1
  have h1:=Cr h0;have h2:=sep_sum (fun _=>0) args ih;rw[Wp];simp only[Zb,Zd,Zj];omega
 ·have hl:(args.length:Int)=1:=by simpa [Dc,Ex.kind]using hargs
  obtain⟨a,rfl⟩:=fM (l:=args) (by omega);have h0:=Cr (show Am nm=true from hok);have h1:=ih a Za;rw[Wi _ _ _ _ (by simp),Wz];show(nm++[91]++Ah a++[93]).length+2≤_
  simp only[Zb,Zd,Zj];omega
 ·rw[Vu];simp only[Zd,Zj];omega
termination_by SizeOf.sizeOf x
decreasing_by exact Ex.size_lt ha
theorem exs_le {l:List Ex}{x:Ex}(h:x∈l):Bl x≤Bj l:=by
 induction l with
 |nil=>cases h
 |cons y l ih=>
  rw[Bj];rcases Zn.1 h with rfl|h
  ·omega
  ·have:=ih h;omega
theorem Vf(t:Nat):∀l:List St,(∀x,x∈l→(Cn t x).length≤300*Li x)→(Ca t l).length≤300*Ck l
 |[],_=>by simp [Ca]
 |x::l,h=>by
  have h1:=h x Za;have h2:=Vf t l (fun z hz=>h z (Zc _ hz));rw[Ca,Zb,Ck];omega
theorem bY:∀(m t:Nat) (x:St),t+m≤41→Ed m x=true→Vb x→(Cn t x).length≤300*Li x
 |0,t,x,_,h,_=>by rw[Ed]at h;cases h
 |m+1,t,x,ht,h,hn=>by
  rw[Ed]at h;simp only[Zf,Zl]at h;obtain⟨⟨⟨⟨h1,h2⟩,h3⟩,h4⟩,h5⟩:=h
  cases hn with
  |mk k nm args thn els na nt ne=>
  simp only[St.args,St.thn,St.els]at h3 h4 h5;have hnm:nm.length≤20:=by
   unfold Ow at h2;simp only[St.kind,St.name,St.args]at h2
   cases hf:Ek k with
   |true=>
    cases hi:Am nm with
    |true=>exact Cr hi
    |false=>rw[hf,hi]at h2;simp at h2
   |false=>
    cases hi:Am nm with
    |true=>exact Cr hi
    |false=>
     rw[hf,hi]at h2;simp at h2;rw[h2.1];exact Zp _
  have ha:∀x,x∈args→(Ah x).length≤64*Bj args:=fun x hx=>by
   have hr:=h3 x hx;unfold Ep at hr;have:=tF x ((Zf _ _).mp hr).2 (na x hx);have:=exs_le hx;omega
  have k1:=Vf (t+1) thn (fun x hx=>bY m (t+1) x (by omega) (h4 x hx) (nt x hx));have k2:=Vf (t+1) els (fun x hx=>bY m (t+1) x (by omega) (h5 x hx) (ne x hx));have:=kB (t:=t) (k:=k) hnm ha k1 k2;rw[Ky];omega
theorem gF:∀l:List Bs,(∀x,x∈l→Am x=true)→(En l).length≤l.length*40
 |[],_=>by simp [En]
 |x::l,h=>by
  have h1:=Cr (h x Za);have h2:=gF l (fun y hy=>h y (Zc _ hy));show(ln 1 [[105,110,116,32],x,[59]]++En l).length≤_
  rw[Zb,Qy,Zd,Nat.add_mul];simp only[Zt,Zu,Zb,Zd,Zj];omega
theorem fu_len3 {x:Fu}(h:Fa x=true)(hn:∀y,y∈x.body→Vb y):(Hr x).length≤300*fuN x:=by
 unfold Fa at h;simp only[Zf,Zl]at h;obtain⟨⟨⟨⟨h1,h2⟩,h3⟩,h4⟩,h5⟩:=h;have k1:=Cr h1;have k2:=dR 24 (x.params.map Jx) (fun y hy=>by
  obtain⟨z,hz,rfl⟩:=List.mem_map.1 hy;have:=Cr (h2 z hz);unfold Jx;rw[Zb];simp;omega)
 have k3:=gF x.locals h3;have k4:=Vf 1 x.body (fun y hy=>bY 40 1 y (by omega) (h5 y hy) (hn y hy));rw[List.length_map]at k2;unfold Hr fuN;simp only[Zb,Qy,Zt,Zu,Zd,Zj];omega
theorem eL:∀l:List Fu,(∀x,x∈l→Fa x=true)→(∀x,x∈l→∀y,y∈x.body→Vb y)→(Eo l).length≤300*Tb l
 |[],_,_=>by simp [Eo]
 |x::l,h,hn=>by
  have h1:=fu_len3 (h x Za) (hn x Za);have h2:=eL l (fun y hy=>h y (Zc _ hy)) (fun y hy=>hn y (Zc _ hy));show(Hr x++Eo l).length≤_
  rw[Zb,Tb];omega
theorem gN:∀l:List Ar,(∀x,x∈l→Dr x=true)→(Dw l).length≤300*l.length
 |[],_=>by simp [Dw]
 |x::l,h=>by
  have h2:=gN l (fun y hy=>h y (Zc _ hy));have hx:=h x Za;unfold Dr at hx;rw[Zf]at hx;have h1:=Cr hx.1;have h3:=of_decide_eq_true hx.2;have h4:=Lib.itoa_length_le x.size (by omega) (by omega);show(Ml x++Dw l).length≤_
  unfold Ml;rw[Zb,Qy,Zd];simp only[Zt,Zu,Zb,Zd,Zj];omega
theorem pr_len3 {p:Pr}(h:Df p=true)(hn:∀x,x∈p.funcs→∀y,y∈x.body→Vb y):(Dn p).length≤300*prN p:=by
 unfold Df at h;rw[Zf,Zl,Zl]at h;have h1:=gN p.arrays h.1;have h2:=eL p.funcs h.2 hn;unfold Dn prN;rw[Zb];omega
theorem Xk:∀(f:Nat) (s:Bs) (line:Nat),1≤line→(∀n,Le f s line=.error n→1≤n)∧∀T,Le f s line=.ok T→Gd T∧(∀t,t∈T→I64 t.num)∧T.length≤s.length+1
 |0,s,line,hl=>⟨fun n h=>by cases h;exact hl,fun T h=>by cases h⟩
 |f+1,s,line,hl=>by
  have hs:=bQ (s.length+1) s;rw[Le];generalize (Ei (s.length+1) s).1=r at hs ⊢;generalize (Ei (s.length+1) s).2.1=F;generalize (Ei (s.length+1) s).2.2=b;have hF:1≤line+F:=by omega
  cases b with
  |false=>exact⟨fun n h=>by cases h;exact hF,fun T h=>by cases h⟩
  |true=>
   simp only[if_true]
   by_cases hr:r=[]
   ·rw[if_pos hr]
    refine⟨fun n h=>(by cases h),fun T h=>?_⟩
    cases h
    refine⟨⟨rfl,fun t ht=>?_⟩,fun t ht=>?_,by simp⟩
    ·rw[Zr.1 ht];show(1:Int)≤((line+F:Nat):Int);omega
    ·rw[Zr.1 ht];exact Ga
   ·rw[if_neg hr]
    cases ht:Ng r with
    |none=>exact⟨fun n h=>by cases h;exact hF,fun T h=>by cases h⟩
    |some q=>
     obtain⟨k,x,n⟩:=q;obtain⟨x1,x2,x3,x4⟩:=mP ht;have hx:0<x.length:=List.length_pos_iff.2 x1;have hd:(r.drop x.length).length=r.length-x.length:=List.length_drop;have hrl:0<r.length:=List.length_pos_iff.2 hr;obtain⟨i1,i2⟩:=Xk f (r.drop x.length) (line+F) hF;dsimp only
     cases hc:Le f (r.drop x.length) (line+F)with
     |error m=>exact⟨fun n h=>by cases h;exact i1 m hc,fun T h=>by cases h⟩
     |ok l=>
      refine⟨fun n h=>(by cases h),fun T h=>?_⟩
      cases h
      obtain⟨g,gn,gl⟩:=i2 l hc;obtain⟨u,v,rfl⟩:=g.1.ne;refine⟨⟨g.1,fun t ht=>?_⟩,fun t ht=>?_,?_⟩
      ·rcases Zn.1 ht with rfl|ht
       ·show(1:Int)≤((line+F:Nat):Int);omega
       ·exact g.2 t ht
      ·rcases Zn.1 ht with rfl|ht
       ·exact x3
       ·exact gn t ht
      ·rw[Zd];omega
def Fin(r:Pr ×Int ×Int):Prop:=(r.2.1≠0∧r.1=⟨[],[]⟩∧1≤r.2.2)∨(r.2.1=0∧r.2.2=0∧Df r.1=true∧prN r.1≤20001)
theorem fin_of {T:List Tk}(hg:Gd T)(hT:T.length≤20001)(f:Nat):Fin (Mw (Qq (Di f ⟨[],[]⟩ T))):=by
 rcases cN f ⟨[],[]⟩ T hg with⟨e,he,h1⟩|⟨x,r,he,hr,hn⟩
 ·rw[he]
  show Fin (if(40:Int)=0∧_ then _ else _)
  rw[if_neg (by rintro⟨h,_⟩;exact absurd h (by decide))];exact .inl ⟨by show(40:Int)≠0;decide,rfl,h1⟩
 ·rw[he]
  obtain⟨t,u,rfl⟩:=hr.1.ne;have hn0:prN ⟨[],[]⟩=0:=rfl;show Fin (Mw (if t.kind=5 then(x,0,0)else((⟨[],[]⟩:Pr),40,t.line)))
  by_cases h5:t.kind=5
  ·rw[if_pos h5]
   show Fin (if(0:Int)=0∧Df x=false then((⟨[],[]⟩:Pr),41,1)else(x,0,0))
   cases hx:Df x with
   |false=>rw[if_pos ⟨rfl,rfl⟩];exact .inl ⟨by show(41:Int)≠0;decide,rfl,by show(1:Int)≤1;decide⟩
   |true=>rw[if_neg (by rintro⟨_,h⟩;cases h)];exact .inr ⟨rfl,rfl,hx,by show prN x≤20001;omega⟩
  ·rw[if_neg h5]
   show Fin (if(40:Int)=0∧_ then _ else _)
   rw[if_neg (by rintro⟨h,_⟩;exact absurd h (by decide))];exact .inl ⟨by show(40:Int)≠0;decide,rfl,hr.2 t Za⟩
theorem oY(z:Bs)(hz:z.length≤20000)(w:World)(hl:Jk w):
  ∃r,Fin r∧Calls Zg 14 #[.string (Aa z)] w (WhP w r):=by
 obtain⟨h1,h2⟩:=Xk (z.length+1) z 1 (Zi _);have hsc:∀w2,Jk w2→Calls Zg 20 #[.string (Aa z)] w2 (Ny (Le (z.length+1) z 1) w2):=fun w2 h=>eW z hz w2 h
 cases hS:Le (z.length+1) z 1 with
 |error n=>
  rw[hS]at hsc;refine⟨Mw ((⟨[],[]⟩:Pr),20,(n:Int)),?_,cU z w _ (Ze fun w1 hb1=>pZ z n w1 (Ze fun w2 hb2=>hsc w2 ((hl.old hb1).old hb2)))⟩;show Fin (if(20:Int)=0∧_ then _ else _)
  rw[if_neg (by rintro⟨h,_⟩;exact absurd h (by decide))];have:=h1 n hS;exact .inl ⟨by show(20:Int)≠0;decide,rfl,by show(1:Int)≤(n:Int);omega⟩
 |ok T=>
  rw[hS]at hsc;obtain⟨g,gn,gl⟩:=h2 T hS;exact⟨Mw (Qq (Di (4*T.length+4) ⟨[],[]⟩ T)),fin_of g (by omega) _,cU z w _ (Ze fun w1 hb1=>aK z T g.1 gn (by omega) _ (Zi _) w1 (Ze fun w2 hb2=>hsc w2 ((hl.old hb1).old hb2)))⟩
theorem Av.n64 {D:Nat→Prop}{w:World}{l:List St}{v:Value}(h:Av D w l v):∀x,x∈l→Vb x:=by
 induction h with
 |mk l a cap b off sa st se hcap hfit ha h0 h1 h2 h3 h4 ea et ee ih1 ih2=>
  intro x hx;obtain⟨i,hi,rfl⟩:=List.getElem_of_mem hx;have e:Ib l i=l[i]:=by simp [Ib,Zs hi]
  have k1:=(ea i hi).n64;have k2:=ih1 i hi;have k3:=ih2 i hi;rw[e]at k1 k2 k3;generalize l[i]=y at k1 k2 k3;obtain⟨k,nm,args,thn,els⟩:=y;exact .mk k nm args thn els k1 k2 k3
theorem Bx.n64 {D:Nat→Prop}{w:World}{l:List Fu}{v:Value}(h:Bx D w l v):∀g,g∈l→∀x,x∈g.body→Vb x:=by
 obtain⟨a,cap,b,off,pv,lv,bv,hv,h1,h2,h3,h4⟩:=h;intro g hg;obtain⟨i,hi,rfl⟩:=List.getElem_of_mem hg;have e:Eb l i=l[i]:=by simp [Eb,Zs hi]
 have:=(h4 i hi).2.2.2.n64;rw[e]at this;exact this
theorem ps_good {p:Pr}{D:Nat→Prop}{w0:World}{vf:Value}(hr:Df p=true)(hf:Bx D w0 p.funcs vf)(hlen:(Dn p).length≤20000)(w:World)(hl:Jk w):
  Calls Zg 14 #[.string (Aa (Dn p))] w fun e w'=>Below w.heap.size w w'∧∃aa ac fa fc,e=.returned (.tuple #[.agg #[.slice aa p.arrays.length ac,.slice fa p.funcs.length fc],.int .i64 0,.int .i64 0])∧Bv (fun _=>True) w' p.arrays (.slice aa p.arrays.length ac)∧Bx (fun _=>True) w' p.funcs (.slice fa p.funcs.length fc):=by
 refine(pr_good hr hf.n64 hlen w hl).mono ?_;rintro e w' ⟨hb,v,rfl,av,fv,rfl,ha,hf⟩;have ha:Bv (w.heap.size≤ ·) w' p.arrays av:=ha;have hf:Bx (w.heap.size≤ ·) w' p.funcs fv:=hf;obtain⟨aa,ac,rfl⟩:=ha.yshape;obtain⟨fa,fc,rfl⟩:=hf.yshape;exact⟨hb,aa,ac,fa,fc,rfl,ha.mono (fun _ _=>trivial),hf.mono (fun _ _=>trivial)⟩
def FoNo(e0 n:Int)(w:World)(e:Ending)(w':World):Prop:=Below w.heap.size w w'∧∃aa ac fa fc,e=.returned (.tuple #[.agg #[.slice aa 0 ac,.slice fa 0 fc],.int .i64 e0,.int .i64 n])
def FoYes(p:Pr)(w:World)(e:Ending)(w':World):Prop:=Below w.heap.size w w'∧Ct (Dn p).length∧∃aa ac fa fc,e=.returned (.tuple #[.agg #[.slice aa p.arrays.length ac,.slice fa p.funcs.length fc],.int .i64 0,.int .i64 0])∧Bv (· <w'.heap.size) w' p.arrays (.slice aa p.arrays.length ac)∧Bx (· <w'.heap.size) w' p.funcs (.slice fa p.funcs.length fc)
theorem tP(z:Bs)(hz:z.length≤20000)(w:World)(hl:Jk w):
  (∃e0 n:Int,e0≠0∧1≤n∧Calls Zg 14 #[.string (Aa z)] w (FoNo e0 n w))∨∃p,Df p=true∧Calls Zg 14 #[.string (Aa z)] w (FoYes p w):=by
 obtain⟨r,hf,hc⟩:=oY z hz w hl;obtain⟨p,e0,n⟩:=r;rcases hf with⟨h1,h2,h3⟩|⟨h1,h2,h3,h4⟩
 ·refine .inl ⟨e0,n,h1,h3,hc.mono ?_⟩
  have h2:p=⟨[],[]⟩:=h2;subst h2;rintro e w' ⟨hb,v,rfl,av,fv,rfl,ha,hf⟩;have ha:Bv (w.heap.size≤ ·) w' [] av:=ha;have hf:Bx (w.heap.size≤ ·) w' [] fv:=hf;obtain⟨aa,ac,rfl⟩:=ha.yshape;obtain⟨fa,fc,rfl⟩:=hf.yshape;exact⟨hb,aa,ac,fa,fc,rfl⟩
 ·refine .inr ⟨p,h3,hc.mono ?_⟩
  have h1:e0=0:=h1;have h2:n=0:=h2;subst h1 h2;rintro e w' ⟨hb,v,rfl,av,fv,rfl,ha,hf⟩;have ha:Bv (w.heap.size≤ ·) w' p.arrays av:=ha;have hf:Bx (w.heap.size≤ ·) w' p.funcs fv:=hf;have hlen:(Dn p).length≤300*prN p:=pr_len3 h3 hf.n64;have h4:prN p≤20001:=h4;obtain⟨aa,ac,rfl⟩:=ha.yshape;obtain⟨fa,fc,rfl⟩:=hf.yshape;exact⟨hb,by show _≤_;omega,aa,ac,fa,fc,rfl,ha.strong.mono (fun _ h=>h.2),hf.strong.mono (fun _ h=>h.2)⟩
theorem rO {p:Pr}{D:Nat→Prop}{w0:World}{vf:Value}(hr:Df p=true)(hf:Bx D w0 p.funcs vf)(hlen:(Dn p).length≤20000)(w:World)(hl:Jk w):
  Calls Zg 14 #[.string (Aa (Dn p))] w (FoYes p w):=by
 refine(ps_good hr hf hlen w hl).mono ?_;rintro e w' ⟨hb,aa,ac,fa,fc,rfl,ha,hf⟩;exact⟨hb,by show _≤_;omega,aa,ac,fa,fc,rfl,ha.strong.mono (fun _ h=>h.2),hf.strong.mono (fun _ h=>h.2)⟩
theorem jI(b:Nat)(t:Int)(w:World)(hp:By w b [] t):
  Calls Zg 33 #[.pointer (some ⟨b,0,none⟩)] w fun e w'=>e=.returned (.string (Aa []))∧Below b w w':=by
 obtain⟨p,v,hbk,hq,hown⟩:=hp;have hUS:∀(q:Option Addr) (W:World),(Builtin.unsafeString_ #[125,3] 9 #[.pointer q,.int .i64 0]).run Zg W=.ok (.string (Aa [])) W:=fun q W=>Lib.run_unsafeString_none W _ _ _ q
 have mixed:Tryz.prog.follows .mixedOrders=true:=by kernel_rfl
 have hbk':w.drew.heap[b]? =some (.cells #[p,v,.int .i64 t] 81 (0,0)):=hbk;have hbl:b<w.heap.size:=by
  rcases Nat.lt_or_ge b w.heap.size with h|h
  ·exact h
  ·rw[Array.getElem?_eq_none h]at hbk;simp at hbk
 rcases hown.2 with⟨rfl,_⟩|⟨g,cap,cur,rfl,hbg,hg,hnc,hcm,hcs,htake⟩
 ·have c1:w.drew.cell? ⟨b,1,none⟩=some (.slice none 0 0):=by rw[Lib.cell_of_heap hbk'];rfl
  have hSD:(Builtin.unsafeSliceData_ #[77] 125 #[.slice none 0 0]).run Zg w.drew=.ok (.pointer none) w.drew:=Lib.run_unsafeSliceData_nil _ _ _ _ _;clear hbk hown hq;go_enter func33,ntmps33
  go_wp2
  go_region_o
  all_goals(go_wp2;go_ret;exact⟨rfl,Below.drew (Below.refl b w)⟩)
 ·by_cases hz:cap=0
  ·subst hz
   have c1:w.drew.cell? ⟨b,1,none⟩=some (.slice (some ⟨g,0,none⟩) 0 0):=by rw[Lib.cell_of_heap hbk'];rfl
   have hg':w.drew.heap[g]? =some (.cells cur 5 (0,0)):=hg;have hSD:(Builtin.unsafeSliceData_ #[77] 125 #[.slice (some ⟨g,0,none⟩) 0 0]).run Zg w.drew=.ok (.pointer (some ⟨w.drew.heap.size,0,none⟩)) (w.drew.alloc (.view ⟨g,0,none⟩ 5)):=
    Lib.run_unsafeSliceData_zero _ _ _ _ underlying125 _ _ (5,cur.size) (by simp [World.shape?,hg'])
   have c2:w.cell? ⟨b,1,none⟩=some (.slice (some ⟨g,0,none⟩) 0 0):=c1;clear hbk hown hq hg hg' htake;go_enter func33,ntmps33
   go_wp2
   go_region_o
   all_goals(go_wp2;go_ret;exact⟨rfl,(Below.drew (Below.refl b w)).alloc (Nat.le_of_lt hbl) _⟩)
  ·have c1:w.drew.cell? ⟨b,1,none⟩=some (.slice (some ⟨g,0,none⟩) 0 cap):=by rw[Lib.cell_of_heap hbk'];rfl
   have hSD:(Builtin.unsafeSliceData_ #[77] 125 #[.slice (some ⟨g,0,none⟩) 0 cap]).run Zg w.drew=.ok (.pointer (some ⟨g,0,none⟩)) w.drew:=
    Lib.run_unsafeSliceData_row _ _ _ _ _ _ hz
   clear hbk hown hq hg htake;go_enter func33,ntmps33
   go_wp2
   go_region_o
   all_goals(go_wp2;go_ret;exact⟨rfl,Below.drew (Below.refl b w)⟩)
theorem aE(p:Pr)(sa sf:Value)(w:World)(hb:3<w.heap.size)(ht:Fg w)(ha:Bv (· <w.heap.size) w p.arrays sa)(hf:Bx (· <w.heap.size) w p.funcs sf)(hr:Df p=true)(hfit:Ct (Dn p).length):
  Calls Zg 18 #[.agg #[sa,sf]] w fun r w'=>r=.returned (.tuple #[.string (Aa (Dn p)),.int .i64 0])∧Below w.heap.size w w':=
 jH p sa sf w hb ht ha hf hr (fun b W h=>by
  by_cases hn:Dn p=[]
  ·rw[hn]at h ⊢;exact jI b 0 W h
  ·exact lZ b _ _ _ h hn) hfit
def awP:List It:=[⟨[105,110,116],2,0,[32],[]⟩,⟨[109,97,105,110],1,0,[],[]⟩,⟨[40],4,0,[],[]⟩,⟨[41],4,0,[32],[]⟩,⟨[123],4,0,[32],[]⟩,⟨[112,114,105,110,116],2,0,[],[]⟩,⟨[40],4,0,[],[]⟩,⟨[49],3,1,[32],[]⟩,⟨[43],4,0,[32],[]⟩,⟨[50],3,2,[32],[]⟩,⟨[42],4,0,[32],[]⟩,⟨[51],3,3,[],[]⟩,⟨[41],4,0,[],[]⟩,⟨[59],4,0,[32],[]⟩,⟨[125],4,0,[],[]⟩]
def awQ:List It:=[⟨[105,110,116],2,0,[32],[]⟩,⟨[109,97,105,110],1,0,[],[]⟩,⟨[40],4,0,[],[]⟩,⟨[41],4,0,[32],[]⟩,⟨[123],4,0,[10],[]⟩]
def awX:List It:=[⟨[97],1,0,[32],[]⟩,⟨[45],4,0,[32],[]⟩,⟨[98],1,0,[32],[]⟩,⟨[45],4,0,[32],[]⟩,⟨[99],1,0,[],[]⟩]
theorem awP_ok:oQ [] awP=true:=by kernel_rfl
theorem awQ_ok:oQ [] awQ=true:=by kernel_rfl
theorem awX_ok:oQ [] awX=true:=by kernel_rfl
theorem aw_p(w:World)(hl:Jk w):
  Calls Zg 14 #[.string ⟨#[105,110,116,32,109,97,105,110,40,41,32,123,32,112,114,105,110,116,40,49,32,43,32,50,32,42,32,51,41,59,32,125]⟩] w fun e w'=>
   Below w.heap.size w w'∧∃aa an ac b off cap b2 o2 c2,e=.returned (.tuple #[.agg #[.slice aa an ac,.slice (some ⟨b,off,none⟩) 1 cap],.int .i64 0,.int .i64 0])∧w'.cell? ⟨b,off+3,none⟩=some (.slice (some ⟨b2,o2,none⟩) 1 c2)∧w'.cell? ⟨b2,o2,none⟩=some (.int .i64 8)∧1≤cap∧1≤c2:=by
 obtain⟨h1,h2⟩:=Vn [] awP awP_ok;refine(Sx [] [] Rl awP h1 h2 (by decide) (by decide) 100 (by decide) w hl).mono ?_;intro e w' hp;obtain⟨hb,v,he,av,fv,hv,hxa,hxf⟩:=hp;have e1:(Mw (Qq (Di 100 ⟨[],[]⟩ (Eg (1+Cx (Aw [] [])) awP)))).2.1=0:=by kernel_rfl
 have e2:(Mw (Qq (Di 100 ⟨[],[]⟩ (Eg (1+Cx (Aw [] [])) awP)))).2.2=0:=by kernel_rfl
 have e3:(Mw (Qq (Di 100 ⟨[],[]⟩ (Eg (1+Cx (Aw [] [])) awP)))).1.funcs.length=1:=by kernel_rfl
 have e4:(Eb (Mw (Qq (Di 100 ⟨[],[]⟩ (Eg (1+Cx (Aw [] [])) awP)))).1.funcs 0).body.length=1:=by kernel_rfl
 have e5:(Ib (Eb (Mw (Qq (Di 100 ⟨[],[]⟩ (Eg (1+Cx (Aw [] [])) awP)))).1.funcs 0).body 0).kind=8:=by kernel_rfl
 generalize Mw (Qq (Di 100 ⟨[],[]⟩ (Eg (1+Cx (Aw [] [])) awP)))=R at*;obtain⟨a,cap,b,off,pv,lv,bv,rfl,hc,_,hz,hall⟩:=hxf;rw[e3]at hc hz hall;obtain⟨⟨_,_,_,g3⟩,_,_,hst⟩:=hall 0 (by decide);obtain⟨a2,c2,hs2⟩:=hst.shape;rw[hs2]at hst g3;rcases hz with hz|⟨rfl,_⟩
 ·omega
 have hq:∃b2 o2,a2=some ⟨b2,o2,none⟩∧w'.cell? ⟨b2,o2,none⟩=some (.int .i64 8)∧1≤c2:=by
  rw[←e5]
  cases hst with
  |mk _ _ _ b2 o2 sa st se hcap hfit ha h0=>
   rcases ha with ha|⟨ha,_⟩
   ·omega
   ·exact⟨b2,o2,ha,by simpa using h0 0 (by omega),by omega⟩
 obtain⟨b2,o2,rfl,hk,hc2⟩:=hq;rw[e4]at g3;obtain⟨aa,an,ac,rfl⟩:∃a n c,av=Value.slice a n c:=by obtain⟨a,c,h⟩:=hxa.yshape;exact⟨a,_,c,h⟩
 refine⟨hb,aa,an,ac,b,off,cap,b2,o2,c2,?_,by simpa using g3,hk,hc,hc2⟩;rw[he,hv,e1,e2,e3]
theorem aw_q(w:World)(hl:Jk w):
  Calls Zg 14 #[.string ⟨#[105,110,116,32,109,97,105,110,40,41,32,123,10]⟩] w fun e w'=>
   Below w.heap.size w w'∧∃aa an ac fa fn fc,e=.returned (.tuple #[.agg #[.slice aa an ac,.slice fa fn fc],.int .i64 40,.int .i64 2]):=by
 obtain⟨h1,h2⟩:=Vn [] awQ awQ_ok;refine(Sx [] [] Rl awQ h1 h2 (by decide) (by decide) 100 (by decide) w hl).mono ?_;intro e w' hp;obtain⟨hb,v,he,av,fv,hv,hxa,hxf⟩:=hp;obtain⟨aa,an,ac,rfl⟩:∃a n c,av=Value.slice a n c:=by obtain⟨a,c,h⟩:=hxa.yshape;exact⟨a,_,c,h⟩
 obtain⟨fa,fn,fc,rfl⟩:∃a n c,fv=Value.slice a n c:=by obtain⟨a,c,h⟩:=hxf.yshape;exact⟨a,_,c,h⟩
 refine⟨hb,aa,an,ac,fa,fn,fc,?_⟩;rw[he,hv];rfl
theorem aw_x(w:World)(hl:Jk w):
  Calls Zg 13 #[.string ⟨#[97,32,45,32,98,32,45,32,99]⟩] w fun e w'=>
   Below w.heap.size w w'∧∃k o n s b off cap,e=.returned (.tuple #[.agg #[.int .i64 k,.int .i64 o,.int .i64 n,.string s,.slice (some ⟨b,off,none⟩) 2 cap],.int .i64 0,.int .i64 0])∧w'.cell? ⟨b,off+8,none⟩=some (.string ⟨#[99]⟩):=by
 obtain⟨h1,h2⟩:=Vn [] awX awX_ok;refine(tR [] [] Rl awX h1 h2 (by decide) (by decide) 100 (by decide) w hl).mono ?_;intro e w' hp;obtain⟨hb,v,he,s,hv,hx,hn⟩:=hp;have e1:(Td (cB (Bc 100 1 (Eg (1+Cx (Aw [] [])) awX)))).2.1=0:=by kernel_rfl
 have e2:(Td (cB (Bc 100 1 (Eg (1+Cx (Aw [] [])) awX)))).2.2=0:=by kernel_rfl
 have e3:(Td (cB (Bc 100 1 (Eg (1+Cx (Aw [] [])) awX)))).1.args.length=2:=by kernel_rfl
 have e4:(Cb (Td (cB (Bc 100 1 (Eg (1+Cx (Aw [] [])) awX)))).1.args 1).name=[99]:=by kernel_rfl
 generalize Td (cB (Bc 100 1 (Eg (1+Cx (Aw [] [])) awX)))=R at*;obtain⟨a,cap,rfl⟩:=hx.shape;obtain⟨b,off,s2,rfl,_,_,_,_,h4,_⟩:=hx.cellAt 1 (by omega);rw[e4]at h4;refine⟨hb,R.1.kind,R.1.op,R.1.n,Aa R.1.name,b,off,cap,?_,h4⟩;rw[he,hv,e1,e2,e3]
theorem jB(w:World)(hl:Jk w):
  Calls Zg 11 #[] w fun e w'=>e=.returned (.bool true)∧Below w.heap.size w w':=by
 have HL:=Ze hl;clear hl;go_enter func11,ntmps11
 go_wp2_with fail
 refine(aw_p w HL.o).mono ?_;rintro e w1 ⟨hb1,aa,an,ac,b,off,cap,b2,o2,c2,rfl,h3,hk,hc,hc2⟩;have hal:Below w1.heap.size w1 (w1.alloc (.cells #[.slice aa an ac,.slice (some ⟨b,off,none⟩) 1 cap] 34)):=bA;have HO:=Ze (Ae.new w1 [.slice aa an ac,.slice (some ⟨b,off,none⟩) 1 cap] 34);have HL1:=Ze ((HL.o.old hb1).old hal);have HB1:=Ze (hb1.trans (hal.mono hb1.size));have H3:=Ze (Ac hal h3);have HK:=Ze (Ac hal hk);clear hb1 h3 hk hal;go_upto_region 2 with(fail)
 generalize w1.alloc (.cells #[.slice aa an ac,.slice (some ⟨b,off,none⟩) 1 cap] 34)=w2 at*;obtain⟨pb,hpb⟩:∃pb,w1.heap.size=pb:=⟨_,rfl⟩;rw[hpb]at HO ⊢;clear hpb;go_wp2_with fail
 refine(aw_q w2 HL1.o).mono ?_;rintro e w3 ⟨hb3,a3,n3,d3,f3,m3,e3,rfl⟩;have hal:Below w3.heap.size w3 (w3.alloc (.cells #[.slice a3 n3 d3,.slice f3 m3 e3] 34)):=bA;have HO3:=Ze ((HO.o.old hb3).old hal);have HL3:=Ze ((HL1.o.old hb3).old hal);have HB3:=Ze (HB1.o.trans ((hb3.trans (hal.mono hb3.size)).mono HB1.o.size));have H33:=Ze (Ac hal (Ac hb3 H3.o));have HK3:=Ze (Ac hal (Ac hb3 HK.o));clear hb3 hal HO HL1 HB1 H3 HK;go_upto_region 3 with(fail)
 generalize w3.alloc (.cells #[.slice a3 n3 d3,.slice f3 m3 e3] 34)=w4 at*;go_wp2_with fail
 refine(aw_x w4 HL3.o).mono ?_;rintro e w5 ⟨hb5,k,o,n,s,b5,off5,cap5,rfl,h5⟩;have hal:Below w5.heap.size w5 (w5.alloc (.cells #[.int .i64 k,.int .i64 o,.int .i64 n,.string s,.slice (some ⟨b5,off5,none⟩) 2 cap5] 27)):=bA;have HO5:=Ze ((HO3.o.old hb5).old hal);have HX5:=Ze (Ae.new w5 [.int .i64 k,.int .i64 o,.int .i64 n,.string s,.slice (some ⟨b5,off5,none⟩) 2 cap5] 27);have HB5:=Ze (HB3.o.trans ((hb5.trans (hal.mono hb5.size)).mono HB3.o.size));have H35:=Ze (Ac hal (Ac hb5 H33.o));have HK5:=Ze (Ac hal (Ac hb5 HK3.o));have H85:=Ze (Ac hal h5);clear hb5 hal HO3 HL3 HB3 H33 HK3 h5;go_upto_region 4 with(fail)
 generalize w5.alloc (.cells #[.int .i64 k,.int .i64 o,.int .i64 n,.string s,.slice (some ⟨b5,off5,none⟩) 2 cap5] 27)=w6 at*;obtain⟨xb,hxb⟩:∃xb,w5.heap.size=xb:=⟨_,rfl⟩;rw[hxb]at HX5 ⊢;clear hxb;have p1:=HO5.o.at 1 _ rfl;have q4:=HX5.o.at 4 _ rfl;have c3:=H35.o;have ck:=HK5.o;have c8:=H85.o;have hcI:(1:Int)≤(cap:Int):=by omega
 go_wp2_with fail
 go_ret
 exact⟨rfl,HB5.o⟩
def Vm(c n:Int):Int:=if c<0 then(-(c+1)) % n else c % n
theorem oX(c n:Int)(hc:I64 c)(h0:0<n)(h1:n≤9223372036854775807)(w:World):
  Calls Zg 12 #[.int .i64 c,.int .i64 n] w fun e w'=>e=.returned (.int .i64 (Vm c n))∧w'=w:=by
 obtain⟨l,u⟩:=hc;unfold Vm
 by_cases hneg:c<0
 ·rw[if_pos hneg]
  have hn0:(n==0)=false:=by simp;omega
  go_enter func12,ntmps12
  go_wp2_with fail
  go_ret
  exact⟨Iv (by show -((c+1).tmod n)=_;rw[←Int.neg_tmod,Int.tmod_eq_emod_of_nonneg (by omega)]),rfl⟩
 ·rw[if_neg hneg]
  have hneg':0≤c:=by omega
  go_enter func12,ntmps12
  go_wp2_with fail
  go_ret
  exact⟨rfl,rfl⟩
theorem gW(c n:Int)(h:0<n):∃k:Nat,Vm c n=k∧(k:Int)<n:=by
 unfold Vm;split
 ·exact⟨((-(c+1)) % n).toNat,by have:=Int.emod_nonneg (-(c+1)) (show n≠0 by omega);omega,by have:=Int.emod_nonneg (-(c+1)) (show n≠0 by omega);have:=Int.emod_lt_of_pos (-(c+1)) h;omega⟩
 ·exact⟨(c % n).toNat,by have:=Int.emod_nonneg c (show n≠0 by omega);omega,by have:=Int.emod_nonneg c (show n≠0 by omega);have:=Int.emod_lt_of_pos c h;omega⟩
end Go.Proofs.YtcfpfnoldgnloaaGreatDoor

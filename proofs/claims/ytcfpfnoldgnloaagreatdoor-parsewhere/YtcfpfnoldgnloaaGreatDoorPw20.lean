/-
  awake: chapter 4's examples. Condition: the library's tables lie in memory.
-/
import Derived.Test.YtcfpfnoldgnloaaGreatDoorPw19
import Derived.Test.YtcfpfnoldgnloaaGreatDoorPw04
set_option linter.unusedVariables false
set_option linter.unusedSimpArgs false
namespace Go.Proofs.YtcfpfnoldgnloaaGreatDoor
open Go.RowKit
set_option maxHeartbeats 20000000
set_option maxRecDepth 100000
open List renaming mem_cons_self→Za,length_append→Zb,mem_cons_of_mem→Zc,length_cons→Ze,append_assoc→Zg,length_nil→Zi,getElem?_eq_getElem→Zl,all_eq_true→Zm,mem_cons→Zo,flatMap_cons→Zp,flatten_cons→Zq,flatten_nil→Zr
open Fh renaming app→Zd
open Bool renaming and_eq_true→Zf
open Nat renaming le_refl→Zh,mul_le_mul_right→Zk,add_mul→Zn
open Go.Lib renaming nDigits→Zj
def Cu:List Pc→Bs
 | .g b::l=>b++Cu l
 |_=>[]
def Fm:List Pc→List It
 |[]=>[]
 | .g _::l=>Fm l
 | .t x::l=>⟨x.text,x.kind,x.num,Cu l,[]⟩::Fm l
theorem Ni:∀l:List Pc,Cu l++Dl (Fm l)=Ay l
 |[]=>rfl
 | .g b::l=>by
  show(b++Cu l)++Dl (Fm l)=b++Ay l
  rw[Zg,Ni l]
 | .t x::l=>by
  show []++Dl (_::Fm l)=x.text++Ay l
  rw[Sq,List.nil_append];show x.text++(Au (Cu l) []++Dl (Fm l))=_
  rw[show Au (Cu l) []=Cu l by unfold Au;simp,Ni l]
theorem bQ:∀(l:List Pc) (line:Nat),(Qi line (Fm l)).map t3=Gu l
 |[],line=>rfl
 | .g b::l,line=>bQ l line
 | .t x::l,line=>by
  show(⟨x.kind,x.text,x.num,line⟩:Tk)|>fun t=>t3 t::(Qi _ (Fm l)).map t3=x::Gu l
  rw[bQ l];rfl
def Nj(x:T3):Prop:=Kz x.text x.kind x.num∧(x.kind=3→∀r,x.text≠39::r)∧I64 x.num
def Bd(l:List Pc):Prop:= ∀p,p∈l→match p with| .t x=>Nj x| .g b=> ∀c,c∈b→Bf c=true
theorem Pa:∀(l:List Pc),Bd l→∀c,c∈Cu l→Bf c=true
 |[],h,c,hc=>by cases hc
 | .t x::l,h,c,hc=>by cases hc
 | .g b::l,h,c,hc=>by
  rcases List.mem_append.1 (show c∈b++Cu l from hc)with hc|hc
  ·exact h (.g b) Za c hc
  ·exact Pa l (fun p hp=>h p (Zc _ hp)) c hc
theorem aC(z:Bs):∀(l:List Pc),Bd l→Fh Lh l z→Oz z (Fm l)∧∀i,i∈Fm l→I64 i.n
 |[],h,hs=>⟨trivial,fun i hi=>by cases hi⟩
 | .g b::l,h,hs=>aC z l (fun p hp=>h p (Zc _ hp)) hs
 | .t x::l,h,hs=>by
  have hl:Bd l:=fun p hp=>h p (Zc _ hp)
  obtain⟨i1,i2⟩:=aC z l hl hs.2;obtain⟨h1,h2,h3⟩:Nj x:=h (.t x) Za;have hg:Au (Cu l) []=Cu l:=by unfold Au;simp
  refine⟨⟨fP h1 h2 ?_,⟨Pa l hl,fun p hp=>by cases hp⟩,i1⟩,fun i hi=> ?_⟩
  ·show Lh x.kind (Au (Cu l) []++(Dl (Fm l)++z))=true
   rw[hg,←Zg,Ni];exact hs.1
  ·rcases Zo.1 hi with rfl|hi
   ·exact h3
   ·exact i2 i hi
theorem Sf {c:UInt8}{r:Bs}(h7:c.toNat<128)(h:c≠61∧c≠60∧c≠62∧c≠47):Lh 4 (c::r)=true:=by
 obtain⟨h1,h2,h3,h4⟩:=h;simp [Lh,h7,h1,h2,h3,h4]
theorem sepR:Mh Lh:=by
 refine⟨fun k=>rfl,fun k c r h=> ?_,fun c r h=> ?_,fun k r h=> ?_⟩
 ·have hc:c=32∨c=41∨c=93∨c=44∨c=59∨c=10:=by simpa [fH,or_assoc]using h
  by_cases h4:k=4
  ·subst h4;rcases hc with rfl|rfl|rfl|rfl|rfl|rfl<;>exact Sf (by decide) (by decide)
  ·by_cases h3:k=3
   ·subst h3;rcases hc with rfl|rfl|rfl|rfl|rfl|rfl<;>(unfold Lh;dsimp only;rw[if_neg (by decide),if_pos rfl];decide)
   ·unfold Lh
    rcases hc with rfl|rfl|rfl|rfl|rfl|rfl<;>(dsimp only;rw[if_neg h4,if_neg h3];decide)
 ·unfold cR at h
  by_cases hl:By c=true
  ·have:=Oh hl
   exact Sf (Yr hl) ⟨by rintro rfl;exact absurd this (by decide),by rintro rfl;exact absurd this (by decide),by rintro rfl;exact absurd this (by decide),by rintro rfl;exact absurd this (by decide)⟩
  ·by_cases hd:Bq c=true
   ·have h1:=dT hd
    have h2:=Wa hd;exact Sf h2 ⟨by rintro rfl;exact absurd hd (by decide),by rintro rfl;exact absurd hd (by decide),by rintro rfl;exact absurd hd (by decide),by rintro rfl;exact absurd hd (by decide)⟩
   ·have hc:c=40∨c=45∨c=33∨c=126:=by simpa [hl,hd,or_assoc]using h
    rcases hc with rfl|rfl|rfl|rfl<;>exact Sf (by decide) (by decide)
 ·by_cases h4:k=4
  ·subst h4;exact⟨Sf (by decide) (by decide),Sf (by decide) (by decide)⟩
  ·refine⟨?_,?_⟩<;>(unfold Lh;dsimp only;rw[if_neg h4,if_neg h];decide)
theorem digL:Xe:=fun u=>⟨Kq u,Rr u⟩
theorem bV(u:Nat)(h:u<10000000000000000000):Zj u≤19:=by
 by_cases h0:u<10
 ·rw[Zj,dif_pos h0];decide
 ·have step:∀(n u:Nat),(¬u<10→Zj (u / 10)≤n)→Zj u≤n+1:=fun n u h=>by
   rw[Zj];split
   ·omega
   ·rename_i hh;have:=h hh;omega
  have pw:∀(n u:Nat),u<10 ^ (n+1)→Zj u≤n+1:=by
   intro n
   induction n with
   |zero=>intro u hu;rw[Zj,dif_pos (by omega)];omega
   |succ n ih=>intro u hu;exact step (n+1) u (fun _=>ih (u / 10) (by rw[Nat.pow_succ]at hu;omega))
  exact pw 18 u (by omega)
theorem qU {n:Int}(h0:0≤n)(h1:I64 n):Nj ⟨3,Lib.itoa n,n⟩:=by
 have e:Lib.itoa n=Lib.decDigits n.toNat:=by unfold Lib.itoa;rw[if_neg (by omega)]
 have hu:(n.toNat:Int)=n:=by omega
 have hb:n.toNat≤9223372036854775807:=by have:=h1.2;omega
 refine⟨?_,fun _ r hr=> ?_,h1⟩
 ·show Kz (Lib.itoa n) 3 n
  rw[e];rcases hq:Lib.decDigits n.toNat with _|⟨c,t⟩
  ·exact absurd hq (Rr _)
  ·have hlen:(Lib.decDigits n.toNat).length≤19:=by
    rw[Lib.decDigits_length];exact bV _ (by omega)
   have:=Kz.num n.toNat hlen hb c t hq (Kq _ c (by rw[hq];exact Za));rw[hu]at this;rw[←hq];exact this
 ·have hr:Lib.itoa n=39::r:=hr
  rw[e]at hr;have:=Kq n.toNat 39 (by rw[hr];exact Za);exact absurd this (by decide)
theorem Xa:∀(f:Bool) (x:Bs),Gx f x=true→∀c,c∈x→c.toNat<128∧Rg (c.toNat:Nat)=true
 |_,[],_,c,hc=>by cases hc
 |f,d::l,h,c,hc=>by
  rw[Gx]at h;obtain⟨h1,h2⟩:=(Zf _ _).mp h;rcases Zo.1 hc with rfl|hc
  ·unfold Rg
   rw[Lb,Kt];rcases(Bool.or_eq_true _ _).mp h1 with h3|h3
   ·exact⟨Yr h3,by rw[h3];rfl⟩
   ·have h4:=((Zf _ _).mp h3).2
    exact⟨Wa h4,by rw[h4];simp⟩
  ·exact Xa false l h2 c hc
theorem Tz {s:Bs}(h:Aq s=true):Nj ⟨1,s,0⟩:=by
 have h':=h;unfold Aq at h';simp only[Zf]at h';obtain⟨⟨⟨h1,h2⟩,h3⟩,h4⟩:=h';refine⟨?_,fun e=>absurd (show(1:Int)=3 from e) (by decide),Gl⟩
 cases s with
 |nil=>exact absurd h1 (by decide)
 |cons c t=>
  have hl:By c=true:=by
   rw[Gx]at h4;have:=((Zf _ _).mp h4).1;simpa using this
  exact .name (c::t) h (by simpa using h3) c t rfl hl (Xa true _ h4)
theorem Ii {x:Bs}(h:Fb x=true):Nj ⟨4,x,0⟩:=⟨kZ h,fun e=>absurd (show(4:Int)=3 from e) (by decide),Gl⟩
theorem lC {o:Int}(h:0<Al o∨o=17∨o=18∨o=19):Fb (Ap o)=true:=by
 rcases h with h|rfl|rfl|rfl
 ·obtain⟨i,rfl⟩:=Qt h
  exact(by decide:∀i:Fin 16,Fb (Ap ((i.val:Int)+1))=true) i
 ·decide
 ·decide
 ·decide
inductive N64:Ex→Prop
 |mk (k o n:Int) (nm:Bs) (args:List Ex) (h:I64 n) (ha:∀x,x∈args→N64 x):N64 (.mk k o n nm args)
theorem Bd.app {a b:List Pc}(h1:Bd a)(h2:Bd b):Bd (a++b):=fun p hp=>by
 rcases List.mem_append.1 hp with h|h
 ·exact h1 p h
 ·exact h2 p h
theorem Bd.cons {p:Pc}{l:List Pc}(h1:match p with| .t x=>Nj x| .g b=> ∀c,c∈b→Bf c=true)(h2:Bd l):Bd (p::l):=fun q hq=>by
 rcases Zo.1 hq with rfl|h
 ·exact h1
 ·exact h2 q h
theorem Bd.nil:Bd []:=fun p hp=>by cases hp
theorem aE {e:Ex}{lv:Int}(h:Bd (Co e)):Bd (Dn e lv):=by
 unfold Dn Hg;split
 ·exact Bd.app (Bd.app (Bd.cons (Ii (by decide)) Bd.nil) h) (Bd.cons (Ii (by decide)) Bd.nil)
 ·exact h
theorem Ko {e:Ex}(h:WEx e)(hn:N64 e):Bd (Co e):=by
 induction h with
 |num n h=>cases hn with|mk _ _ _ _ _ h1 ha=>rw[Wx];exact Bd.cons (qU h h1) Bd.nil
 |var s h=>rw[Up];exact Bd.cons (Tz h) Bd.nil
 |one o x ho hx ih=>cases hn with|mk _ _ _ _ _ h1 ha=>rw[Un];exact Bd.cons (Ii (lC (.inr ho))) (aE (ih (ha x Za)))
 |two o x y ho hx hy ihx ihy=>
  cases hn with
  |mk _ _ _ _ _ h1 ha=>
   rw[Vl];refine Bd.app (aE (ihx (ha x Za))) (Bd.cons (by show ∀c,c∈[32]→_;decide) (Bd.cons (Ii (lC (.inl ho))) (Bd.cons (by show ∀c,c∈[32]→_;decide) (aE (ihy (ha y (by simp)))))))
 |call s l h hl hx ih=>
  cases hn with
  |mk _ _ _ _ _ h1 ha=>
   rw[Mf];refine Bd.cons (Tz h) (Bd.cons (Ii (by decide)) (Bd.app ?_ (Bd.cons (Ii (by decide)) Bd.nil)));have hm:∀(l:List Ex),(∀x,x∈l→Bd (Co x))→Bd (l.flatMap (fun y=>[sg [44],.g [32]]++Co y)):=by
    intro l hl p hp;obtain⟨y,hy,hp⟩:=List.mem_flatMap.1 hp;exact Bd.app (Bd.cons (Ii (by decide)) (Bd.cons (by show ∀c,c∈[32]→_;decide) Bd.nil)) (hl y hy) p hp
   cases l with
   |nil=>exact Bd.nil
   |cons x l=>
    rw[Nv];exact Bd.app (ih x Za (ha x Za)) (hm l (fun y hy=>ih y (Zc _ hy) (ha y (Zc _ hy))))
 |idx s x h hx ih=>
  cases hn with
  |mk _ _ _ _ _ h1 ha=>rw[Vn];exact Bd.cons (Tz h) (Bd.cons (Ii (by decide)) (Bd.app (ih (ha x Za)) (Bd.cons (Ii (by decide)) Bd.nil)))
 |read=>rw[Wh];exact Bd.cons ⟨bI (by decide) (by decide),fun e=>absurd (show(2:Int)=3 from e) (by decide),Gl⟩ (Bd.cons (Ii (by decide)) (Bd.cons (Ii (by decide)) Bd.nil))
theorem Ag.n64 {D:Nat→Prop}{w:World}{l:List Ex}{v:Value}(h:Ag D w l v):∀x,x∈l→N64 x:=by
 induction h with
 |mk l a cap b off sv hcap hfit ha h0 h1 h2 h3 h4 hs hn ih=>
  intro x hx;obtain⟨i,hi,rfl⟩:=List.getElem_of_mem hx;have e:Bz l i=l[i]:=by simp [Bz,Zl hi]
  have h1:=ih i hi;have h2:=hn i hi;rw[e]at h1 h2;generalize l[i]=y at h1 h2;obtain⟨k,o,n,nm,args⟩:=y;exact .mk k o n nm args h2 h1
theorem rN {x:T3}(h:Nj x):x.text≠[]:=h.1.ne
theorem Ub:∀l:List Pc,Bd l→(Fm l).length≤(Ay l).length
 |[],h=>Zh _
 | .g b::l,h=>by
  have:=Ub l (fun p hp=>h p (Zc _ hp));show(Fm l).length≤(b++Ay l).length
  rw[Zb];omega
 | .t x::l,h=>by
  have:=Ub l (fun p hp=>h p (Zc _ hp));have h1:x.text≠[]:=rN (h (.t x) Za);have h2:0<x.text.length:=List.length_pos_iff.2 h1;show(Fm l).length+1≤(x.text++Ay l).length
  rw[Zb];omega
theorem Ik {S:Int→Bs→Bool}{t:Nat}{l:List Pc}{z:Bs}(h:Fh S l (10::z)):Fh S (Eg t l) z:=
 Zd (a:=[.g (Jv t)]++l) (b:=[.g [10]]) h trivial
theorem Gq {S:Int→Bs→Bool}(hS:Mh S)(s:Bs)(c:UInt8)(z:Bs)(hc:fH c=true):Fh S [sg s] (c::z):=⟨hS.ofSoft (Gc hc) 4,trivial⟩
theorem Ql {S:Int→Bs→Bool}:∀(l:List St),(∀x,x∈l→∀t z,Fh S (Gm t x) z)→∀t z,Fh S (Fi t l) z
 |[],_,t,z=>trivial
 |x::l,h,t,z=>by
  rw[Fi];exact Zd (h x Za t _) (Ql l (fun y hy=>h y (Zc _ hy)) t z)
theorem Nl {S:Int→Bs→Bool}(hS:Mh S)(hd:Xe){e:Ex}(h:WEx e)(l:List Pc)(z:Bs)(hz:Wn (Ay l++z))(hl:Fh S l z):Fh S (Co e++l) z:=Zd (ex_sep hS hd h _ hz) hl
theorem eW {S:Int→Bs→Bool}(hS:Mh S)(hd:Xe){e:Ex}(h:WEx e)(w:Bs)(t:Nat)(z:Bs):Fh S (Eg t (wd w:: .g [32]::sg [40]::(Co e++[sg [41],.g [32],sg [123]]))) z:=by
 refine Ik ⟨hS.soft 2 32 _ (by decide),?_,Nl hS hd h _ _ (Gc (by decide)) ⟨hS.soft 4 32 _ (by decide),Gq hS _ 10 _ (by decide)⟩⟩;rw[As,Zg];exact hS.ofHead (Jy hd h).app
theorem st_sep {S:Int→Bs→Bool}(hS:Mh S)(hd:Xe){x:St}(h:WSt x):∀t z,Fh S (Gm t x) z:=by
 induction h with
 |set s x h hx=>
  intro t z;rw[stp1];exact Ik ⟨hS.soft 1 32 _ (by decide),hS.soft 4 32 _ (by decide),Nl hS hd hx _ _ (Gc (by decide)) (Gq hS _ 10 _ (by decide))⟩
 |store s x y h hx hy=>
  intro t z;rw[stp2];refine Ik ⟨(hS.opens 1 _ (by decide)).2,?_,Nl hS hd hx _ _ (Gc (by decide)) ⟨hS.soft 4 32 _ (by decide),hS.soft 4 32 _ (by decide),Nl hS hd hy _ _ (Gc (by decide)) (Gq hS _ 10 _ (by decide))⟩⟩;rw[As,Zg];exact hS.ofHead (Jy hd hx).app
 |cond x a b hx ha hb iha ihb=>
  intro t z;rw[stp3];refine Zd (eW hS hd hx _ t _) (Zd (Ql a iha _ _) (Zd ?_ (Ik (Gq hS _ 10 _ (by decide)))))
  cases b with
  |nil=>exact trivial
  |cons y l=>
   rw[if_neg (by simp)];exact Zd (Ik ⟨hS.soft 4 32 _ (by decide),hS.soft 2 32 _ (by decide),Gq hS _ 10 _ (by decide)⟩) (Ql (y::l) ihb _ _)
 |loop x a hx ha iha=>
  intro t z;rw[stp4];exact Zd (eW hS hd hx _ t _) (Zd (Ql a iha _ _) (Ik (Gq hS _ 10 _ (by decide))))
 |brk=>intro t z;rw[stp5];exact Ik ⟨hS.soft 2 59 _ (by decide),Gq hS _ 10 _ (by decide)⟩
 |cont=>intro t z;rw[stp6];exact Ik ⟨hS.soft 2 59 _ (by decide),Gq hS _ 10 _ (by decide)⟩
 |ret x hx=>
  intro t z;rw[stp7];exact Ik ⟨hS.soft 2 32 _ (by decide),Nl hS hd hx _ _ (Gc (by decide)) (Gq hS _ 10 _ (by decide))⟩
 |print x hx=>
  intro t z;rw[stp8];refine Ik ⟨(hS.opens 2 _ (by decide)).1,?_,Nl hS hd hx _ _ (Gc (by decide)) ⟨hS.soft 4 59 _ (by decide),Gq hS _ 10 _ (by decide)⟩⟩;rw[As,Zg];exact hS.ofHead (Jy hd hx).app
 |trap x hx=>
  intro t z;rw[stp9];refine Ik ⟨(hS.opens 2 _ (by decide)).1,?_,Nl hS hd hx _ _ (Gc (by decide)) ⟨hS.soft 4 59 _ (by decide),Gq hS _ 10 _ (by decide)⟩⟩;rw[As,Zg];exact hS.ofHead (Jy hd hx).app
 |call s l hx=>
  intro t z;have e:Gm t (.mk 10 [] [.mk 5 0 0 s l] [] [])=Eg t (Co (.mk 5 0 0 s l)++[sg [59]]):=by rw[pZ,Mf];simp only[Zg,List.cons_append,List.nil_append]
  rw[e];exact Ik (Nl hS hd hx _ _ (Gc (by decide)) (Gq hS _ 10 _ (by decide)))
theorem qD {S:Int→Bs→Bool}(hS:Mh S)(x:Bs)(z:Bs)(hz:Wn z):Fh S (Hn x) z:=⟨hS.soft 2 32 _ (by decide),hS.ofSoft hz 1,trivial⟩
theorem lJ {S:Int→Bs→Bool}(hS:Mh S)(z:Bs)(hz:Wn z):∀(l:List Bs),Fh S (l.flatMap (fun y=>[sg [44],.g [32]]++Hn y)) z∧Wn (Ay (l.flatMap (fun y=>[sg [44],.g [32]]++Hn y))++z)
 |[]=>⟨trivial,hz⟩
 |y::l=>by
  obtain⟨h1,h2⟩:=lJ hS z hz l;rw[Zp];exact⟨Zd (a:=[sg [44],.g [32]]++Hn y) ⟨hS.soft 4 32 _ (by decide),qD hS y _ h2⟩ h1,Gc (by decide)⟩
theorem rU {S:Int→Bs→Bool}(hS:Mh S):∀(l:List Bs) (z:Bs),Fh S (l.flatMap Qo) z
 |[],z=>trivial
 |y::l,z=>by
  rw[Zp];exact Zd (Ik ⟨hS.soft 2 32 _ (by decide),hS.soft 1 59 _ (by decide),Gq hS _ 10 _ (by decide)⟩) (rU hS l z)
theorem fu_sep {S:Int→Bs→Bool}(hS:Mh S)(hd:Xe){g:Fu}(hg:WFu g)(z:Bs):Fh S (Vs g) z:=by
 obtain⟨nm,ps,ls,bd⟩:=g;obtain⟨_,_,_,hb⟩:=hg;dsimp only at hb;have hbd:Fh S ([sg [41],.g [32],sg [123],.g [10]]++(ls.flatMap Qo++(Fi 1 bd++Eg 0 [sg [125]]))) z:=
  ⟨hS.soft 4 32 _ (by decide),hS.soft 4 10 _ (by decide),(show Fh S (ls.flatMap Qo++(Fi 1 bd++Eg 0 [sg [125]])) z from Zd (rU hS ls _) (Zd (Ql bd (fun x hx=>st_sep hS hd (hb x hx)) _ _) (Ik (Gq hS _ 10 _ (by decide)))))⟩
 refine⟨hS.soft 2 32 _ (by decide),(hS.opens 1 _ (by decide)).1,?_,?_⟩
 ·cases ps with
  |nil=>exact hS.soft 4 41 _ (by decide)
  |cons x l=>exact hS.head 105 _ (by decide)
 ·show Fh S (Iv (ps.map Hn)++([sg [41],.g [32],sg [123],.g [10]]++(ls.flatMap Qo++(Fi 1 bd++Eg 0 [sg [125]])))) z
  refine Zd ?_ hbd
  cases ps with
  |nil=>exact trivial
  |cons x l=>
   have e:Iv ((x::l).map Hn)=Hn x++l.flatMap (fun y=>[sg [44],.g [32]]++Hn y):=by
    show Hn x++(l.map Hn).flatMap _=_;rw[List.flatMap_map]
   rw[e];obtain⟨h1,h2⟩:=lJ hS (Ay ([sg [41],.g [32],sg [123],.g [10]]++(ls.flatMap Qo++(Fi 1 bd++Eg 0 [sg [125]])))++z) (Gc (by decide)) l;exact Zd (qD hS x _ h2) h1
theorem ar_sep {S:Int→Bs→Bool}(hS:Mh S)(hd:Xe){a:Ar}(ha:0≤a.size)(z:Bs):Fh S (dN a) z:=by
 refine Ik ⟨hS.soft 2 32 _ (by decide),(hS.opens 1 _ (by decide)).2,?_,hS.soft 3 93 _ (by decide),hS.soft 4 59 _ (by decide),Gq hS _ 10 _ (by decide)⟩;exact hS.ofHead (Mz.app (show Mz (Ay [nu a.size,sg [93],sg [59]])from by rw[Od];exact(cN ha hd).app))
theorem iK {S:Int→Bs→Bool}(hS:Mh S)(hd:Xe):∀(m:List Ar) (l:List Fu) (z:Bs),(∀a,a∈m→0≤a.size)→(∀x,x∈l→WFu x)→Fh S (m.flatMap dN++l.flatMap Vs) z
 |[],[],z,_,_=>trivial
 |[],g::l,z,h1,h2=>by
  show Fh S ((g::l).flatMap Vs) z
  rw[Zp];exact Zd (fu_sep hS hd (h2 g Za) _) (iK hS hd [] l z h1 (fun x hx=>h2 x (Zc _ hx)))
 |a::m,l,z,h1,h2=>by
  rw[Zp,Zg];exact Zd (ar_sep hS hd (h1 a Za) _) (iK hS hd m l z (fun x hx=>h1 x (Zc _ hx)) h2)
inductive Xl:St→Prop
 |mk (k:Int) (nm:Bs) (args:List Ex) (thn els:List St) (ha:∀x,x∈args→N64 x) (ht:∀y,y∈thn→Xl y) (he:∀y,y∈els→Xl y):Xl (.mk k nm args thn els)
theorem iI {b:Bs}(h:b.all Bf=true):match Pc.g b with| .t x=>Nj x| .g b=> ∀c,c∈b→Bf c=true:=fun c hc=>Zm.1 h c hc
theorem word_ok {x:Bs}(h1:Hj x=true)(h2:Mj x=true):Nj ⟨2,x,0⟩:=⟨bI h1 h2,fun e=>absurd (show(2:Int)=3 from e) (by decide),Gl⟩
theorem kG(t:Nat):(Jv t).all Bf=true:=by
 unfold Jv;rw[Zm];intro c hc;rw[List.eq_of_mem_replicate hc];rfl
theorem La {t:Nat}{l:List Pc}(h:Bd l):Bd (Eg t l):=Bd.app (Bd.app (Bd.cons (iI (kG t)) Bd.nil) h) (Bd.cons (iI (by decide)) Bd.nil)
theorem Bd.sg {s:Bs}{l:List Pc}(h:Fb s=true)(hl:Bd l):Bd (sg s::l):=Bd.cons (Ii h) hl
theorem Bd.wd {s:Bs}{l:List Pc}(h:(Hj s && Mj s)=true)(hl:Bd l):Bd (wd s::l):=Bd.cons (word_ok ((Zf _ _).mp h).1 ((Zf _ _).mp h).2) hl
theorem Bd.nm {s:Bs}{l:List Pc}(h:Aq s=true)(hl:Bd l):Bd (nmp s::l):=Bd.cons (Tz h) hl
theorem Bd.sp {b:Bs}{l:List Pc}(h:b.all Bf=true)(hl:Bd l):Bd (.g b::l):=Bd.cons (iI h) hl
theorem Ng:∀(l:List St),(∀x,x∈l→∀t,Bd (Gm t x))→∀t,Bd (Fi t l)
 |[],_,t=>Bd.nil
 |x::l,h,t=>by
  rw[Fi];exact Bd.app (h x Za t) (Ng l (fun y hy=>h y (Zc _ hy)) t)
theorem Yg {e:Ex}(h:Bd (Co e)){w:Bs}(hw:(Hj w && Mj w)=true)(t:Nat):Bd (Eg t (wd w:: .g [32]::sg [40]::(Co e++[sg [41],.g [32],sg [123]]))):=
 La (.wd hw (.sp (by decide) (.sg (by decide) (.app h (.sg (by decide) (.sp (by decide) (.sg (by decide) .nil)))))))
theorem st_toks {x:St}(h:WSt x)(hn:Xl x):∀t,Bd (Gm t x):=by
 induction h with
 |set s x h hx=>
  cases hn with|mk _ _ _ _ _ ha ht he=>
  intro t;rw[stp1];exact La (.nm h (.sp (by decide) (.sg (by decide) (.sp (by decide) (.app (Ko hx (ha x Za)) (.sg (by decide) .nil))))))
 |store s x y h hx hy=>
  cases hn with|mk _ _ _ _ _ ha ht he=>
  intro t;rw[stp2];exact La (.nm h (.sg (by decide) (.app (Ko hx (ha x Za)) (.sg (by decide) (.sp (by decide) (.sg (by decide) (.sp (by decide) (.app (Ko hy (ha y (by simp))) (.sg (by decide) .nil)))))))))
 |cond x a b hx h1 h2 iha ihb=>
  cases hn with|mk _ _ _ _ _ ha ht he=>
  intro t;rw[stp3];refine .app (Yg (Ko hx (ha x Za)) (by decide) t) (.app (Ng a (fun y hy=>iha y hy (ht y hy)) _) (.app ?_ (La (.sg (by decide) .nil))));split
  ·exact .nil
  ·exact .app (La (.sg (by decide) (.sp (by decide) (.wd (by decide) (.sp (by decide) (.sg (by decide) .nil)))))) (Ng b (fun y hy=>ihb y hy (he y hy)) _)
 |loop x a hx h1 iha=>
  cases hn with|mk _ _ _ _ _ ha ht he=>
  intro t;rw[stp4];exact .app (Yg (Ko hx (ha x Za)) (by decide) t) (.app (Ng a (fun y hy=>iha y hy (ht y hy)) _) (La (.sg (by decide) .nil)))
 |brk=>intro t;rw[stp5];exact La (.wd (by decide) (.sg (by decide) .nil))
 |cont=>intro t;rw[stp6];exact La (.wd (by decide) (.sg (by decide) .nil))
 |ret x hx=>
  cases hn with|mk _ _ _ _ _ ha ht he=>
  intro t;rw[stp7];exact La (.wd (by decide) (.sp (by decide) (.app (Ko hx (ha x Za)) (.sg (by decide) .nil))))
 |print x hx=>
  cases hn with|mk _ _ _ _ _ ha ht he=>
  intro t;rw[stp8];exact La (.wd (by decide) (.sg (by decide) (.app (Ko hx (ha x Za)) (.sg (by decide) (.sg (by decide) .nil)))))
 |trap x hx=>
  cases hn with|mk _ _ _ _ _ ha ht he=>
  intro t;rw[stp9];exact La (.wd (by decide) (.sg (by decide) (.app (Ko hx (ha x Za)) (.sg (by decide) (.sg (by decide) .nil)))))
 |call s l hx=>
  cases hn with|mk _ _ _ _ _ ha ht he=>
  intro t;have e:Gm t (.mk 10 [] [.mk 5 0 0 s l] [] [])=Eg t (Co (.mk 5 0 0 s l)++[sg [59]]):=by rw[pZ,Mf];simp only[Zg,List.cons_append,List.nil_append]
  rw[e];exact La (.app (Ko hx (ha _ Za)) (.sg (by decide) .nil))
theorem Ty {α:Type}(f:α→List Pc)(l:List α)(h:∀x,x∈l→Bd (f x)):Bd (l.flatMap f):=fun p hp=>by
 obtain⟨x,hx,hp⟩:=List.mem_flatMap.1 hp;exact h x hx p hp
theorem pa_ok {x:Bs}(h:Aq x=true):Bd (Hn x):= .wd (by decide) (.sp (by decide) (.nm h .nil))
theorem fu_toks {g:Fu}(hg:WFu g)(hn:∀x,x∈g.body→Xl x):Bd (Vs g):=by
 obtain⟨nm,ps,ls,bd⟩:=g;obtain⟨h1,h2,h3,hb⟩:=hg;dsimp only at h1 h2 h3 hb hn;have htail:Bd (ls.flatMap Qo++(Fi 1 bd++Eg 0 [sg [125]])):= .app (Ty Qo ls fun x hx=>(show Bd (Eg 1 [wd [105,110,116],.g [32],nmp x,sg [59]])from La (.wd (by decide) (.sp (by decide) (.nm (h3 x hx) (.sg (by decide) .nil)))))) (.app (Ng bd (fun y hy=>st_toks (hb y hy) (hn y hy)) _) (La (.sg (by decide) .nil)));have hps:Bd (Iv (ps.map Hn)):=by
  cases ps with
  |nil=>exact .nil
  |cons x l=>
   have e:Iv ((x::l).map Hn)=Hn x++l.flatMap (fun y=>[sg [44],.g [32]]++Hn y):=by
    show Hn x++(l.map Hn).flatMap _=_;rw[List.flatMap_map]
   rw[e];exact .app (pa_ok (h2 x Za)) (Ty _ _ fun y hy=> .sg (by decide) (.sp (by decide) (pa_ok (h2 y (Zc _ hy)))))
 show Bd (wd [105,110,116]:: .g [32]::nmp nm::sg [40]::(Iv (ps.map Hn)++(sg [41]:: .g [32]::sg [123]:: .g [10]::(ls.flatMap Qo++(Fi 1 bd++Eg 0 [sg [125]])))))
 exact .wd (by decide) (.sp (by decide) (.nm h1 (.sg (by decide) (.app hps (.sg (by decide) (.sp (by decide) (.sg (by decide) (.sp (by decide) htail))))))))
theorem lH {a:Ar}(h:Ds a=true):Bd (dN a)∧0≤a.size:=by
 unfold Ds at h;obtain⟨h1,h2⟩:=(Zf _ _).mp h;have h2:=of_decide_eq_true h2;exact⟨La (.wd (by decide) (.sp (by decide) (.nm h1 (.sg (by decide) (.cons (qU (by omega) ⟨by omega,by omega⟩) (.sg (by decide) (.sg (by decide) .nil))))))),by omega⟩
theorem pr_gap:∀(m:List Ar) (l:List Fu),Cu (m.flatMap dN++l.flatMap Vs)=[]
 |[],[]=>rfl
 |[],g::l=>rfl
 |a::m,l=>rfl
theorem Mw {p:Pr}(h:Ff p=true):(∀a,a∈p.arrays→Ds a=true)∧∀x,x∈p.funcs→WFu x:=by
 unfold Ff at h;simp only[Zf,Zm]at h;exact⟨h.1,fun x hx=>wfu_of (h.2 x hx)⟩
inductive Ws:Ex→Prop
 |num (n:Int) (h:0≤n):Ws (.mk 1 0 n [] [])
 |var (nm:Bs) (h:Aq nm=true):Ws (.mk 2 0 0 nm [])
 |one (o:Int) (x:Ex) (h:o=17∨o=18∨o=19) (hx:Ck x=true):Ws (.mk 3 o 0 [] [x])
 |two (o:Int) (x y:Ex) (h:0<Al o) (hx:Ck x=true) (hy:Ck y=true):Ws (.mk 4 o 0 [] [x,y])
 |call (nm:Bs) (l:List Ex) (h:Aq nm=true) (hn:l.length≤6) (hl:∀x,x∈l→Ck x=true):Ws (.mk 5 0 0 nm l)
 |index (nm:Bs) (x:Ex) (h:Aq nm=true) (hx:Ck x=true):Ws (.mk 6 0 0 nm [x])
 |read:Ws (.mk 7 0 0 [] [])
def SOk(x:St):Prop:= ∃m,Ed m x=true
inductive Ls:St→Prop
 |set (nm:Bs) (x:Ex) (h:Aq nm=true) (hx:Ck x=true):Ls (.mk 1 nm [x] [] [])
 |store (nm:Bs) (x y:Ex) (h:Aq nm=true) (hx:Ck x=true) (hy:Ck y=true):Ls (.mk 2 nm [x,y] [] [])
 |iff (x:Ex) (t e:List St) (hx:Ck x=true) (ht:∀y,y∈t→SOk y) (he:∀y,y∈e→SOk y):Ls (.mk 3 [] [x] t e)
 |loop (x:Ex) (t:List St) (hx:Ck x=true) (ht:∀y,y∈t→SOk y):Ls (.mk 4 [] [x] t [])
 |brk:Ls (.mk 5 [] [] [] [])
 |cont:Ls (.mk 6 [] [] [] [])
 |ret (x:Ex) (hx:Ck x=true):Ls (.mk 7 [] [x] [] [])
 |prt (x:Ex) (hx:Ck x=true):Ls (.mk 8 [] [x] [] [])
 |trp (x:Ex) (hx:Ck x=true):Ls (.mk 9 [] [x] [] [])
 |call (nm:Bs) (l:List Ex) (h:Aq nm=true) (hn:l.length≤6) (hl:∀x,x∈l→Ck x=true):Ls (.mk 10 [] [.mk 5 0 0 nm l] [] [])
structure FOk (f:Fu):Prop where
 name:Aq f.name=true
 params:∀x,x∈f.params→Aq x=true
 locals:∀x,x∈f.locals→Aq x=true
 body:∀x,x∈f.body→SOk x
theorem mY {f:Fu}(h:Ga f=true):FOk f:=by
 unfold Ga at h;simp only[Zf,Zm]at h;exact⟨h.1.1.1.1,h.1.1.1.2,h.1.1.2,fun x hx=>⟨40,h.2 x hx⟩⟩
theorem Fw {l:Bs}(h:Aq l=true):l.length≤20:=by
 unfold Aq at h;simp only[Zf,decide_eq_true_eq]at h;exact h.1.1.2
theorem kP(L:Nat):∀l:List Bs,(∀x,x∈l→x.length≤L)→(Bp l).length≤l.length*(L+2)
 |[],_=>by simp [Bp]
 |x::l,h=>by
  have more:∀m:List Bs,(∀x,x∈m→x.length≤L)→(m.flatMap (fun y=>[44,32]++y)).length≤m.length*(L+2):=by
   intro m
   induction m with
   |nil=>intro _;simp
   |cons y m ih=>
    intro hm;have h1:=hm y Za;have h2:=ih (fun z hz=>hm z (Zc _ hz));simp only[Zp,Zb,Ze,Zi]at h2 ⊢;rw[Zn];omega
  have h1:=h x Za;have h2:=more l (fun z hz=>h z (Zc _ hz));rw[Bp,Zb,Ze,Zn];omega
theorem Uy(e:Ex)(lev:Int)(t:Bs):(Fp e lev t).length≤t.length+2:=by
 unfold Fp;split
 ·simp
 ·omega
theorem bX:∀i:Fin 20,(Ap i.val).length≤2:=by decide+kernel
theorem dR(o:Int):(Ap o).length≤2:=by
 by_cases h:0≤o∧o≤19
 ·have e1:((o.toNat:Nat):Int)=o:=Int.toNat_of_nonneg (by omega)
  have:=bX ⟨o.toNat,by omega⟩;simp only[e1]at this;exact this
 ·unfold Ap
  rw[if_neg (by omega),if_neg (by omega),if_neg (by omega),if_neg (by omega),if_neg (by omega),if_neg (by omega),if_neg (by omega),if_neg (by omega),if_neg (by omega),if_neg (by omega),if_neg (by omega),if_neg (by omega),if_neg (by omega),if_neg (by omega),if_neg (by omega),if_neg (by omega),if_neg (by omega),if_neg (by omega),if_neg (by omega)];exact Nat.zero_le _
theorem ex1_len(n:Int)(h:0≤n∧n≤9223372036854775807)(o:Int)(nm:Bs)(l:List Ex):(Ak (.mk 1 o n nm l)).length≤21:=by
 rw[eL];exact Lib.itoa_length_le n (by omega) h.2
theorem fN {L:Nat}{nm:Bs}{l:List Ex}(hn:nm.length≤20)(h6:l.length≤6)(hl:∀x,x∈l→(Ak x).length≤L):(Ak (.mk 5 0 0 nm l)).length≤6*L+64:=by
 rw[eR];have:=kP L (l.map Ak) (fun x hx=>by
  obtain⟨y,hy,rfl⟩:=List.mem_map.1 hx;exact hl y hy)
 simp only[List.length_map,Zb,Ze,Zi]at this ⊢;have:l.length*(L+2)≤6*(L+2):=Zk _ h6;omega
theorem Xq {sc:Sc}(hs:sc.Ok)(raw:List Int)(g:Nat→Ex ×Nat)(L:Nat)(hg:∀a,(Ak (g a).1).length≤L)(a:Nat):(Ak (Hz sc raw g a).1).length≤6*L+64:=by
 unfold Hz;split
 ·have h7:=Ai raw (Ac raw a 312).2 7 (by decide)
  exact fN (Fw (Jl _)) (by rw[Hu];omega) (Ju g (fun x=>(Ak x).length≤L) hg _ _)
 ·rename_i hn
  have hl:=fB hn;have hr:=Ai raw a sc.funcs.length (by omega);have hf:Aq (Ee sc.funcs (Ac raw a sc.funcs.length).1.toNat).name=true∧(Ee sc.funcs (Ac raw a sc.funcs.length).1.toNat).params.length≤6:=hs.funcs _ (pC (d:=Fu.nil) (i:=(Ac raw a sc.funcs.length).1.toNat) (by omega));dsimp only;generalize Ee sc.funcs (Ac raw a sc.funcs.length).1.toNat=f at hf ⊢;exact fN (Fw hf.1) (by rw[Hu];exact hf.2) (Ju g (fun x=>(Ak x).length≤L) hg _ _)
theorem Ya {sc:Sc}(hs:sc.Ok)(raw:List Int)(g:Nat→Ex ×Nat)(L:Nat)(hg:∀a,(Ak (g a).1).length≤L)(k:Int)(a:Nat):(Ak (El sc raw g k a).1).length≤6*L+64:=by
 unfold El;split
 ·have:=Fw (Qu hs raw a)
  dsimp only;rw[cS];omega
 split
 ·dsimp only;rw[gE];simp
 split
 ·have h1:=Ai raw (if k=3 then(Ac raw a 3).2 else a) 1000 (by decide)
  have h2:=Nx _ (Ac raw (Ac raw (if k=3 then(Ac raw a 3).2 else a) 1000).2 8).1 h1;have:=ex1_len _ h2 0 [] [];dsimp only;omega
 split
 ·have:=hg (Ac raw a 3).2
  dsimp only;rw[fV _ _ _ _ (by simp)];have h2:=dR (17+(Ac raw a 3).1);have h3:=Uy (g (Ac raw a 3).2).1 9 (Ak (g (Ac raw a 3).2).1);show(Ap _++Fp (g (Ac raw a 3).2).1 9 (Ak (g (Ac raw a 3).2).1)).length≤_
  rw[Zb];omega
 split
 ·have h1:=Fw (Op hs raw a)
  have h2:=hg (Ct sc.free sc.arrays raw a).2;dsimp only;rw[dX _ _ _ _ (by simp)];show(_++[91]++Ak (g (Ct sc.free sc.arrays raw a).2).1++[93]).length≤_
  simp only[Zb,Ze,Zi];omega
 split
 ·exact Xq hs raw g L hg a
 ·dsimp only;rw[fU _ _ _ _ (by simp)]
  have h1:=hg (Ac raw a 16).2;have h2:=hg (g (Ac raw a 16).2).2;have h3:=dR (1+(Ac raw a 16).1);have h4:=Uy (g (Ac raw a 16).2).1 (Al (1+(Ac raw a 16).1)) (Ak (g (Ac raw a 16).2).1);have h5:=Uy (g (g (Ac raw a 16).2).2).1 (Al (1+(Ac raw a 16).1)+1) (Ak (g (g (Ac raw a 16).2).2).1);show(Fp (g (Ac raw a 16).2).1 (Al (1+(Ac raw a 16).1)) (Ak (g (Ac raw a 16).2).1)++([32]++(Ap _++[32]))++Fp (g (g (Ac raw a 16).2).2).1 (Al (1+(Ac raw a 16).1)+1) (Ak (g (g (Ac raw a 16).2).2).1)).length≤_
  simp only[Zb,Ze,Zi];omega
def exB:Nat→Nat
 |0=>64
 |d+1=>6*exB d+64
theorem Oj {sc:Sc}(hs:sc.Ok)(raw:List Int):∀d a,(Ak (Aw sc raw d a).1).length≤exB d
 |0,a=>by
  rw[Aw];unfold Sr;have:=Ya hs raw (fun a=>(Ex.nil,a)) 0 (fun a=>by show(Ak (.mk 0 0 0 [] [])).length≤0;rw[Gy];decide) (gK raw 0 a) (Ac raw a 12).2;simp only[exB];omega
 |d+1,a=>by
  rw[Aw];unfold Sr;exact Ya hs raw _ (exB d) (Oj hs raw d) _ _
theorem rW(t:Nat):(Jv t).length=t:=List.length_replicate
theorem bD(t:Nat)(l:List Bs):(ln t l).length=t+l.flatten.length+1:=by unfold ln;rw[Zb,Zb,rW];rfl
theorem pG {t N L T E:Nat}{k:Int}{nm:Bs}{args:List Ex}{thn els:List St}(hn:nm.length≤N)(ha:∀x,x∈args→(Ak x).length≤L)(hT:(Bx (t+1) thn).length≤T)(hE:(Bx (t+1) els).length≤E):(Cn t (.mk k nm args thn els)).length≤3*t+N+2*L+T+E+40:=by
 have hx:∀i,(Ak (Bz args i)).length≤L:=fun i=>by
  unfold Bz;rcases Nat.lt_or_ge i args.length with h|h
  ·rw[List.getD_eq_getElem?_getD,Zl h];exact ha _ (List.getElem_mem h)
  ·rw[List.getD_eq_getElem?_getD,List.getElem?_eq_none h]
   show(Ak (.mk 0 0 0 [] [])).length≤L
   rw[Gy];exact Nat.zero_le _
 have h0:=hx 0;have h1:=hx 1;rw[Fk];unfold Dg
 repeat' split
 all_goals
  try simp only[bD,Zb,Zq,Zr,Ze,Zi]
  try omega
theorem aS {t B:Nat}:∀l:List St,(∀x,x∈l→(Cn t x).length≤B)→(Bx t l).length≤l.length*B
 |[],_=>by simp [Bx]
 |x::l,h=>by
  have h1:=h x Za;have h2:=aS l (fun z hz=>h z (Zc _ hz));rw[Bx,Zb,Ze,Zn];omega
theorem fO {sc:Sc}(hs:sc.Ok)(raw:List Int)(gs gl:Nat→List St ×Nat)(T:Nat)(t:Nat)(hgs:∀a,(Bx (t+1) (gs a).1).length≤T)(hgl:∀a,(Bx (t+1) (gl a).1).length≤T)(k:Int)(a:Nat):
  ∃k' nm args thn els,(Ca sc raw gs gl k a).1= .mk k' nm args thn els∧nm.length≤20∧(∀x,x∈args→(Ak x).length≤exB 3)∧(Bx (t+1) thn).length≤T∧(Bx (t+1) els).length≤T:=by
 have z:(Bx (t+1) []).length≤T:=Nat.zero_le _;have nn:∀x:Ex,x∈([]:List Ex)→(Ak x).length≤exB 3:=fun x hx=>by cases hx
 have n0:([]:Bs).length≤20:=Nat.zero_le _;have ee:∀a,∀x,x∈[(Aw sc raw 3 a).1]→(Ak x).length≤exB 3:=fun a x hx=>by rw[List.mem_singleton.1 hx];exact Oj hs raw 3 a
 unfold Ca;split
 ·exact⟨_,_,_,_,_,rfl,Fw (Qu hs raw a),nn,z,z⟩
 split
 ·exact⟨_,_,_,_,_,rfl,Fw (Op hs raw a),ee _,z,z⟩
 split
 ·exact⟨_,_,_,_,_,rfl,n0,fun x hx=>by rw[List.mem_singleton.1 hx];exact Xq hs raw _ (exB 2) (Oj hs raw 2) a,z,z⟩
 split
 ·exact⟨_,_,_,_,_,rfl,n0,nn,z,z⟩
 split
 ·exact⟨_,_,_,_,_,rfl,n0,ee _,hgs _,hgs _⟩
 split
 ·exact⟨_,_,_,_,_,rfl,n0,ee _,hgl _,z⟩
 split
 ·exact⟨_,_,_,_,_,rfl,n0,nn,z,z⟩
 ·exact⟨_,_,_,_,_,rfl,n0,nn,z,z⟩
theorem kH {sc:Sc}(hs:sc.Ok)(raw:List Int)(gs gl:Nat→List St ×Nat)(T:Nat)(t d:Nat)(hgs:∀a,(Bx (t+1) (gs a).1).length≤T)(hgl:∀a,(Bx (t+1) (gl a).1).length≤T)(a:Nat):(Cn t (gSt sc raw gs gl d a).1).length≤3*t+2*exB 4+2*T+60:=by
 unfold gSt;dsimp only;obtain⟨k,nm,args,thn,els,h,h1,h2,h3,h4⟩:=fO hs raw gs gl T t hgs hgl (Rw raw d a) (Ac raw a 14).2;generalize (Ca sc raw gs gl (Rw raw d a) (Ac raw a 14).2).2=b;rw[h];have h2:∀x,x∈args→(Ak x).length≤exB 4:=fun x hx=>Nat.le_trans (h2 x hx) (by decide)
 unfold Kf;split
 ·have:=pG (k:=k) (N:=20) (L:=exB 4) h1 (args:=args++[(Aw sc raw 4 b).1]) (fun x hx=>by
   rcases List.mem_append.1 hx with hx|hx
   ·exact h2 x hx
   ·rw[List.mem_singleton.1 hx];exact Oj hs raw 4 b) h3 h4
  show(Cn t (.mk k nm (args++[(Aw sc raw 4 b).1]) thn els)).length≤_
  omega
 ·have:=pG (k:=k) (N:=20) (L:=exB 4) h1 h2 h3 h4
  show(Cn t (.mk k nm args thn els)).length≤_
  omega
def stB:Nat→Nat
 |0=>4*(2*exB 4+100)
 |d+1=>4*(2*exB 4+2*stB d+100)
theorem Uq(one:Nat→St ×Nat)(P:St→Prop)(hg:∀a,P (one a).1)(c a:Nat):∀x,x∈(Ie one c a).1→P x:=Om one P hg c a
theorem five(raw:List Int)(a:Nat):(Ac raw a 5).1.toNat≤4:=by have:=Ai raw a 5 (by decide);omega
theorem Pl(raw:List Int):∀(d t:Nat) (sc:Sc),sc.Ok→t+d≤10→∀a,(Bx t (Gh raw d sc a).1).length≤stB d
 |0,t,sc,hs,ht,a=>by
  rw[Gh];have h1:=aS (t:=t) (B:=2*exB 4+100) _ (Uq _ (fun x=>(Cn t x).length≤2*exB 4+100) (fun b=>Nat.le_trans (kH hs raw (fun a=>([],a)) (fun a=>([],a)) 0 t 0 (fun _=>Zh _) (fun _=>Zh _) b) (by omega)) (Ac raw a 5).1.toNat (Ac raw a 5).2);rw[Lu]at h1;exact Nat.le_trans h1 (Zk _ (five raw a))
 |d+1,t,sc,hs,ht,a=>by
  rw[Gh];have h1:=aS (t:=t) (B:=2*exB 4+2*stB d+100) _ (Uq _ (fun x=>(Cn t x).length≤2*exB 4+2*stB d+100) (fun b=>Nat.le_trans (kH hs raw (Gh raw d sc) (Gh raw d sc.inLoop) (stB d) t (d+1) (Pl raw d (t+1) sc hs (by omega)) (Pl raw d (t+1) sc.inLoop hs.inLoop (by omega)) b) (by omega)) (Ac raw a 5).1.toNat (Ac raw a 5).2);rw[Lu]at h1;exact Nat.le_trans h1 (Zk _ (five raw a))
def fuB:Nat:=1000+stB 4
def prB:Nat:=200+3*fuB
theorem oY:2*prB≤140737488355328:=by decide+kernel
theorem gR {a:Ar}(h:Ds a=true):(Nq a).length≤100:=by
 unfold Ds at h;simp only[Zf,decide_eq_true_eq]at h;have h1:=Fw h.1;have h2:=Lib.itoa_length_le a.size (by omega) (by omega);unfold Nq;rw[bD];simp only[Zq,Zr,Zb,Ze,Zi];omega
theorem Tc:∀l:List Ar,(∀a,a∈l→Ds a=true)→(Er l).length≤l.length*100
 |[],_=>by simp [Er]
 |a::l,h=>by
  have h1:=gR (h a Za);have h2:=Tc l (fun x hx=>h x (Zc _ hx));show(Nq a++Er l).length≤_
  rw[Zb,Ze,Zn];omega
theorem Tb:∀l:List Bs,(∀x,x∈l→Aq x=true)→(Fr l).length≤l.length*40
 |[],_=>by simp [Fr]
 |x::l,h=>by
  have h1:=Fw (h x Za);have h2:=Tb l (fun y hy=>h y (Zc _ hy));show(ln 1 [[105,110,116,32],x,[59]]++Fr l).length≤_
  rw[Zb,bD,Ze,Zn];simp only[Zq,Zr,Zb,Ze,Zi];omega
theorem gY {f:Fu}(h:FOk f)(hp:f.params.length≤6)(hl:f.locals.length≤5)(hb:(Bx 1 f.body).length≤stB 4):(In f).length≤fuB:=by
 have h1:=Fw h.name;have h2:=kP 24 (f.params.map Jt) (fun x hx=>by
  obtain⟨y,hy,rfl⟩:=List.mem_map.1 hx;have:=Fw (h.params y hy);unfold Jt;rw[Zb];simp;omega)
 have h3:=Tb f.locals h.locals;have h4:(f.params.map Jt).length*(24+2)≤6*26:=Zk _ (by rw[List.length_map];exact hp);have h5:f.locals.length*40≤5*40:=Zk _ hl;unfold In fuB;simp only[Zb,bD,Zq,Zr,Ze,Zi];omega
theorem Ss:∀l:List Fu,(∀f,f∈l→(In f).length≤fuB)→(Fg l).length≤l.length*fuB
 |[],_=>by simp [Fg]
 |a::l,h=>by
  have h1:=h a Za;have h2:=Ss l (fun x hx=>h x (Zc _ hx));show(In a++Fg l).length≤_
  rw[Zb,Ze,Zn];omega
theorem Sz(raw:List Int)(sc:Sc)(P:Fu→Prop)(hP:∀f,f∈sc.funcs→∀a,P (Ox raw sc f a).1):∀(l:List Fu),(∀f,f∈l→f∈sc.funcs)→∀a,∀x,x∈(Df raw sc l a).1→P x
 |[],_,a,x,hx=>by cases hx
 |f::l,hl,a,x,hx=>by
  rw[Df]at hx;rcases Zo.1 hx with rfl|hx
  ·exact hP f (hl f Za) a
  ·exact Sz raw sc P hP l (fun g hg=>hl g (Zc _ hg)) _ x hx
theorem Nz(raw:List Int)(sc:Sc):∀(l:List Fu) (a:Nat),(Df raw sc l a).1.length=l.length
 |[],a=>rfl
 |g::l,a=>by rw[Df,Ze,Ze,Nz raw sc l]
theorem Qq(free:Bool)(raw:List Int):∀n a,(Ir free raw n a).1.length=n
 |0,a=>rfl
 |n+1,a=>by rw[Ir,Ze,Qq free raw n]
theorem Qn(raw:List Int):∀n a,(If raw n a).1.length=n
 |0,a=>rfl
 |n+1,a=>by rw[If,Ze,Qn raw n]
theorem gSc_ok(raw:List Int)(free:Bool){f:Fu}(hf:f∈(Je raw free).funcs)(k:Nat):Sc.Ok ⟨f.params++Di.take k,(Je raw free).arrays,(Je raw free).funcs,free,false⟩:=by
 refine⟨fun x hx=> ?_,fun x hx=> ?_,fun x hx=>⟨(Hm raw free x hx).1,(Hm raw free x hx).2.1⟩⟩
 ·rcases List.mem_append.1 hx with hx|hx
  ·exact(Hm raw free f hf).2.2 x hx
  ·exact Yv x (List.mem_of_mem_take hx)
 ·have:=Ml raw free x hx
  unfold Ds at this;exact((Zf _ _).mp this).1
theorem cZ(raw:List Int)(free:Bool):∀f,f∈(Kl raw free).funcs→(In f).length≤fuB:=by
 intro f hf;have hr:=Oa raw free;unfold Ff at hr;simp only[Zf,Zm]at hr;have hok:=mY (hr.2 f hf);have h:=Sz (raw.take 400) (Je (raw.take 400) free) (fun f=>f.params.length≤6∧f.locals.length≤5∧(Bx 1 f.body).length≤stB 4) (fun g hg a=>by
  have hh:=Hm (raw.take 400) free g hg;refine⟨hh.2.1,?_,?_⟩
  ·show(Di.take _).length≤5
   rw[List.length_take];exact Nat.min_le_right _ _
  ·exact Pl (raw.take 400) 4 1 _ (gSc_ok (raw.take 400) free hg _) (by omega) _) (Je (raw.take 400) free).funcs (fun f hf=>hf) _ f hf
 exact gY hok h.1 h.2.1 h.2.2
theorem Qj(raw:List Int)(free:Bool):(Kl raw free).arrays.length≤2∧(Kl raw free).funcs.length≤3∧0<(Kl raw free).funcs.length:=by
 have h1:=Ai (raw.take 400) 0 3 (by decide);have h2:=Ai (raw.take 400) (Jf (raw.take 400) free).2 3 (by decide);have ea:(Kl raw free).arrays.length=(Ac (raw.take 400) 0 3).1.toNat:=Qq _ _ _ _;have ef:(Kl raw free).funcs.length=(Ac (raw.take 400) (Jf (raw.take 400) free).2 3).1.toNat+1:=by
  show(Df _ _ _ _).1.length=_
  rw[Nz];show(Kj::(Pi _ _).1).length=_
  rw[Ze];show(If _ _ _).1.length+1=_
  rw[Qn]
 rw[ea,ef];omega
theorem mU(raw:List Int)(free:Bool):(Fj (Kl raw free)).length≤prB:=by
 have hr:=Oa raw free;unfold Ff at hr;simp only[Zf,Zm]at hr;obtain⟨c1,c2,_⟩:=Qj raw free;have h1:=Tc _ hr.1;have h2:=Ss _ (cZ raw free);have h3:(Kl raw free).arrays.length*100≤2*100:=Zk _ c1;have h4:(Kl raw free).funcs.length*fuB≤3*fuB:=Zk _ c2;unfold Fj prB;rw[Zb];omega
theorem lQ {p:Pr}(h:0<p.funcs.length):Fj p≠[]:=by
 obtain⟨a,l⟩:=p
 cases l with
 |nil=>cases h
 |cons f l=>
  unfold Fj;intro e;have:=(List.append_eq_nil_iff.1 e).2;simp [Fg,In]at this
def My:Nat→List Pc→List Tk
 |_,[]=>[]
 |n,.g b::l=>My (n+Cb b) l
 |n,.t x::l=>⟨x.kind,x.text,x.num,n⟩::My n l
def iH:List Pc→Nat
 |[]=>0
 | .g b::l=>Cb b+iH l
 | .t _::l=>iH l
theorem aL:∀(l:List Pc) (n:Nat),Qi (n+Cb (Cu l)) (Fm l)=My n l
 |[],n=>rfl
 | .g b::l,n=>by
  show Qi (n+Cb (b++Cu l)) (Fm l)=My (n+Cb b) l
  rw[Sj,←Nat.add_assoc];exact aL l (n+Cb b)
 | .t x::l,n=>by
  have eg:Au (Cu l) []=Cu l:=by unfold Au;simp
  show(⟨x.kind,x.text,x.num,((n+0:Nat):Int)⟩:Tk)::Qi (n+0+Cb (Au (Cu l) [])) (Fm l)=⟨x.kind,x.text,x.num,n⟩::My n l
  rw[eg,Nat.add_zero,aL l n]
theorem Uz:∀(a b:List Pc) (n:Nat),My n (a++b)=My n a++My (n+iH a) b
 |[],b,n=>rfl
 | .g x::a,b,n=>by
  show My (n+Cb x) (a++b)=My (n+Cb x) a++My (n+(Cb x+iH a)) b
  rw[Uz a b,Nat.add_assoc]
 | .t x::a,b,n=>by
  show _::My n (a++b)=_::(My n a++My (n+iH a) b)
  rw[Uz a b]
theorem pI(l:List Pc)(hp:Bd l)(hs:Fh Lh l [])(hlen:(Ay l).length≤20000)(hb:Np (Cu l) [])(Q:Pr ×Int ×Int→Prop)
  (hz:∀N:Int,∃z,Ev (fun f=>Ce f ⟨[],[]⟩ (My 1 l++[⟨5,[],0,N⟩])) z∧Q (Pt (Vt z))) (w:World) (hl:Ji w):
  Calls Tryz.prog 14 #[.string (Aa (Ay l))] w fun e w'=> ∃r,Q r∧WhP w r e w':=by
 obtain⟨i1,i2⟩:=aC [] l hp hs;have ht:=Ni l;have hil:=Ub l hp;have eg:Au (Cu l) []=Cu l:=by unfold Au;simp
 have e0:Au (Cu l) []++Dl (Fm l)=Ay l:=by rw[eg];exact ht
 obtain⟨z,⟨f0,hf⟩,hq⟩:=hz (endL (1+Cb (Au (Cu l) [])) (Fm l));have hx:=So (Cu l) [] hb (Fm l) i1 i2 (by rw[e0];exact hlen) (by omega) (f0+4*((Fm l).length+1)+4) (by omega) w hl;rw[e0]at hx;refine hx.mono ?_;intro e w' hp;have e1:Ce (f0+4*((Fm l).length+1)+4) ⟨[],[]⟩ (Dz (1+Cb (Au (Cu l) [])) (Fm l))=z:=by
  have:=hf (f0+4*((Fm l).length+1)+4) (by omega);have e2:My 1 l=Qi (1+Cb (Au (Cu l) [])) (Fm l):=by rw[eg];exact(aL l 1).symm
  rw[e2]at this;exact this
 rw[e1]at hp;exact⟨_,hq,hp⟩
def Ea {α β:Type}(p:PR α)(k:α→List Tk→PR β):PR β:=match p with
 | .error e=> .error e
 | .ok (x,r)=>k x r
def orP {α:Type}(s:Bs)(l:List Tk)(p:List Tk→PR α)(q:PR α):PR α:=match Bi s l with
 |some r=>p r
 |none=>q
def Dh {α:Type}(s:Bs)(l:List Tk)(p:List Tk→PR α):PR α:=match An s l with
 | .error e=> .error e
 | .ok r=>p r
def RelZ {α:Type}(B Z:List Tk)(L:Int)(x:α)(rest:List Tk)(z:PR α):Prop:=
 (∃A,rest=A++B∧z= .ok (x,A++Z))∨z= .error L∨∃x',z= .ok (x',Z)
def FinZ {α:Type}(Z:List Tk)(L:Int)(z:PR α):Prop:=z= .error L∨∃x',z= .ok (x',Z)
def EvZ {α:Type}(Z:List Tk)(L:Int)(q:Nat→List Tk→PR α):Prop:= ∃z,Ev (fun g=>q g Z) z∧FinZ Z L z
def Av {α:Type}(B Z:List Tk)(L:Int)(p:List Tk→PR α)(q:Nat→List Tk→PR α):Prop:=
 EvZ Z L q∧∀a A x rest,p (a::(A++B))= .ok (x,rest)→∃z,Ev (fun g=>q g (a::(A++Z))) z∧RelZ B Z L x rest z
theorem Av.at {B:List Tk}{Z:List Tk}{L:Int}{α:Type}{p:List Tk→PR α}{q:Nat→List Tk→PR α}(h:Av B Z L p q):∀A x rest,p (A++B)= .ok (x,rest)→∃z,Ev (fun g=>q g (A++Z)) z∧RelZ B Z L x rest z
 |[],x,rest,e=>by obtain⟨z,h1,h2⟩:=h.1;exact⟨z,h1,.inr h2⟩
 |a::A,x,rest,e=>h.2 a A x rest e
theorem Av.congr {B:List Tk}{Z:List Tk}{L:Int}{α:Type}{p p':List Tk→PR α}{q q':Nat→List Tk→PR α}(h:Av B Z L p' q')(hp:∀l,p l=p' l)(hq:∀g l,q (g+1) l=q' g l):Av B Z L p q:=by
 refine⟨?_,fun a A x rest e=> ?_⟩
 ·obtain⟨z,h1,h2⟩:=h.1
  exact⟨z,Ev.one h1 (fun f e=>by(try dsimp only at e ⊢);rw[hq];exact e),h2⟩
 ·rw[hp]at e
  obtain⟨z,h1,h2⟩:=h.2 a A x rest e;exact⟨z,Ev.one h1 (fun f e=>by(try dsimp only at e ⊢);rw[hq];exact e),h2⟩
theorem Av.same {B:List Tk}{Z:List Tk}{L:Int}{α:Type}{p p':List Tk→PR α}{q q':Nat→List Tk→PR α}(h:Av B Z L p' q')(hp:∀l,p l=p' l)(hq:∀g l,q g l=q' g l):Av B Z L p q:=by
 obtain rfl:p=p':=funext hp;obtain rfl:q=q':=funext fun g=>funext (hq g)
 exact h
theorem Av.zero {B:List Tk}{Z:List Tk}{L:Int}{α:Type}{p:List Tk→PR α}{q:Nat→List Tk→PR α}(h:EvZ Z L q)(hp:∀l,p l= .error (Lg l)):Av B Z L p q:=
 ⟨h,fun a A x rest e=>by rw[hp]at e;cases e⟩
theorem Av.ret {B:List Tk}{Z:List Tk}{L:Int}{α:Type}(x:α):Av B Z L (fun l=> .ok (x,l)) (fun _ l=> .ok (x,l)):=
 ⟨⟨_,Ev.pure (fun _=>rfl),.inr ⟨x,rfl⟩⟩,fun a A y rest e=>by cases e;exact⟨_,Ev.pure (fun _=>rfl),.inl ⟨a::A,rfl,rfl⟩⟩⟩
theorem Av.bind {B:List Tk}{Z:List Tk}{L:Int}{α β:Type}{p:List Tk→PR α}{q:Nat→List Tk→PR α}{p2:α→List Tk→PR β}{q2:α→Nat→List Tk→PR β}(h1:Av B Z L p q)(h2:∀x,Av B Z L (p2 x) (q2 x)):
  Av B Z L (fun l=>Ea (p l) p2) (fun g l=>Ea (q g l) (fun x r=>q2 x g r)):=by
 refine⟨?_,fun a A x rest e=> ?_⟩
 ·obtain⟨z,ev,rfl|⟨x',rfl⟩⟩:=h1.1
  ·exact⟨_,Ev.map ev (fun g e=>by(try dsimp only at e ⊢);rw[e];rfl),.inl rfl⟩
  ·obtain⟨z2,ev2,hz⟩:=(h2 x').1
   exact⟨z2,Ev.map2 ev ev2 (fun g e e2=>by(try dsimp only at e e2 ⊢);rw[e];exact e2),hz⟩
 ·(try dsimp only at e)
  cases hp:p (a::(A++B))with
  |error o=>rw[hp]at e;cases e
  |ok yr=>
   obtain⟨y,r⟩:=yr;rw[hp]at e;replace e:p2 y r= .ok (x,rest):=e;obtain⟨z,ev,⟨A',rfl,rfl⟩|rfl|⟨x',rfl⟩⟩:=h1.2 a A y r hp
   ·obtain⟨z2,ev2,hz⟩:=(h2 y).at A' x rest e
    exact⟨z2,Ev.map2 ev ev2 (fun g e e2=>by(try dsimp only at e e2 ⊢);rw[e];exact e2),hz⟩
   ·exact⟨_,Ev.map ev (fun g e=>by(try dsimp only at e ⊢);rw[e];rfl),.inr (.inl rfl)⟩
   ·obtain⟨z2,ev2,hz⟩:=(h2 x').1
    exact⟨z2,Ev.map2 ev ev2 (fun g e e2=>by(try dsimp only at e e2 ⊢);rw[e];exact e2),.inr hz⟩
theorem iX {α:Type}{s:Bs}{a:Tk}{l:List Tk}{p:List Tk→PR α}{q:PR α}(h:isP s a=true):orP s (a::l) p q=p l:=by unfold orP;rw[Am h]
theorem or_no {α:Type}{s:Bs}{a:Tk}{l:List Tk}{p:List Tk→PR α}{q:PR α}(h:isP s a=false):orP s (a::l) p q=q:=by unfold orP;rw[Af h]
theorem Ys {α:Type}{s:Bs}{a:Tk}{l:List Tk}{p:List Tk→PR α}(h:isP s a=true):Dh s (a::l) p=p l:=by unfold Dh;rw[Cc h]
theorem eM {α:Type}{s:Bs}{a:Tk}{l:List Tk}{p:List Tk→PR α}(h:isP s a=false):Dh s (a::l) p= .error a.line:=by unfold Dh An;rw[Af h];rfl
theorem Av.orW {B:List Tk}{Z:List Tk}{L:Int}{α:Type}{s:Bs}{p1 p2:List Tk→PR α}{q1 q2:Nat→List Tk→PR α}(h1:Av B Z L p1 q1)(h2:Av B Z L p2 q2)(hz:EvZ Z L (fun g l=>orP s l (q1 g) (q2 g l))):
  Av B Z L (fun l=>orP s l p1 (p2 l)) (fun g l=>orP s l (q1 g) (q2 g l)):=by
 refine⟨hz,fun a A x rest e=> ?_⟩;(try dsimp only at e)
 cases hs:isP s a with
 |true=>
  rw[iX hs]at e;obtain⟨z,ev,hz⟩:=h1.at A x rest e;exact⟨z,Ev.map ev (fun g e=>by(try dsimp only at e ⊢);rw[iX hs];exact e),hz⟩
 |false=>
  rw[or_no hs]at e;obtain⟨z,ev,hz⟩:=h2.at (a::A) x rest e;exact⟨z,Ev.map ev (fun g e=>by(try dsimp only at e ⊢);rw[or_no hs];exact e),hz⟩
theorem Av.or {B:List Tk}{Z:List Tk}{L:Int}{α:Type}{s:Bs}{p1 p2:List Tk→PR α}{q1 q2:Nat→List Tk→PR α}(hs:Bi s Z=none)(h1:Av B Z L p1 q1)(h2:Av B Z L p2 q2):
  Av B Z L (fun l=>orP s l p1 (p2 l)) (fun g l=>orP s l (q1 g) (q2 g l)):=by
 refine Av.orW h1 h2 ?_;obtain⟨z,ev,hz⟩:=h2.1;exact⟨z,Ev.map ev (fun g e=>by(try dsimp only at e ⊢);unfold orP;rw[hs];exact e),hz⟩
theorem Av.want {B:List Tk}{Z:List Tk}{L:Int}{α:Type}{s:Bs}{p:List Tk→PR α}{q:Nat→List Tk→PR α}(hs:An s Z= .error L)(h:Av B Z L p q):
  Av B Z L (fun l=>Dh s l p) (fun g l=>Dh s l (q g)):=by
 refine⟨⟨.error L,Ev.pure (fun g=>by(try dsimp only);unfold Dh;rw[hs]),.inl rfl⟩,fun a A x rest e=> ?_⟩;(try dsimp only at e)
 cases hs:isP s a with
 |true=>
  rw[Ys hs]at e;obtain⟨z,ev,hz⟩:=h.at A x rest e;exact⟨z,Ev.map ev (fun g e=>by(try dsimp only at e ⊢);rw[Ys hs];exact e),hz⟩
 |false=>rw[eM hs]at e;cases e
theorem Av.kind {B:List Tk}{Z:List Tk}{L:Int}{k:Int}(hz:Gv k Z= .error L):Av B Z L (Gv k) (fun _=>Gv k):=by
 refine⟨⟨_,Ev.pure (fun _=>hz),.inl rfl⟩,fun a A x rest e=> ?_⟩;replace e:(if a.kind=k then(.ok (a,A++B):PR Tk)else .error a.line)= .ok (x,rest):=e
 by_cases hk:a.kind=k
 ·rw[if_pos hk]at e
  cases e
  exact⟨_,Ev.pure (fun _=>(show(if a.kind=k then(.ok (a,A++Z):PR Tk)else .error a.line)= .ok (a,A++Z)by rw[if_pos hk])),.inl ⟨A,rfl,rfl⟩⟩
 ·rw[if_neg hk]at e;cases e
structure Cx (L:Int)(e1 e2:Tk):Prop where
 k1:e1.kind=2
 t1:e1.text=[101,108,115,101]
 l1:e1.line=L
 k2:e2.kind=2
 t2:e2.text=[101,108,115,101]
 l2:e2.line=L
theorem Cx.isnt {L:Int}{e1:Tk}{e2:Tk}(h:Cx L e1 e2){s:Bs}(hs:([101,108,115,101]==s)=false):isP s e1=false:=Da (by rw[h.t1];simpa using hs)
theorem Cx.take {zr:List Tk}{L:Int}{e1:Tk}{e2:Tk}(h:Cx L e1 e2){s:Bs}(hs:([101,108,115,101]==s)=false):Bi s (e1::e2::zr)=none:=Af (h.isnt hs)
theorem Cx.want {zr:List Tk}{L:Int}{e1:Tk}{e2:Tk}(h:Cx L e1 e2){s:Bs}(hs:([101,108,115,101]==s)=false):An s (e1::e2::zr)= .error L:=by unfold An;rw[h.take hs];show Except.error e1.line=_;rw[h.l1]
theorem Cx.kind {zr:List Tk}{L:Int}{e1:Tk}{e2:Tk}(h:Cx L e1 e2){k:Int}(hk:k≠2):Gv k (e1::e2::zr)= .error L:=by
 show(if e1.kind=k then(.ok (e1,e2::zr):PR Tk)else .error e1.line)=_
 rw[if_neg (by rw[h.k1];exact fun e=>hk e.symm),h.l1]
theorem Cx.name {zr:List Tk}{L:Int}{e1:Tk}{e2:Tk}(h:Cx L e1 e2):Dm (e1::e2::zr)= .error L:=by unfold Dm;rw[h.kind (by decide)]
theorem Cx.bin {zr:List Tk}{L:Int}{e1:Tk}{e2:Tk}(h:Cx L e1 e2)(lv:Int):Cy lv (e1::e2::zr)=0:=Yu (by rw[h.t1];decide)
theorem Cx.tight {zr:List Tk}{L:Int}{e1:Tk}{e2:Tk}(h:Cx L e1 e2)(f:Nat):Bg (f+1) (e1::e2::zr)= .error L:=by
 have u:Ec (e1::e2::zr)=none:=by unfold Ec;rw[h.take (by decide),h.take (by decide),h.take (by decide)]
 rw[Bg,u];dsimp only;rw[h.take (by decide)];dsimp only;rw[h.take (by decide)];dsimp only;rw[if_neg (by rw[h.k1];decide),if_neg (by rw[h.k1];decide),h.l1]
theorem Cx.climb {zr:List Tk}{L:Int}{e1:Tk}{e2:Tk}(h:Cx L e1 e2)(f:Nat)(lv:Int):Ba (f+2) lv (e1::e2::zr)= .error L:=by rw[Ba,h.tight]
theorem Cx.loop {zr:List Tk}{L:Int}{e1:Tk}{e2:Tk}(h:Cx L e1 e2)(f:Nat)(lv:Int)(x:Ex):Gj (f+1) lv x (e1::e2::zr)= .ok (x,e1::e2::zr):=by rw[Gj,if_pos (h.bin lv)]
theorem Cx.named {zr:List Tk}{L:Int}{e1:Tk}{e2:Tk}(h:Cx L e1 e2)(f:Nat)(s:Bs):Cr (f+1) s (e1::e2::zr)= .ok (.mk 2 0 0 s [],e1::e2::zr):=by
 rw[Cr,h.take (by decide)];dsimp only;rw[h.take (by decide)]
theorem Cx.more {zr:List Tk}{L:Int}{e1:Tk}{e2:Tk}(h:Cx L e1 e2)(f:Nat)(a:List Ex):Fy (f+3) a (e1::e2::zr)= .error L:=by rw[Fy,h.climb]
theorem Cx.args {zr:List Tk}{L:Int}{e1:Tk}{e2:Tk}(h:Cx L e1 e2)(f:Nat):Ej (f+4) (e1::e2::zr)= .error L:=by rw[Ej,h.take (by decide)];dsimp only;rw[h.more]
theorem Cx.simple {zr:List Tk}{L:Int}{e1:Tk}{e2:Tk}(h:Cx L e1 e2)(f:Nat):Ao f (e1::e2::zr)= .error L:=by
 unfold Ao;rw[h.take (by decide)];dsimp only;rw[h.take (by decide)];dsimp only;rw[h.take (by decide)];dsimp only;rw[h.take (by decide)];dsimp only;rw[h.take (by decide)];dsimp only;rw[h.name]
theorem Cx.stmt {zr:List Tk}{L:Int}{e1:Tk}{e2:Tk}(h:Cx L e1 e2)(f:Nat):Cz (f+1) (e1::e2::zr)= .error L:=by
 rw[Cz,h.take (by decide)];dsimp only;rw[h.take (by decide)];dsimp only;rw[h.simple]
theorem Cx.stmts {zr:List Tk}{L:Int}{e1:Tk}{e2:Tk}(h:Cx L e1 e2)(f:Nat)(a:List St):Cq (f+2) a (e1::e2::zr)= .error L:=by
 rw[Cq,h.take (by decide)];dsimp only;rw[h.stmt]
theorem Cx.pars {zr:List Tk}{L:Int}{e1:Tk}{e2:Tk}(h:Cx L e1 e2)(f:Nat)(a:List Bs):He (f+1) a (e1::e2::zr)= .error L:=by rw[He,h.want (by decide)]
theorem Cx.locals {zr:List Tk}{L:Int}{e1:Tk}{e2:Tk}(h:Cx L e1 e2)(f:Nat)(a:List Bs):Dy (f+1) a (e1::e2::zr)= .ok (a,e1::e2::zr):=by rw[Dy,h.take (by decide)]
theorem Cx.prog {zr:List Tk}{L:Int}{e1:Tk}{e2:Tk}(h:Cx L e1 e2)(f:Nat)(p:Pr):Ce (f+1) p (e1::e2::zr)= .error L:=by
 rw[Ce,if_neg (show ¬((e1::e2::zr).head?.map (·.kind)).getD 0=5 by show ¬e1.kind=5;rw[h.k1];decide),h.want (by decide)]
theorem Jz {zr:List Tk}{L:Int}{e1:Tk}{e2:Tk}{α:Type}{q:Nat→List Tk→PR α}(k:Nat)(hq:∀f,q (f+k) (e1::e2::zr)= .error L):EvZ (e1::e2::zr) L q:=
 ⟨.error L,⟨k,fun f hf=>by obtain⟨m,rfl⟩:∃m,f=m+k:=⟨f - k,by omega⟩;exact hq m⟩,.inl rfl⟩
theorem aY {zr:List Tk}{L:Int}{e1:Tk}{e2:Tk}{α:Type}{q:Nat→List Tk→PR α}(x:α)(hq:∀f,q (f+1) (e1::e2::zr)= .ok (x,e1::e2::zr)):EvZ (e1::e2::zr) L q:=
 ⟨_,Ev.const hq,.inr ⟨x,rfl⟩⟩
def Ym(f:Nat)(l:List Tk):PR Ex:=match l with
 |[]=> .error 0
 |t::r=>if t.kind=3 then .ok (.mk 1 0 t.num [] [],r)else if t.kind=1 then Cr f t.text r else .error t.line
theorem fZ(f:Nat)(lv:Int)(l:List Tk):Ba (f+1) lv l=Ea (Bg f l) (fun x r=>Gj f lv x r):=by rw[Ba];kernel_rfl
theorem dW(f:Nat)(l:List Tk):Bg (f+1) l=orP (Ap 17) l (fun r=>Ea (Bg f r) (fun x r=> .ok (.mk 3 17 0 [] [x],r))) (orP (Ap 18) l (fun r=>Ea (Bg f r) (fun x r=> .ok (.mk 3 18 0 [] [x],r))) (orP (Ap 19) l (fun r=>Ea (Bg f r) (fun x r=> .ok (.mk 3 19 0 [] [x],r)))
  (orP [40] l (fun r=>Ea (Ba f 1 r) (fun x r=>Dh [41] r (fun r=> .ok (x,r)))) (orP [114,101,97,100] l (fun r=>Dh [40] r (fun r=>Dh [41] r (fun r=> .ok (.mk 7 0 0 [] [],r)))) (Ym f l))))):=by
 rw[Bg.eq_def];dsimp only;unfold Ec;unfold orP
 cases Bi (Ap 17) l with
 |some r=>kernel_rfl
 |none=>
  cases Bi (Ap 18) l with
  |some r=>kernel_rfl
  |none=>
   cases Bi (Ap 19) l with
   |some r=>kernel_rfl
   |none=>kernel_rfl
theorem cJ(f:Nat)(s:Bs)(l:List Tk):Cr (f+1) s l=orP [40] l (fun r=>Ea (Ej f r) (fun a r=> .ok (.mk 5 0 0 s a,r))) (orP [91] l (fun r=>Ea (Ba f 1 r) (fun x r=>Dh [93] r (fun r=> .ok (.mk 6 0 0 s [x],r)))) (.ok (.mk 2 0 0 s [],l))):=by rw[Cr];kernel_rfl
theorem lM(f:Nat)(l:List Tk):Ej (f+1) l=orP [41] l (fun r=> .ok ([],r)) (Fy f [] l):=by rw[Ej];kernel_rfl
theorem kX(f:Nat)(a:List Ex)(l:List Tk):Fy (f+1) a l=Ea (Ba f 1 l) (fun x r=>orP [44] r (fun r=>Fy f (a++[x]) r) (Dh [41] r (fun r=> .ok (a++[x],r)))):=by rw[Fy];kernel_rfl
theorem Uc {B:List Tk}{zr:List Tk}{L:Int}{e1:Tk}{e2:Tk}(h:Cx L e1 e2):∀f:Nat,(∀lv,Av B (e1::e2::zr) L (Ba f lv) (fun g=>Ba g lv))∧(∀lv x,Av B (e1::e2::zr) L (Gj f lv x) (fun g=>Gj g lv x))∧Av B (e1::e2::zr) L (Bg f) Bg∧(∀s,Av B (e1::e2::zr) L (Cr f s) (fun g=>Cr g s))∧Av B (e1::e2::zr) L (Ej f) Ej∧(∀a,Av B (e1::e2::zr) L (Fy f a) (fun g=>Fy g a))
 |0=>⟨fun lv=> .zero (Jz 2 (fun f=>h.climb f lv)) (fun l=>by rw[Ba]),fun lv x=> .zero (aY x (fun f=>h.loop f lv x)) (fun l=>by rw[Gj]),.zero (Jz 1 h.tight) (fun l=>by rw[Bg]),
  fun s=> .zero (aY _ (fun f=>h.named f s)) (fun l=>by rw[Cr]),.zero (Jz 4 h.args) (fun l=>by rw[Ej]),fun a=> .zero (Jz 3 (fun f=>h.more f a)) (fun l=>by rw[Fy])⟩
 |f+1=>by
  obtain⟨ic,il,it,inm,ia,im⟩:=Uc (B:=B) (zr:=zr) h f;have h40:=h.take (zr:=zr) (s:=[40]) (by decide);have h41:=h.want (zr:=zr) (s:=[41]) (by decide);refine⟨fun lv=> ?_,fun lv x=> ?_,?_,fun s=> ?_,?_,fun a=> ?_⟩
  ·exact Av.congr (Av.bind it (fun x=>il lv x)) (fZ f lv) (fun g=>fZ g lv)
  ·refine⟨aY x (fun f=>h.loop f lv x),fun a A y rest e=> ?_⟩
   rw[Gj]at e;have eb:Cy lv (a::(A++(e1::e2::zr)))=Cy lv (a::(A++B)):=rfl;split at e
   ·rename_i h0
    cases e
    exact⟨_,Ev.const (fun g=>by(try dsimp only);rw[Gj,eb,if_pos h0];rfl),.inl ⟨a::A,rfl,rfl⟩⟩
   ·rename_i h0
    have ht:=Av.bind (ic (Al (Cy lv (a::(A++B)))+1)) (fun y=>il lv (.mk 4 (Cy lv (a::(A++B))) 0 [] [x,y]));obtain⟨z,ev,hz⟩:=ht.at A y rest (by
     rw[←e];kernel_rfl)
    exact⟨z,Ev.one ev (fun g e=>by(try dsimp only at e ⊢);rw[Gj,eb,if_neg h0];exact Eq.trans (by kernel_rfl) e),hz⟩
  ·have un:∀o:Int,Av B (e1::e2::zr) L (fun r=>Ea (Bg f r) (fun x r=>(.ok (Ex.mk 3 o 0 [] [x],r):PR Ex))) (fun g r=>Ea (Bg g r) (fun x r=>(.ok (Ex.mk 3 o 0 [] [x],r):PR Ex))):=fun o=>Av.bind it (fun x=>Av.ret _)
   refine Av.congr (Av.or (h.take (by decide)) (un 17) (Av.or (h.take (by decide)) (un 18) (Av.or (h.take (by decide)) (un 19) (Av.or h40 (Av.bind (ic 1) (fun x=>Av.want h41 (Av.ret _))) (Av.or (h.take (by decide)) (Av.want (h.want (by decide)) (Av.want h41 (Av.ret _))) (q2:=Ym) (p2:=Ym f) ?_))))) (dW f) (fun g=>dW g);refine⟨Jz 0 (fun f=>by show(if e1.kind=3 then _ else _)=_;rw[if_neg (by rw[h.k1];decide),if_neg (by rw[h.k1];decide),h.l1]),fun a A x rest e=> ?_⟩;unfold Ym at e;dsimp only at e
   by_cases h3:a.kind=3
   ·rw[if_pos h3]at e
    cases e
    exact⟨_,Ev.pure (fun g=>by(try dsimp only);unfold Ym;dsimp only;rw[if_pos h3]),.inl ⟨A,rfl,rfl⟩⟩
   ·rw[if_neg h3]at e
    by_cases h1:a.kind=1
    ·rw[if_pos h1]at e
     obtain⟨z,ev,hz⟩:=(inm a.text).at A x rest e;exact⟨z,Ev.map ev (fun g e=>by(try dsimp only at e ⊢);unfold Ym;dsimp only;rw[if_neg h3,if_pos h1];exact e),hz⟩
    ·rw[if_neg h1]at e;cases e
  ·exact Av.congr (Av.or h40 (Av.bind ia (fun a=>Av.ret _)) (Av.or (h.take (by decide)) (Av.bind (ic 1) (fun x=>Av.want (h.want (by decide)) (Av.ret _))) (Av.ret _))) (cJ f s) (fun g=>cJ g s)
  ·exact Av.congr (Av.or (h.take (by decide)) (Av.ret _) (im [])) (lM f) lM
  ·exact Av.congr (Av.bind (ic 1) (fun x=>Av.or (h.take (by decide)) (im (a++[x])) (Av.want h41 (Av.ret _)))) (kX f a) (fun g=>kX g a)
theorem Oi {B:List Tk}{zr:List Tk}{L:Int}{e1:Tk}{e2:Tk}(h:Cx L e1 e2):Av B (e1::e2::zr) L Dm (fun _=>Dm):=
 Av.same (Av.bind (Av.kind (k:=1) (h.kind (by decide))) (fun t=>Av.ret t.text)) (fun l=>by unfold Dm Ea;kernel_rfl) (fun g l=>by unfold Dm Ea;kernel_rfl)
theorem Ti {B:List Tk}{zr:List Tk}{L:Int}{e1:Tk}{e2:Tk}(h:Cx L e1 e2)(f:Nat):Av B (e1::e2::zr) L (Ch f) Ch:=
 Av.same (Av.want (s:=[40]) (h.want (by decide)) (Av.bind ((Uc h f).1 1) (fun x=>Av.want (s:=[41]) (h.want (by decide)) (Av.ret x)))) (fun l=>by kernel_rfl) (fun g l=>by kernel_rfl)
theorem cK {B:List Tk}{zr:List Tk}{L:Int}{e1:Tk}{e2:Tk}(h:Cx L e1 e2)(f:Nat):Av B (e1::e2::zr) L (Ao f) Ao:=by
 have hi:=Ti (B:=B) (zr:=zr) h f;have hc:=(Uc (B:=B) (zr:=zr) h f).1 1;have ha:=(Uc (B:=B) (zr:=zr) h f).2.2.2.2.1;exact Av.same (Av.or (s:=[98,114,101,97,107]) (h.take (by decide)) (Av.ret (.mk 5 [] [] [] [])) (Av.or (s:=[99,111,110,116,105,110,117,101]) (h.take (by decide)) (Av.ret (.mk 6 [] [] [] [])) (Av.or (s:=[114,101,116,117,114,110]) (h.take (by decide)) (Av.bind hc (fun x=>Av.ret (.mk 7 [] [x] [] [])))
  (Av.or (s:=[112,114,105,110,116]) (h.take (by decide)) (Av.bind hi (fun x=>Av.ret (.mk 8 [] [x] [] []))) (Av.or (s:=[116,114,97,112]) (h.take (by decide)) (Av.bind hi (fun x=>Av.ret (.mk 9 [] [x] [] [])))
  (Av.bind (Oi h) (fun s=>Av.or (s:=[40]) (h.take (by decide)) (Av.bind ha (fun a=>Av.ret (.mk 10 [] [.mk 5 0 0 s a] [] [])))
   (Av.or (s:=[91]) (h.take (by decide)) (Av.bind hc (fun x=>Av.want (s:=[93]) (h.want (by decide)) (Av.want (s:=[61]) (h.want (by decide)) (Av.bind hc (fun y=>Av.ret (.mk 2 s [x,y] [] []))))))
    (Av.want (s:=[61]) (h.want (by decide)) (Av.bind hc (fun x=>Av.ret (.mk 1 s [x] [] [])))))))))))) (fun l=>by kernel_rfl) (fun g l=>by kernel_rfl)
theorem nU {B:List Tk}{zr:List Tk}{L:Int}{e1:Tk}{e2:Tk}(h:Cx L e1 e2){α:Type}{p1 p2:List Tk→PR α}{q1 q2:Nat→List Tk→PR α}(h1:Av B (e1::e2::zr) L p1 q1)(h2:Av B (e1::e2::zr) L p2 q2):
  Av B (e1::e2::zr) L (fun l=>orP [101,108,115,101] l (fun r=>Dh [123] r p1) (p2 l)) (fun g l=>orP [101,108,115,101] l (fun r=>Dh [123] r (q1 g)) (q2 g l)):=by
 refine Av.orW (q1:=fun g r=>Dh [123] r (q1 g)) (Av.want (h.want (by decide)) h1) h2 ⟨.error L,Ev.pure (fun g=> ?_),.inl rfl⟩;(try dsimp only);rw[iX (by unfold isP;rw[h.k1,h.t1];rfl),eM (Da (by rw[h.t2];decide)),h.l2]
theorem kL {B:List Tk}{zr:List Tk}{L:Int}{e1:Tk}{e2:Tk}(h:Cx L e1 e2):∀f:Nat,Av B (e1::e2::zr) L (Cz f) Cz∧∀a,Av B (e1::e2::zr) L (Cq f a) (fun g=>Cq g a)
 |0=>⟨.zero (Jz 1 h.stmt) (fun l=>by rw[Cz]),fun a=> .zero (Jz 2 (fun f=>h.stmts f a)) (fun l=>by rw[Cq])⟩
 |f+1=>by
  obtain⟨is,il⟩:=kL (B:=B) (zr:=zr) h f;have hi:=Ti (B:=B) (zr:=zr) h f;have hs:=cK (B:=B) (zr:=zr) h f;refine⟨?_,fun a=> ?_⟩
  ·refine Av.congr (Av.or (s:=[105,102]) (h.take (by decide)) (Av.bind hi (fun x=>Av.want (s:=[123]) (h.want (by decide)) (Av.bind (il []) (fun a=>nU h (Av.bind (il []) (fun b=>Av.ret (.mk 3 [] [x] a b))) (Av.ret (.mk 3 [] [x] a []))))))
    (Av.or (s:=[119,104,105,108,101]) (h.take (by decide)) (Av.bind hi (fun x=>Av.want (s:=[123]) (h.want (by decide)) (Av.bind (il []) (fun a=>Av.ret (.mk 4 [] [x] a [])))))
     (Av.bind hs (fun x=>Av.want (s:=[59]) (h.want (by decide)) (Av.ret x))))) (fun l=> ?_) (fun g l=> ?_)
   ·rw[Cz];unfold orP Dh Ea
    cases Bi [105,102] l with
    |none=>kernel_rfl
    |some r=>
     dsimp only
     cases Ch f r with
     |error e=>kernel_rfl
     |ok xr=>
      dsimp only
      cases An [123] xr.2 with
      |error e=>kernel_rfl
      |ok r=>
       dsimp only
       cases Cq f [] r with
       |error e=>kernel_rfl
       |ok ar=>
        dsimp only
        cases Bi [101,108,115,101] ar.2<;>kernel_rfl
   ·rw[Cz];unfold orP Dh Ea
    cases Bi [105,102] l with
    |none=>kernel_rfl
    |some r=>
     dsimp only
     cases Ch g r with
     |error e=>kernel_rfl
     |ok xr=>
      dsimp only
      cases An [123] xr.2 with
      |error e=>kernel_rfl
      |ok r=>
       dsimp only
       cases Cq g [] r with
       |error e=>kernel_rfl
       |ok ar=>
        dsimp only
        cases Bi [101,108,115,101] ar.2<;>kernel_rfl
  ·exact Av.congr (Av.or (s:=[125]) (h.take (by decide)) (Av.ret a) (Av.bind is (fun x=>il (a++[x])))) (fun l=>by rw[Cq];kernel_rfl) (fun g l=>by rw[Cq];kernel_rfl)
theorem Zz {B:List Tk}{zr:List Tk}{L:Int}{e1:Tk}{e2:Tk}(h:Cx L e1 e2):∀(f:Nat) a,Av B (e1::e2::zr) L (He f a) (fun g=>He g a)
 |0,a=> .zero (Jz 1 (fun f=>h.pars f a)) (fun l=>by rw[He])
 |f+1,a=>Av.congr (Av.want (s:=[105,110,116]) (h.want (by decide)) (Av.bind (Oi h) (fun s=>Av.or (s:=[44]) (h.take (by decide)) (Zz h f (a++[s])) (Av.want (s:=[41]) (h.want (by decide)) (Av.ret (a++[s])))))) (fun l=>by rw[He];kernel_rfl) (fun g l=>by rw[He];kernel_rfl)
theorem Sy {B:List Tk}{zr:List Tk}{L:Int}{e1:Tk}{e2:Tk}(h:Cx L e1 e2):∀(f:Nat) a,Av B (e1::e2::zr) L (Dy f a) (fun g=>Dy g a)
 |0,a=> .zero (aY a (fun f=>h.locals f a)) (fun l=>by rw[Dy])
 |f+1,a=>Av.congr (Av.or (s:=[105,110,116]) (h.take (by decide)) (Av.bind (Oi h) (fun s=>Av.want (s:=[59]) (h.want (by decide)) (Sy h f (a++[s])))) (Av.ret a)) (fun l=>by rw[Dy];unfold orP;cases Bi [105,110,116] l<;>kernel_rfl) (fun g l=>by rw[Dy];unfold orP;cases Bi [105,110,116] l<;>kernel_rfl)
theorem sY {B:List Tk}{zr:List Tk}{L:Int}{e1:Tk}{e2:Tk}(h:Cx L e1 e2)(f:Nat)(s:Bs):Av B (e1::e2::zr) L (Cl f s) (fun g=>Cl g s):=
 Av.same (Av.bind (Av.or (s:=[41]) (h.take (by decide)) (Av.ret []) (Zz h f [])) (fun ps=>Av.want (s:=[123]) (h.want (by decide)) (Av.bind (Sy h f []) (fun ls=>Av.bind ((kL h f).2 []) (fun b=>Av.ret ⟨s,ps,ls,b⟩))))) (fun l=>by kernel_rfl) (fun g l=>by kernel_rfl)
theorem Rq {B:List Tk}{zr:List Tk}{L:Int}{e1:Tk}{e2:Tk}(h:Cx L e1 e2):∀(f:Nat) (p:Pr),Av B (e1::e2::zr) L (Ce f p) (fun g=>Ce g p)
 |0,p=> .zero (Jz 1 (fun f=>h.prog f p)) (fun l=>by rw[Ce])
 |f+1,p=>by
  have hf:∀s,Av B (e1::e2::zr) L (fun r=>Dh [40] r (fun r=>Ea (Cl f s r) (fun x r=>Ce f {p with funcs:=p.funcs++[x]} r))) (fun g r=>Dh [40] r (fun r=>Ea (Cl g s r) (fun x r=>Ce g {p with funcs:=p.funcs++[x]} r))):=fun s=>Av.want (s:=[40]) (h.want (by decide)) (Av.bind (sY h f s) (fun x=>Rq h f {p with funcs:=p.funcs++[x]}))
  have ha:∀s,Av B (e1::e2::zr) L (fun r=>Ea (Gv 3 r) (fun t r=>Dh [93] r (fun r=>Dh [59] r (fun r=>Ce f {p with arrays:=p.arrays++[⟨s,t.num⟩]} r)))) (fun g r=>Ea (Gv 3 r) (fun t r=>Dh [93] r (fun r=>Dh [59] r (fun r=>Ce g {p with arrays:=p.arrays++[⟨s,t.num⟩]} r)))):=fun s=>Av.bind (Av.kind (k:=3) (h.kind (by decide))) (fun t=>Av.want (s:=[93]) (h.want (by decide)) (Av.want (s:=[59]) (h.want (by decide)) (Rq h f {p with arrays:=p.arrays++[⟨s,t.num⟩]})))
  have hw:Av B (e1::e2::zr) L (fun l=>Dh [105,110,116] l (fun r=>Ea (Dm r) (fun s r=>if p.funcs.isEmpty=true then orP [91] r (fun r=>Ea (Gv 3 r) (fun t r=>Dh [93] r (fun r=>Dh [59] r (fun r=>Ce f {p with arrays:=p.arrays++[⟨s,t.num⟩]} r)))) (Dh [40] r (fun r=>Ea (Cl f s r) (fun x r=>Ce f {p with funcs:=p.funcs++[x]} r)))else Dh [40] r (fun r=>Ea (Cl f s r) (fun x r=>Ce f {p with funcs:=p.funcs++[x]} r)))))
    (fun g l=>Dh [105,110,116] l (fun r=>Ea (Dm r) (fun s r=>if p.funcs.isEmpty=true then orP [91] r (fun r=>Ea (Gv 3 r) (fun t r=>Dh [93] r (fun r=>Dh [59] r (fun r=>Ce g {p with arrays:=p.arrays++[⟨s,t.num⟩]} r)))) (Dh [40] r (fun r=>Ea (Cl g s r) (fun x r=>Ce g {p with funcs:=p.funcs++[x]} r)))else Dh [40] r (fun r=>Ea (Cl g s r) (fun x r=>Ce g {p with funcs:=p.funcs++[x]} r))))):=by
   refine Av.want (s:=[105,110,116]) (h.want (by decide)) (Av.bind (Oi h) (fun s=> ?_) (q2:=fun s g r=>if p.funcs.isEmpty=true then orP [91] r (fun r=>Ea (Gv 3 r) (fun t r=>Dh [93] r (fun r=>Dh [59] r (fun r=>Ce g {p with arrays:=p.arrays++[⟨s,t.num⟩]} r)))) (Dh [40] r (fun r=>Ea (Cl g s r) (fun x r=>Ce g {p with funcs:=p.funcs++[x]} r)))else Dh [40] r (fun r=>Ea (Cl g s r) (fun x r=>Ce g {p with funcs:=p.funcs++[x]} r))))
   by_cases he:p.funcs.isEmpty=true
   ·simp only[if_pos he]
    exact Av.or (s:=[91]) (h.take (by decide)) (ha s) (hf s)
   ·simp only[if_neg he]
    exact hf s
  have eq:∀g l,Ce (g+1) p l=if(l.head?.map (·.kind)).getD 0=5 then .ok (p,l)else Dh [105,110,116] l (fun r=>Ea (Dm r) (fun s r=>if p.funcs.isEmpty=true then orP [91] r (fun r=>Ea (Gv 3 r) (fun t r=>Dh [93] r (fun r=>Dh [59] r (fun r=>Ce g {p with arrays:=p.arrays++[⟨s,t.num⟩]} r)))) (Dh [40] r (fun r=>Ea (Cl g s r) (fun x r=>Ce g {p with funcs:=p.funcs++[x]} r)))else Dh [40] r (fun r=>Ea (Cl g s r) (fun x r=>Ce g {p with funcs:=p.funcs++[x]} r)))):=by
   intro g l;rw[Ce]
   by_cases h5:(l.head?.map (·.kind)).getD 0=5
   ·rw[if_pos h5,if_pos h5]
   ·rw[if_neg h5,if_neg h5]
    by_cases he:p.funcs.isEmpty=true
    ·simp only[if_pos he];kernel_rfl
    ·simp only[if_neg he];kernel_rfl
  refine⟨Jz 1 (fun f=>h.prog f p),fun a A x rest e=> ?_⟩;rw[eq]at e
  by_cases h5:a.kind=5
  ·rw[if_pos (show((a::(A++B)).head?.map (·.kind)).getD 0=5 from h5)]at e
   cases e
   exact⟨_,Ev.const (fun g=>by(try dsimp only);rw[eq,if_pos (show((a::(A++(e1::e2::zr))).head?.map (·.kind)).getD 0=5 from h5)];rfl),.inl ⟨a::A,rfl,rfl⟩⟩
  ·rw[if_neg (show ¬((a::(A++B)).head?.map (·.kind)).getD 0=5 from h5)]at e
   obtain⟨z,ev,hz⟩:=hw.2 a A x rest e;exact⟨z,Ev.one ev (fun g e=>by(try dsimp only at e ⊢);rw[eq,if_neg (show ¬((a::(A++(e1::e2::zr))).head?.map (·.kind)).getD 0=5 from h5)];exact e),hz⟩
theorem Ph:∀(f:Nat) (p x:Pr) (l rest:List Tk),Ce f p l= .ok (x,rest)→(rest.head?.map (·.kind)).getD 0=5
 |0,p,x,l,rest,e=>by rw[Ce]at e;cases e
 |f+1,p,x,l,rest,e=>by
  rw[Ce]at e;split at e
  ·rename_i h5;cases e;exact h5
  ·split at e
   ·cases e
   ·split at e
    ·cases e
    ·split at e
     ·split at e
      ·cases e
      ·split at e
       ·cases e
       ·split at e
        ·cases e
        ·exact Ph f _ _ _ _ e
     ·split at e
      ·cases e
      ·split at e
       ·cases e
       ·exact Ph f _ _ _ _ e
theorem Ve {zr:List Tk}{L:Int}{e1:Tk}{e2:Tk}(h:Cx L e1 e2){f:Nat}{p0 p:Pr}{A:List Tk}{b u:Tk}{B':List Tk}(hb:Ce f p0 (A++b::B')= .ok (p,[u])):Ev (fun g=>Ce g p0 (A++e1::e2::zr)) (.error L):=by
 obtain⟨z,ev,hz⟩:=(Rq (zr:=zr) h f p0).at A p [u] hb;have no:∀x',z= .ok (x',e1::e2::zr)→False:=fun x' e=>by
  obtain⟨g,hg⟩:=ev;have:=Ph g p0 x' _ _ ((hg g (Zh _)).trans e);have:e1.kind=5:=this;rw[h.k1]at this;exact absurd this (by decide)
 rcases hz with⟨A',e,ez⟩|rfl|⟨x',e⟩
 ·cases A' with
  |nil=>exact absurd ez (no p)
  |cons c A'=>
   have:=congrArg List.length e;simp at this
 ·exact ev
 ·exact absurd e (no x')
abbrev Ld(l:List Tk)(i:Nat):Tk:=l.getD i ⟨0,[],0,0⟩
def Wj(w:World)(l:List Tk)(v:Value):Prop:=
 ∃a cap b off,v= .slice a l.length cap∧l.length≤cap∧(l.length=0∨a=some ⟨b,off,none⟩)∧l.length≤1000000∧
  ∀i,i<l.length→w.cell? ⟨b,off+i*4,none⟩=some (.int .i64 (Ld l i).kind)∧w.cell? ⟨b,off+i*4+1,none⟩=some (.string (Aa (Ld l i).text))∧w.cell? ⟨b,off+i*4+2,none⟩=some (.int .i64 (Ld l i).num)∧w.cell? ⟨b,off+i*4+3,none⟩=some (.int .i64 (Ld l i).line)
theorem Wj.old {w w':World}{l:List Tk}{v:Value}(h:Wj w l v)(hb:Below w.heap.size w w'):Wj w' l v:=by
 obtain⟨a,cap,b,off,h1,hc,h2,h3,h4⟩:=h;exact⟨a,cap,b,off,h1,hc,h2,h3,fun i hi=>⟨Ad hb (h4 i hi).1,Ad hb (h4 i hi).2.1,Ad hb (h4 i hi).2.2.1,Ad hb (h4 i hi).2.2.2⟩⟩
theorem Wj.slice {w:World}{l:List Tk}{v:Value}(h:Wj w l v):∃a cap,v= .slice a l.length cap∧l.length≤cap:=by
 obtain⟨a,cap,b,off,h1,hc,_⟩:=h;exact⟨a,cap,h1,hc⟩
theorem Wj.at {w:World}{l:List Tk}{a:Option Addr}{n cap:Nat}(h:Wj w l (.slice a n cap))(i:Nat)(hi:i<l.length):∃b off,a=some ⟨b,off,none⟩∧b<w.heap.size∧
  w.cell? ⟨b,off+i*4,none⟩=some (.int .i64 (Ld l i).kind)∧w.cell? ⟨b,off+i*4+1,none⟩=some (.string (Aa (Ld l i).text))∧w.cell? ⟨b,off+i*4+2,none⟩=some (.int .i64 (Ld l i).num)∧w.cell? ⟨b,off+i*4+3,none⟩=some (.int .i64 (Ld l i).line):=by
 obtain⟨a',cap',b,off,h1,hc,h2,h3,h4⟩:=h
 cases h1
 rcases h2 with h2|h2
 ·omega
 ·exact⟨b,off,h2,World.block_lt_of_cell? _ _ (h4 i hi).1,h4 i hi⟩
theorem Gi.tks {w:World}{base:Nat}{l:List Tk}{v:Value}(h:Gi w base l v)(hl:l.length≤1000000):Wj w l v:=by
 have h0:=h;rcases h.2 with⟨rfl,hz⟩|⟨g,cap,cur,rfl,hb,hg,hc,r⟩
 ·have:l=[]:=List.length_eq_zero_iff.1 hz
  subst this;exact⟨none,0,0,0,rfl,Zh _,.inl rfl,hl,fun i hi=>absurd hi (Nat.not_lt_zero _)⟩
 ·refine⟨_,cap,g,0,rfl,hc,.inr rfl,hl,fun i hi=> ?_⟩
  have hp:l[i]? =some (Ld l i):=by simp [Ld,Zl hi]
  have c:∀q u,q<4→(Gd (Ld l i))[q]? =some u→w.cell? ⟨g,0+i*4+q,none⟩=some u:=fun q u hq hu=>by
   have:=zrow_at h0 (i*4+q) u (by rw[Vc Gd 4 (fun _=>rfl) l i q _ hp hq];exact hu)
   rwa[Nat.zero_add]
  exact⟨c 0 _ (by decide) rfl,c 1 _ (by decide) rfl,c 2 _ (by decide) rfl,c 3 _ (by decide) rfl⟩
theorem Ae.tks {w:World}{b:Nat}{l:List Tk}{T:TypeId}(h:Ae w b (l.flatMap Gd) T)(hl:l.length≤1000000):Wj w l (.slice (some ⟨b,0,none⟩) l.length l.length):=by
 refine⟨_,l.length,b,0,rfl,Zh _,.inr rfl,hl,fun i hi=> ?_⟩;have hp:l[i]? =some (Ld l i):=by simp [Ld,Zl hi]
 have c:∀q u,q<4→(Gd (Ld l i))[q]? =some u→w.cell? ⟨b,0+i*4+q,none⟩=some u:=fun q u hq hu=>by
  have:=h.at (i*4+q) u (by rw[Vc Gd 4 (fun _=>rfl) l i q _ hp hq];exact hu)
  rwa[Nat.zero_add]
 exact⟨c 0 _ (by decide) rfl,c 1 _ (by decide) rfl,c 2 _ (by decide) rfl,c 3 _ (by decide) rfl⟩
def whL:List T3→List Pc
 |[]=>[]
 |x::l=> .t x:: .g [10]::whL l
def Sh:List Pc:=[wd [101,108,115,101],.g [32],wd [101,108,115,101]]
def Wd:Nat→List T3→List Tk
 |_,[]=>[]
 |n,x::l=>⟨x.kind,x.text,x.num,n⟩::Wd (n+1) l
theorem kJ:∀(l:List T3) (n:Nat),My n (whL l)=Wd n l
 |[],n=>rfl
 |x::l,n=>by show _::My (n+Cb [10]) (whL l)=_::Wd (n+1) l;rw[kJ l];rfl
theorem lO:∀(l:List T3),iH (whL l)=l.length
 |[]=>rfl
 |x::l=>by show Cb [10]+iH (whL l)=l.length+1;rw[lO l,Nat.add_comm];rfl
theorem bT:∀(l:List T3) (n:Nat),(Wd n l).map t3=l
 |[],n=>rfl
 |x::l,n=>by show x::(Wd (n+1) l).map t3=_;rw[bT l]
theorem Vk {x:T3}:∀ {l:List Pc},x∈Gu l→Pc.t x∈l
 | .g b::l,h=>Zc _ (Vk (l:=l) h)
 | .t y::l,h=>by
  rcases Zo.1 (show x∈y::Gu l from h)with rfl|h
  ·exact Za
  ·exact Zc _ (Vk h)
theorem pcs_tok {l:List Pc}(h:Bd l):∀x,x∈Gu l→Nj x:=fun x hx=>h _ (Vk hx)
theorem rH:∀(l:List T3),(∀x,x∈l→Nj x)→Bd (whL l)
 |[],_=> .nil
 |x::l,h=> .cons (h x Za) (.sp (by decide) (rH l (fun y hy=>h y (Zc _ hy))))
theorem kW {S:Int→Bs→Bool}(hS:Mh S)(z:Bs):∀l:List T3,Fh S (whL l) z
 |[]=>trivial
 |x::l=>⟨hS.soft x.kind 10 _ (by decide),kW hS z l⟩
def Il(l:List T3):Bs:=l.flatMap (fun x=>x.text++[10])
theorem dP:∀l:List T3,Ay (whL l)=Il l
 |[]=>rfl
 |x::l=>by
  show x.text++([10]++Ay (whL l))=(x.text++[10])++Il l
  rw[dP l,Zg]
theorem Qe:∀(l:List Pc),Bd l→(Il (Gu l)).length≤2*(Ay l).length
 |[],h=>Zh _
 | .g b::l,h=>by
  have:=Qe l (fun p hp=>h p (Zc _ hp));show(Il (Gu l)).length≤2*(b++Ay l).length
  rw[Zb];omega
 | .t x::l,h=>by
  have:=Qe l (fun p hp=>h p (Zc _ hp));have h1:x.text≠[]:=rN (h (.t x) Za);have h2:0<x.text.length:=List.length_pos_iff.2 h1;show((x.text++[10])++Il (Gu l)).length≤2*(x.text++Ay l).length
  rw[Zb,Zb,Zb,List.length_singleton];omega
theorem dO(l:List T3)(k:Nat):(Il (l.take k)).length≤(Il l).length:=by
 have e:Il l=Il (l.take k)++Il (l.drop k):=by unfold Il;rw[←List.flatMap_append,List.take_append_drop]
 rw[e,Zb];omega
theorem aU {p:Pr}(hr:Ff p=true)(hn:∀g,g∈p.funcs→∀x,x∈g.body→Xl x):Bd (Ki p):=by
 obtain⟨h1,h2⟩:=Mw hr;exact .app (Ty _ _ fun a ha=>(lH (h1 a ha)).1) (Ty _ _ fun x hx=>fu_toks (h2 x hx) (hn x hx))
def Rf:Bs:=[101,108,115,101,32,101,108,115,101]
theorem nM {p:Pr}(hr:Ff p=true)(hn:∀g,g∈p.funcs→∀x,x∈g.body→Xl x)(hlen:(Fj p).length≤5000)(k:Nat)(hk:k≤(Gu (Ki p)).length)(w:World)(hl:Ji w):
  Calls Tryz.prog 14 #[.string (Aa (Il ((Gu (Ki p)).take k)++Rf))] w (WhP w (⟨[],[]⟩,40,((1+k:Nat):Int))):=by
 obtain⟨h1,h2⟩:=Mw hr;have hok:=aU hr hn;have htk:=pcs_tok hok;have hsum:=Qe _ hok;rw[Rs]at hsum;have htake:=dO (Gu (Ki p)) k;obtain⟨T,hT⟩:∃T,Gu (Ki p)=T:=⟨_,rfl⟩;rw[hT]at hk htk hsum htake ⊢;have e0:Ay (whL (T.take k)++Sh)=Il (T.take k)++Rf:=by rw[As,dP];rfl
 have hlt:(T.take k).length=k:=by rw[List.length_take];omega
 have hg:Np (Cu (whL (T.take k)++Sh)) []:=by
  have:Cu (whL (T.take k)++Sh)=[]:=by
   cases T.take k with
   |nil=>rfl
   |cons a l=>rfl
  rw[this];exact Ny
 have hs:Fh Lh (whL (T.take k)++Sh) []:=Zd (kW sepR _ _) ⟨sepR.soft 2 32 _ (by decide),sepR.nil 2,trivial⟩;rw[←e0];refine(pI (whL (T.take k)++Sh) (.app (rH _ fun x hx=>htk x (List.mem_of_mem_take hx)) (.wd (by decide) (.sp (by decide) (.wd (by decide) .nil)))) hs (by rw[e0,Zb,show Rf.length=9 from rfl];omega) hg (fun r=>r=(⟨[],[]⟩,40,((1+k:Nat):Int))) ?_ w hl).mono ?_
 ·intro N
  refine⟨.error ((1+k:Nat):Int),?_,rfl⟩;rw[Uz,kJ,lO,hlt];obtain⟨u,hu⟩:∃u:Tk,u.kind=5:=⟨⟨5,[],0,0⟩,rfl⟩;have hf:For (Wd 1 (T.take k)++Wd 0 (T.drop k)) (Ki p):=by
   show List.map t3 _=_
   rw[List.map_append,bT,bT,List.take_append_drop,hT]
  obtain⟨f0,hp⟩:=jV h2 hf hu;have hp:=hp f0 (Zh _);have hz:Cx ((1+k:Nat):Int) ⟨2,[101,108,115,101],0,((1+k:Nat):Int)⟩ ⟨2,[101,108,115,101],0,((1+k:Nat):Int)⟩:=⟨rfl,rfl,rfl,rfl,rfl,rfl⟩;have e9:My (1+k) Sh=[⟨2,[101,108,115,101],0,((1+k:Nat):Int)⟩,⟨2,[101,108,115,101],0,((1+k:Nat):Int)⟩]:=rfl;rw[e9,Zg]
  cases hd:T.drop k with
  |nil=>
   rw[hd]at hp;replace hp:Ce f0 ⟨[],[]⟩ ((Wd 1 (T.take k)++[])++[u])= .ok (p,[u]):=hp;rw[List.append_nil]at hp;exact Ve hz (B':=[]) hp
  |cons b B=>
   rw[hd]at hp;replace hp:Ce f0 ⟨[],[]⟩ ((Wd 1 (T.take k)++(⟨b.kind,b.text,b.num,(0:Nat)⟩::Wd 1 B))++[u])= .ok (p,[u]):=hp;rw[Zg]at hp;exact Ve hz (B':=Wd 1 B++[u]) hp
 ·rintro r w' ⟨R,rfl,hp⟩;exact hp
theorem scan_pr {p:Pr}(hr:Ff p=true)(hn:∀g,g∈p.funcs→∀x,x∈g.body→Xl x)(hlen:(Fj p).length≤20000)(w:World)(hl:Ji w):
  Calls Tryz.prog 20 #[.string (Aa (Fj p))] w fun e w'=>Below w.heap.size w w'∧∃v T u,e= .returned (.tuple #[v,.int .i64 0,.int .i64 0])∧Wj w' (T++[u]) v∧T.map t3=Gu (Ki p)∧T.length≤20000:=by
 obtain⟨h1,h2⟩:=Mw hr;have hok:=aU hr hn;have hg:Cu (Ki p)=[]:=pr_gap _ _;have hs:Fh Lh (Ki p) []:=iK sepR digL p.arrays p.funcs [] (fun a ha=>(lH (h1 a ha)).2) h2;obtain⟨i1,i2⟩:=aC [] (Ki p) hok hs;have ht:=Ni (Ki p);have hil:=Ub (Ki p) hok;rw[hg,List.nil_append]at ht;rw[Rs]at ht hil;have e0:Au [] []++Dl (Fm (Ki p))=Fj p:=by rw[←ht];rfl
 have hx:=Wo [] [] Ny (Fm (Ki p)) i1 (by rw[e0];exact hlen) w hl;rw[e0]at hx;refine hx.mono ?_;rintro e w' ⟨hb,v,he,hT⟩;have hl2:(Qi (1+Cb (Au [] [])) (Fm (Ki p))).length=(Fm (Ki p)).length:=Vj _ _;exact⟨hb,v,_,_,he,hT.tks (by show(_++[_]).length≤_;rw[Zb,hl2];show _+1≤_;omega),bQ _ _,by rw[hl2];omega⟩
def Ka(l:List Tk):Bs:=l.flatMap (fun t=>t.text++[10])
theorem lN(l:List Tk):Ka l=Il (l.map t3):=by unfold Ka Il;rw[List.flatMap_map];rfl
theorem Az.n64 {D:Nat→Prop}{w:World}{l:List St}{v:Value}(h:Az D w l v):∀x,x∈l→Xl x:=by
 induction h with
 |mk l a cap b off sa st se hcap hfit ha h0 h1 h2 h3 h4 ea et ee ih1 ih2=>
  intro x hx;obtain⟨i,hi,rfl⟩:=List.getElem_of_mem hx;have e:Im l i=l[i]:=by simp [Im,Zl hi]
  have k1:=(ea i hi).n64;have k2:=ih1 i hi;have k3:=ih2 i hi;rw[e]at k1 k2 k3;generalize l[i]=y at k1 k2 k3;obtain⟨k,nm,args,thn,els⟩:=y;exact .mk k nm args thn els k1 k2 k3
theorem Cf.n64 {D:Nat→Prop}{w:World}{l:List Fu}{v:Value}(h:Cf D w l v):∀g,g∈l→∀x,x∈g.body→Xl x:=by
 obtain⟨a,cap,b,off,pv,lv,bv,hv,h1,h2,h3,h4⟩:=h;intro g hg;obtain⟨i,hi,rfl⟩:=List.getElem_of_mem hg;have e:Ee l i=l[i]:=by simp [Ee,Zl hi]
 have:=(h4 i hi).2.2.2.n64;rw[e]at this;exact this
def awP:List It:=[⟨[105,110,116],2,0,[32],[]⟩,⟨[109,97,105,110],1,0,[],[]⟩,⟨[40],4,0,[],[]⟩,⟨[41],4,0,[32],[]⟩,⟨[123],4,0,[32],[]⟩,⟨[112,114,105,110,116],2,0,[],[]⟩,⟨[40],4,0,[],[]⟩,⟨[49],3,1,[32],[]⟩,⟨[43],4,0,[32],[]⟩,⟨[50],3,2,[32],[]⟩,⟨[42],4,0,[32],[]⟩,⟨[51],3,3,[],[]⟩,⟨[41],4,0,[],[]⟩,⟨[59],4,0,[32],[]⟩,⟨[125],4,0,[],[]⟩]
def awQ:List It:=[⟨[105,110,116],2,0,[32],[]⟩,⟨[109,97,105,110],1,0,[],[]⟩,⟨[40],4,0,[],[]⟩,⟨[41],4,0,[32],[]⟩,⟨[123],4,0,[10],[]⟩]
def awX:List It:=[⟨[97],1,0,[32],[]⟩,⟨[45],4,0,[32],[]⟩,⟨[98],1,0,[32],[]⟩,⟨[45],4,0,[32],[]⟩,⟨[99],1,0,[],[]⟩]
theorem awP_ok:mB [] awP=true:=by kernel_rfl
theorem awQ_ok:mB [] awQ=true:=by kernel_rfl
theorem awX_ok:mB [] awX=true:=by kernel_rfl
theorem aw_p(w:World)(hl:Ji w):
  Calls Tryz.prog 14 #[.string ⟨#[105,110,116,32,109,97,105,110,40,41,32,123,32,112,114,105,110,116,40,49,32,43,32,50,32,42,32,51,41,59,32,125]⟩] w fun e w'=>
   Below w.heap.size w w'∧∃aa an ac b off cap b2 o2 c2,e= .returned (.tuple #[.agg #[.slice aa an ac,.slice (some ⟨b,off,none⟩) 1 cap],.int .i64 0,.int .i64 0])∧w'.cell? ⟨b,off+3,none⟩=some (.slice (some ⟨b2,o2,none⟩) 1 c2)∧w'.cell? ⟨b2,o2,none⟩=some (.int .i64 8)∧1≤cap∧1≤c2:=by
 obtain⟨h1,h2⟩:=Ug [] awP awP_ok;refine(So [] [] Ny awP h1 h2 (by decide) (by decide) 100 (by decide) w hl).mono ?_;intro e w' hp;obtain⟨hb,v,he,av,fv,hv,hxa,hxf⟩:=hp;have e1:(Pt (Vt (Ce 100 ⟨[],[]⟩ (Dz (1+Cb (Au [] [])) awP)))).2.1=0:=by kernel_rfl
 have e2:(Pt (Vt (Ce 100 ⟨[],[]⟩ (Dz (1+Cb (Au [] [])) awP)))).2.2=0:=by kernel_rfl
 have e3:(Pt (Vt (Ce 100 ⟨[],[]⟩ (Dz (1+Cb (Au [] [])) awP)))).1.funcs.length=1:=by kernel_rfl
 have e4:(Ee (Pt (Vt (Ce 100 ⟨[],[]⟩ (Dz (1+Cb (Au [] [])) awP)))).1.funcs 0).body.length=1:=by kernel_rfl
 have e5:(Im (Ee (Pt (Vt (Ce 100 ⟨[],[]⟩ (Dz (1+Cb (Au [] [])) awP)))).1.funcs 0).body 0).kind=8:=by kernel_rfl
 generalize Pt (Vt (Ce 100 ⟨[],[]⟩ (Dz (1+Cb (Au [] [])) awP)))=R at*;obtain⟨a,cap,b,off,pv,lv,bv,rfl,hc,_,hz,hall⟩:=hxf;rw[e3]at hc hz hall;obtain⟨⟨_,_,_,g3⟩,_,_,hst⟩:=hall 0 (by decide);obtain⟨a2,c2,hs2⟩:=hst.shape;rw[hs2]at hst g3;rcases hz with hz|⟨rfl,_⟩
 ·omega
 have hq:∃b2 o2,a2=some ⟨b2,o2,none⟩∧w'.cell? ⟨b2,o2,none⟩=some (.int .i64 8)∧1≤c2:=by
  rw[←e5]
  cases hst with
  |mk _ _ _ b2 o2 sa st se hcap hfit ha h0=>
   rcases ha with ha|⟨ha,_⟩
   ·omega
   ·exact⟨b2,o2,ha,by simpa using h0 0 (by omega),by omega⟩
 obtain⟨b2,o2,rfl,hk,hc2⟩:=hq;rw[e4]at g3;obtain⟨aa,an,ac,rfl⟩:∃a n c,av=Value.slice a n c:=by obtain⟨a,c,h⟩:=hxa.yshape;exact⟨a,_,c,h⟩
 refine⟨hb,aa,an,ac,b,off,cap,b2,o2,c2,?_,by simpa using g3,hk,hc,hc2⟩;rw[he,hv,e1,e2,e3]
theorem aw_q(w:World)(hl:Ji w):
  Calls Tryz.prog 14 #[.string ⟨#[105,110,116,32,109,97,105,110,40,41,32,123,10]⟩] w fun e w'=>
   Below w.heap.size w w'∧∃aa an ac fa fn fc,e= .returned (.tuple #[.agg #[.slice aa an ac,.slice fa fn fc],.int .i64 40,.int .i64 2]):=by
 obtain⟨h1,h2⟩:=Ug [] awQ awQ_ok;refine(So [] [] Ny awQ h1 h2 (by decide) (by decide) 100 (by decide) w hl).mono ?_;intro e w' hp;obtain⟨hb,v,he,av,fv,hv,hxa,hxf⟩:=hp;obtain⟨aa,an,ac,rfl⟩:∃a n c,av=Value.slice a n c:=by obtain⟨a,c,h⟩:=hxa.yshape;exact⟨a,_,c,h⟩
 obtain⟨fa,fn,fc,rfl⟩:∃a n c,fv=Value.slice a n c:=by obtain⟨a,c,h⟩:=hxf.yshape;exact⟨a,_,c,h⟩
 refine⟨hb,aa,an,ac,fa,fn,fc,?_⟩;rw[he,hv];rfl
theorem aw_x(w:World)(hl:Ji w):
  Calls Tryz.prog 13 #[.string ⟨#[97,32,45,32,98,32,45,32,99]⟩] w fun e w'=>
   Below w.heap.size w w'∧∃k o n s b off cap,e= .returned (.tuple #[.agg #[.int .i64 k,.int .i64 o,.int .i64 n,.string s,.slice (some ⟨b,off,none⟩) 2 cap],.int .i64 0,.int .i64 0])∧w'.cell? ⟨b,off+8,none⟩=some (.string ⟨#[99]⟩):=by
 obtain⟨h1,h2⟩:=Ug [] awX awX_ok;refine(qL [] [] Ny awX h1 h2 (by decide) (by decide) 100 (by decide) w hl).mono ?_;intro e w' hp;obtain⟨hb,v,he,s,hv,hx,hn⟩:=hp;have e1:(Sk (bN (Ba 100 1 (Dz (1+Cb (Au [] [])) awX)))).2.1=0:=by kernel_rfl
 have e2:(Sk (bN (Ba 100 1 (Dz (1+Cb (Au [] [])) awX)))).2.2=0:=by kernel_rfl
 have e3:(Sk (bN (Ba 100 1 (Dz (1+Cb (Au [] [])) awX)))).1.args.length=2:=by kernel_rfl
 have e4:(Bz (Sk (bN (Ba 100 1 (Dz (1+Cb (Au [] [])) awX)))).1.args 1).name=[99]:=by kernel_rfl
 generalize Sk (bN (Ba 100 1 (Dz (1+Cb (Au [] [])) awX)))=R at*;obtain⟨a,cap,rfl⟩:=hx.shape;obtain⟨b,off,s2,rfl,_,_,_,_,h4,_⟩:=hx.cellAt 1 (by omega);rw[e4]at h4;refine⟨hb,R.1.kind,R.1.op,R.1.n,Aa R.1.name,b,off,cap,?_,h4⟩;rw[he,hv,e1,e2,e3]
end Go.Proofs.YtcfpfnoldgnloaaGreatDoor

/-
  awake's walk; pick. Condition: the library's tables lie in memory.
-/
import Derived.Test.YtcfpfnoldgnloaaGreatDoorPj19
import Derived.Test.YtcfpfnoldgnloaaGreatDoorPj09
set_option linter.unusedVariables false
set_option linter.unusedSimpArgs false
namespace Go.Proofs.YtcfpfnoldgnloaaGreatDoor
open Go.RowKit Go.Proofs.Tryz
set_option maxHeartbeats 20000000
set_option maxRecDepth 100000
open Go.Lib renaming hid→Za,itoa→Zj,nDigits→Zl
open List renaming mem_cons_self→Zb,mem_cons_of_mem→Zc,length_append→Zd,length_cons→Zg,append_assoc→Zi,length_nil→Zk,all_eq_true→Zm,flatMap_cons→Zo,mem_append→Zq,mem_cons→Zr,getElem?_eq_getElem→Zs,flatten_cons→Zt,flatten_nil→Zu
open Bool renaming and_eq_true→Ze
open Fg renaming app→Zf
open Go.Proofs.Tryz renaming prog→Zh
open Nat renaming mul_le_mul_right→Zn,add_mul→Zp
def Cf:List Pc→Bs
 |.g b::l=>b++Cf l
 |_=>[]
def Eu:List Pc→List It
 |[]=>[]
 |.g _::l=>Eu l
 |.t x::l=>⟨x.text,x.kind,x.num,Cf l,[]⟩::Eu l
theorem Op:∀l:List Pc,Cf l++Dh (Eu l)=Ax l
 |[]=>rfl
 |.g b::l=>by
  show(b++Cf l)++Dh (Eu l)=b++Ax l
  rw[Zi,Op l]
 |.t x::l=>by
  show []++Dh (_::Eu l)=x.text++Ax l
  rw[Tl,List.nil_append];show x.text++(An (Cf l) []++Dh (Eu l))=_
  rw[show An (Cf l) []=Cf l by unfold An;simp,Op l]
theorem cO:∀(l:List Pc) (line:Nat),(Qx line (Eu l)).map t3=Kq l
 |[],line=>rfl
 |.g b::l,line=>cO l line
 |.t x::l,line=>by
  show(⟨x.kind,x.text,x.num,line⟩:Tk)|>fun t=>t3 t::(Qx _ (Eu l)).map t3=x::Kq l
  rw[cO l];rfl
def Qb(x:T3):Prop:=Lh x.text x.kind x.num∧(x.kind=3→∀r,x.text≠39::r)∧I64 x.num
def Bd(l:List Pc):Prop:= ∀p,p∈l→match p with|.t x=>Qb x|.g b=> ∀c,c∈b→Bf c=true
theorem Pz:∀(l:List Pc),Bd l→∀c,c∈Cf l→Bf c=true
 |[],h,c,hc=>by cases hc
 |.t x::l,h,c,hc=>by cases hc
 |.g b::l,h,c,hc=>by
  rcases Zq.1 (show c∈b++Cf l from hc)with hc|hc
  ·exact h (.g b) Zb c hc
  ·exact Pz l (fun p hp=>h p (Zc _ hp)) c hc
theorem bY(z:Bs):∀(l:List Pc),Bd l→Fg Lp l z→Qc z (Eu l)∧∀i,i∈Eu l→I64 i.n
 |[],h,hs=>⟨trivial,fun i hi=>by cases hi⟩
 |.g b::l,h,hs=>bY z l (fun p hp=>h p (Zc _ hp)) hs
 |.t x::l,h,hs=>by
  have hl:Bd l:=fun p hp=>h p (Zc _ hp)
  obtain⟨i1,i2⟩:=bY z l hl hs.2;obtain⟨h1,h2,h3⟩:Qb x:=h (.t x) Zb;have hg:An (Cf l) []=Cf l:=by unfold An;simp
  refine⟨⟨eG h1 h2 ?_,⟨Pz l hl,fun p hp=>by cases hp⟩,i1⟩,fun i hi=>?_⟩
  ·show Lp x.kind (An (Cf l) []++(Dh (Eu l)++z))=true
   rw[hg,←Zi,Op];exact hs.1
  ·rcases Zr.1 hi with rfl|hi
   ·exact h3
   ·exact i2 i hi
theorem Sj {c:UInt8}{r:Bs}(h7:c.toNat<128)(h:c≠61∧c≠60∧c≠62∧c≠47):Lp 4 (c::r)=true:=by
 obtain⟨h1,h2,h3,h4⟩:=h;simp [Lp,h7,h1,h2,h3,h4]
theorem sepR:Nq Lp:=by
 refine⟨fun k=>rfl,fun k c r h=>?_,fun c r h=>?_,fun k r h=>?_⟩
 ·have hc:c=32∨c=41∨c=93∨c=44∨c=59∨c=10:=by simpa [iA,or_assoc]using h
  by_cases h4:k=4
  ·subst h4;rcases hc with rfl|rfl|rfl|rfl|rfl|rfl<;>exact Sj (by decide) (by decide)
  ·by_cases h3:k=3
   ·subst h3;rcases hc with rfl|rfl|rfl|rfl|rfl|rfl<;>(unfold Lp;dsimp only;rw[if_neg (by decide),if_pos rfl];decide)
   ·unfold Lp
    rcases hc with rfl|rfl|rfl|rfl|rfl|rfl<;>(dsimp only;rw[if_neg h4,if_neg h3];decide)
 ·unfold fY at h
  by_cases hl:Cc c=true
  ·have:=Pf hl
   exact Sj (Yy hl) ⟨by rintro rfl;exact absurd this (by decide),by rintro rfl;exact absurd this (by decide),by rintro rfl;exact absurd this (by decide),by rintro rfl;exact absurd this (by decide)⟩
  ·by_cases hd:Br c=true
   ·have h1:=dF hd
    have h2:=Ws hd;exact Sj h2 ⟨by rintro rfl;exact absurd hd (by decide),by rintro rfl;exact absurd hd (by decide),by rintro rfl;exact absurd hd (by decide),by rintro rfl;exact absurd hd (by decide)⟩
   ·have hc:c=40∨c=45∨c=33∨c=126:=by simpa [hl,hd,or_assoc]using h
    rcases hc with rfl|rfl|rfl|rfl<;>exact Sj (by decide) (by decide)
 ·by_cases h4:k=4
  ·subst h4;exact⟨Sj (by decide) (by decide),Sj (by decide) (by decide)⟩
  ·refine⟨?_,?_⟩<;>(unfold Lp;dsimp only;rw[if_neg h4,if_neg h];decide)
theorem digL:Yc:=fun u=>⟨Jx u,Sl u⟩
theorem cQ(u:Nat)(h:u<10000000000000000000):Zl u≤19:=by
 by_cases h0:u<10
 ·rw[Zl,dif_pos h0];decide
 ·have step:∀(n u:Nat),(¬u<10→Zl (u / 10)≤n)→Zl u≤n+1:=fun n u h=>by
   rw[Zl];split
   ·omega
   ·rename_i hh;have:=h hh;omega
  have pw:∀(n u:Nat),u<10 ^ (n+1)→Zl u≤n+1:=by
   intro n
   induction n with
   |zero=>intro u hu;rw[Zl,dif_pos (by omega)];omega
   |succ n ih=>intro u hu;exact step (n+1) u (fun _=>ih (u / 10) (by rw[Nat.pow_succ]at hu;omega))
  exact pw 18 u (by omega)
theorem jH {n:Int}(h0:0≤n)(h1:I64 n):Qb ⟨3,Zj n,n⟩:=by
 have e:Zj n=Lib.decDigits n.toNat:=by unfold Zj;rw[if_neg (by omega)]
 have hu:(n.toNat:Int)=n:=by omega
 have hb:n.toNat≤9223372036854775807:=by have:=h1.2;omega
 refine⟨?_,fun _ r hr=>?_,h1⟩
 ·show Lh (Zj n) 3 n
  rw[e];rcases hq:Lib.decDigits n.toNat with _|⟨c,t⟩
  ·exact absurd hq (Sl _)
  ·have hlen:(Lib.decDigits n.toNat).length≤19:=by
    rw[Lib.decDigits_length];exact cQ _ (by omega)
   have:=Lh.num n.toNat hlen hb c t hq (Jx _ c (by rw[hq];exact Zb));rw[hu]at this;rw[←hq];exact this
 ·have hr:Zj n=39::r:=hr
  rw[e]at hr;have:=Jx n.toNat 39 (by rw[hr];exact Zb);exact absurd this (by decide)
theorem Wb:∀(f:Bool) (x:Bs),Gr f x=true→∀c,c∈x→c.toNat<128∧Rh (c.toNat:Nat)=true
 |_,[],_,c,hc=>by cases hc
 |f,d::l,h,c,hc=>by
  rw[Gr]at h;obtain⟨h1,h2⟩:=(Ze _ _).mp h;rcases Zr.1 hc with rfl|hc
  ·unfold Rh
   rw[Lo,Lf];rcases(Bool.or_eq_true _ _).mp h1 with h3|h3
   ·exact⟨Yy h3,by rw[h3];rfl⟩
   ·have h4:=((Ze _ _).mp h3).2
    exact⟨Ws h4,by rw[h4];simp⟩
  ·exact Wb false l h2 c hc
theorem Ut {s:Bs}(h:Ao s=true):Qb ⟨1,s,0⟩:=by
 have h':=h;unfold Ao at h';simp only[Ze]at h';obtain⟨⟨⟨h1,h2⟩,h3⟩,h4⟩:=h';refine⟨?_,fun e=>absurd (show(1:Int)=3 from e) (by decide),Gf⟩
 cases s with
 |nil=>exact absurd h1 (by decide)
 |cons c t=>
  have hl:Cc c=true:=by
   rw[Gr]at h4;have:=((Ze _ _).mp h4).1;simpa using this
  exact .name (c::t) h (by simpa using h3) c t rfl hl (Wb true _ h4)
theorem Ik {x:Bs}(h:Ez x=true):Qb ⟨4,x,0⟩:=⟨lL h,fun e=>absurd (show(4:Int)=3 from e) (by decide),Gf⟩
theorem mG {o:Int}(h:0<Al o∨o=17∨o=18∨o=19):Ez (Aw o)=true:=by
 rcases h with h|rfl|rfl|rfl
 ·obtain⟨i,rfl⟩:=Se h
  exact(by decide:∀i:Fin 16,Ez (Aw ((i.val:Int)+1))=true) i
 ·decide
 ·decide
 ·decide
inductive N64:Ex→Prop
 |mk (k o n:Int) (nm:Bs) (args:List Ex) (h:I64 n) (ha:∀x,x∈args→N64 x):N64 (.mk k o n nm args)
theorem Bd.app {a b:List Pc}(h1:Bd a)(h2:Bd b):Bd (a++b):=fun p hp=>by
 rcases Zq.1 hp with h|h
 ·exact h1 p h
 ·exact h2 p h
theorem Bd.cons {p:Pc}{l:List Pc}(h1:match p with|.t x=>Qb x|.g b=> ∀c,c∈b→Bf c=true)(h2:Bd l):Bd (p::l):=fun q hq=>by
 rcases Zr.1 hq with rfl|h
 ·exact h1
 ·exact h2 q h
theorem Bd.nil:Bd []:=fun p hp=>by cases hp
theorem cU {e:Ex}{lv:Int}(h:Bd (Cp e)):Bd (Dj e lv):=by
 unfold Dj Hq;split
 ·exact Bd.app (Bd.app (Bd.cons (Ik (by decide)) Bd.nil) h) (Bd.cons (Ik (by decide)) Bd.nil)
 ·exact h
theorem Ky {e:Ex}(h:WEx e)(hn:N64 e):Bd (Cp e):=by
 induction h with
 |num n h=>cases hn with|mk _ _ _ _ _ h1 ha=>rw[Vx];exact Bd.cons (jH h h1) Bd.nil
 |var s h=>rw[Xh];exact Bd.cons (Ut h) Bd.nil
 |one o x ho hx ih=>cases hn with|mk _ _ _ _ _ h1 ha=>rw[Xr];exact Bd.cons (Ik (mG (.inr ho))) (cU (ih (ha x Zb)))
 |two o x y ho hx hy ihx ihy=>
  cases hn with
  |mk _ _ _ _ _ h1 ha=>
   rw[Xi];refine Bd.app (cU (ihx (ha x Zb))) (Bd.cons (by show ∀c,c∈[32]→_;decide) (Bd.cons (Ik (mG (.inl ho))) (Bd.cons (by show ∀c,c∈[32]→_;decide) (cU (ihy (ha y (by simp)))))))
 |call s l h hl hx ih=>
  cases hn with
  |mk _ _ _ _ _ h1 ha=>
   rw[Nk];refine Bd.cons (Ut h) (Bd.cons (Ik (by decide)) (Bd.app ?_ (Bd.cons (Ik (by decide)) Bd.nil)));have hm:∀(l:List Ex),(∀x,x∈l→Bd (Cp x))→Bd (l.flatMap (fun y=>[sg [44],.g [32]]++Cp y)):=by
    intro l hl p hp;obtain⟨y,hy,hp⟩:=List.mem_flatMap.1 hp;exact Bd.app (Bd.cons (Ik (by decide)) (Bd.cons (by show ∀c,c∈[32]→_;decide) Bd.nil)) (hl y hy) p hp
   cases l with
   |nil=>exact Bd.nil
   |cons x l=>
    rw[Og];exact Bd.app (ih x Zb (ha x Zb)) (hm l (fun y hy=>ih y (Zc _ hy) (ha y (Zc _ hy))))
 |idx s x h hx ih=>
  cases hn with
  |mk _ _ _ _ _ h1 ha=>rw[Xg];exact Bd.cons (Ut h) (Bd.cons (Ik (by decide)) (Bd.app (ih (ha x Zb)) (Bd.cons (Ik (by decide)) Bd.nil)))
 |read=>rw[Wd];exact Bd.cons ⟨cE (by decide) (by decide),fun e=>absurd (show(2:Int)=3 from e) (by decide),Gf⟩ (Bd.cons (Ik (by decide)) (Bd.cons (Ik (by decide)) Bd.nil))
theorem Ag.n64 {D:Nat→Prop}{w:World}{l:List Ex}{v:Value}(h:Ag D w l v):∀x,x∈l→N64 x:=by
 induction h with
 |mk l a cap b off sv hcap hfit ha h0 h1 h2 h3 h4 hs hn ih=>
  intro x hx;obtain⟨i,hi,rfl⟩:=List.getElem_of_mem hx;have e:Ca l i=l[i]:=by simp [Ca,Zs hi]
  have h1:=ih i hi;have h2:=hn i hi;rw[e]at h1 h2;generalize l[i]=y at h1 h2;obtain⟨k,o,n,nm,args⟩:=y;exact .mk k o n nm args h2 h1
theorem tok_ne {x:T3}(h:Qb x):x.text≠[]:=h.1.ne
theorem Uy:∀l:List Pc,Bd l→(Eu l).length≤(Ax l).length
 |[],h=>Nat.le_refl _
 |.g b::l,h=>by
  have:=Uy l (fun p hp=>h p (Zc _ hp));show(Eu l).length≤(b++Ax l).length
  rw[Zd];omega
 |.t x::l,h=>by
  have:=Uy l (fun p hp=>h p (Zc _ hp));have h1:x.text≠[]:=tok_ne (h (.t x) Zb);have h2:0<x.text.length:=List.length_pos_iff.2 h1;show(Eu l).length+1≤(x.text++Ax l).length
  rw[Zd];omega
theorem Il {S:Int→Bs→Bool}{t:Nat}{l:List Pc}{z:Bs}(h:Fg S l (10::z)):Fg S (Eh t l) z:=
 Zf (a:=[.g (Kb t)]++l) (b:=[.g [10]]) h trivial
theorem Gp {S:Int→Bs→Bool}(hS:Nq S)(s:Bs)(c:UInt8)(z:Bs)(hc:iA c=true):Fg S [sg s] (c::z):=⟨hS.ofSoft (Ga hc) 4,trivial⟩
theorem Sb {S:Int→Bs→Bool}:∀(l:List St),(∀x,x∈l→∀t z,Fg S (Gg t x) z)→∀t z,Fg S (Fh t l) z
 |[],_,t,z=>trivial
 |x::l,h,t,z=>by
  rw[Fh];exact Zf (h x Zb t _) (Sb l (fun y hy=>h y (Zc _ hy)) t z)
theorem Ny {S:Int→Bs→Bool}(hS:Nq S)(hd:Yc){e:Ex}(h:WEx e)(l:List Pc)(z:Bs)(hz:Xf (Ax l++z))(hl:Fg S l z):Fg S (Cp e++l) z:=Zf (ex_sep hS hd h _ hz) hl
theorem dQ {S:Int→Bs→Bool}(hS:Nq S)(hd:Yc){e:Ex}(h:WEx e)(w:Bs)(t:Nat)(z:Bs):Fg S (Eh t (wd w:: .g [32]::sg [40]::(Cp e++[sg [41],.g [32],sg [123]]))) z:=by
 refine Il ⟨hS.soft 2 32 _ (by decide),?_,Ny hS hd h _ _ (Ga (by decide)) ⟨hS.soft 4 32 _ (by decide),Gp hS _ 10 _ (by decide)⟩⟩;rw[Ap,Zi];exact hS.ofHead (Kh hd h).app
theorem st_sep {S:Int→Bs→Bool}(hS:Nq S)(hd:Yc){x:St}(h:WSt x):∀t z,Fg S (Gg t x) z:=by
 induction h with
 |set s x h hx=>
  intro t z;rw[stp1];exact Il ⟨hS.soft 1 32 _ (by decide),hS.soft 4 32 _ (by decide),Ny hS hd hx _ _ (Ga (by decide)) (Gp hS _ 10 _ (by decide))⟩
 |store s x y h hx hy=>
  intro t z;rw[stp2];refine Il ⟨(hS.opens 1 _ (by decide)).2,?_,Ny hS hd hx _ _ (Ga (by decide)) ⟨hS.soft 4 32 _ (by decide),hS.soft 4 32 _ (by decide),Ny hS hd hy _ _ (Ga (by decide)) (Gp hS _ 10 _ (by decide))⟩⟩;rw[Ap,Zi];exact hS.ofHead (Kh hd hx).app
 |cond x a b hx ha hb iha ihb=>
  intro t z;rw[stp3];refine Zf (dQ hS hd hx _ t _) (Zf (Sb a iha _ _) (Zf ?_ (Il (Gp hS _ 10 _ (by decide)))))
  cases b with
  |nil=>exact trivial
  |cons y l=>
   rw[if_neg (by simp)];exact Zf (Il ⟨hS.soft 4 32 _ (by decide),hS.soft 2 32 _ (by decide),Gp hS _ 10 _ (by decide)⟩) (Sb (y::l) ihb _ _)
 |loop x a hx ha iha=>
  intro t z;rw[stp4];exact Zf (dQ hS hd hx _ t _) (Zf (Sb a iha _ _) (Il (Gp hS _ 10 _ (by decide))))
 |brk=>intro t z;rw[stp5];exact Il ⟨hS.soft 2 59 _ (by decide),Gp hS _ 10 _ (by decide)⟩
 |cont=>intro t z;rw[stp6];exact Il ⟨hS.soft 2 59 _ (by decide),Gp hS _ 10 _ (by decide)⟩
 |ret x hx=>
  intro t z;rw[stp7];exact Il ⟨hS.soft 2 32 _ (by decide),Ny hS hd hx _ _ (Ga (by decide)) (Gp hS _ 10 _ (by decide))⟩
 |print x hx=>
  intro t z;rw[stp8];refine Il ⟨(hS.opens 2 _ (by decide)).1,?_,Ny hS hd hx _ _ (Ga (by decide)) ⟨hS.soft 4 59 _ (by decide),Gp hS _ 10 _ (by decide)⟩⟩;rw[Ap,Zi];exact hS.ofHead (Kh hd hx).app
 |trap x hx=>
  intro t z;rw[stp9];refine Il ⟨(hS.opens 2 _ (by decide)).1,?_,Ny hS hd hx _ _ (Ga (by decide)) ⟨hS.soft 4 59 _ (by decide),Gp hS _ 10 _ (by decide)⟩⟩;rw[Ap,Zi];exact hS.ofHead (Kh hd hx).app
 |call s l hx=>
  intro t z;have e:Gg t (.mk 10 [] [.mk 5 0 0 s l] [] [])=Eh t (Cp (.mk 5 0 0 s l)++[sg [59]]):=by rw[rT,Nk];simp only[Zi,List.cons_append,List.nil_append]
  rw[e];exact Il (Ny hS hd hx _ _ (Ga (by decide)) (Gp hS _ 10 _ (by decide)))
theorem qC {S:Int→Bs→Bool}(hS:Nq S)(x:Bs)(z:Bs)(hz:Xf z):Fg S (Hm x) z:=⟨hS.soft 2 32 _ (by decide),hS.ofSoft hz 1,trivial⟩
theorem mC {S:Int→Bs→Bool}(hS:Nq S)(z:Bs)(hz:Xf z):∀(l:List Bs),Fg S (l.flatMap (fun y=>[sg [44],.g [32]]++Hm y)) z∧Xf (Ax (l.flatMap (fun y=>[sg [44],.g [32]]++Hm y))++z)
 |[]=>⟨trivial,hz⟩
 |y::l=>by
  obtain⟨h1,h2⟩:=mC hS z hz l;rw[Zo];exact⟨Zf (a:=[sg [44],.g [32]]++Hm y) ⟨hS.soft 4 32 _ (by decide),qC hS y _ h2⟩ h1,Ga (by decide)⟩
theorem rP {S:Int→Bs→Bool}(hS:Nq S):∀(l:List Bs) (z:Bs),Fg S (l.flatMap Sg) z
 |[],z=>trivial
 |y::l,z=>by
  rw[Zo];exact Zf (Il ⟨hS.soft 2 32 _ (by decide),hS.soft 1 59 _ (by decide),Gp hS _ 10 _ (by decide)⟩) (rP hS l z)
theorem fu_sep {S:Int→Bs→Bool}(hS:Nq S)(hd:Yc){g:Fu}(hg:WFu g)(z:Bs):Fg S (Nr g) z:=by
 obtain⟨nm,ps,ls,bd⟩:=g;obtain⟨_,_,_,hb⟩:=hg;dsimp only at hb;have hbd:Fg S ([sg [41],.g [32],sg [123],.g [10]]++(ls.flatMap Sg++(Fh 1 bd++Eh 0 [sg [125]]))) z:=
  ⟨hS.soft 4 32 _ (by decide),hS.soft 4 10 _ (by decide),(show Fg S (ls.flatMap Sg++(Fh 1 bd++Eh 0 [sg [125]])) z from Zf (rP hS ls _) (Zf (Sb bd (fun x hx=>st_sep hS hd (hb x hx)) _ _) (Il (Gp hS _ 10 _ (by decide)))))⟩
 refine⟨hS.soft 2 32 _ (by decide),(hS.opens 1 _ (by decide)).1,?_,?_⟩
 ·cases ps with
  |nil=>exact hS.soft 4 41 _ (by decide)
  |cons x l=>exact hS.head 105 _ (by decide)
 ·show Fg S (Jl (ps.map Hm)++([sg [41],.g [32],sg [123],.g [10]]++(ls.flatMap Sg++(Fh 1 bd++Eh 0 [sg [125]])))) z
  refine Zf ?_ hbd
  cases ps with
  |nil=>exact trivial
  |cons x l=>
   have e:Jl ((x::l).map Hm)=Hm x++l.flatMap (fun y=>[sg [44],.g [32]]++Hm y):=by
    show Hm x++(l.map Hm).flatMap _=_;rw[List.flatMap_map]
   rw[e];obtain⟨h1,h2⟩:=mC hS (Ax ([sg [41],.g [32],sg [123],.g [10]]++(ls.flatMap Sg++(Fh 1 bd++Eh 0 [sg [125]])))++z) (Ga (by decide)) l;exact Zf (qC hS x _ h2) h1
theorem ar_sep {S:Int→Bs→Bool}(hS:Nq S)(hd:Yc){a:Ar}(ha:0≤a.size)(z:Bs):Fg S (gO a) z:=by
 refine Il ⟨hS.soft 2 32 _ (by decide),(hS.opens 1 _ (by decide)).2,?_,hS.soft 3 93 _ (by decide),hS.soft 4 59 _ (by decide),Gp hS _ 10 _ (by decide)⟩;exact hS.ofHead (Ls.app (show Ls (Ax [nu a.size,sg [93],sg [59]])from by rw[Lu];exact(Vo ha hd).app))
theorem dA {S:Int→Bs→Bool}(hS:Nq S)(hd:Yc):∀(m:List Ar) (l:List Fu) (z:Bs),(∀a,a∈m→0≤a.size)→(∀x,x∈l→WFu x)→Fg S (m.flatMap gO++l.flatMap Nr) z
 |[],[],z,_,_=>trivial
 |[],g::l,z,h1,h2=>by
  show Fg S ((g::l).flatMap Nr) z
  rw[Zo];exact Zf (fu_sep hS hd (h2 g Zb) _) (dA hS hd [] l z h1 (fun x hx=>h2 x (Zc _ hx)))
 |a::m,l,z,h1,h2=>by
  rw[Zo,Zi];exact Zf (ar_sep hS hd (h1 a Zb) _) (dA hS hd m l z (fun x hx=>h1 x (Zc _ hx)) h2)
inductive cB:St→Prop
 |mk (k:Int) (nm:Bs) (args:List Ex) (thn els:List St) (ha:∀x,x∈args→N64 x) (ht:∀y,y∈thn→cB y) (he:∀y,y∈els→cB y):cB (.mk k nm args thn els)
theorem iP {b:Bs}(h:b.all Bf=true):match Pc.g b with|.t x=>Qb x|.g b=> ∀c,c∈b→Bf c=true:=fun c hc=>Zm.1 h c hc
theorem word_ok {x:Bs}(h1:Hj x=true)(h2:Mw x=true):Qb ⟨2,x,0⟩:=⟨cE h1 h2,fun e=>absurd (show(2:Int)=3 from e) (by decide),Gf⟩
theorem jV(t:Nat):(Kb t).all Bf=true:=by
 unfold Kb;rw[Zm];intro c hc;rw[List.eq_of_mem_replicate hc];rfl
theorem Li {t:Nat}{l:List Pc}(h:Bd l):Bd (Eh t l):=Bd.app (Bd.app (Bd.cons (iP (jV t)) Bd.nil) h) (Bd.cons (iP (by decide)) Bd.nil)
theorem Bd.sg {s:Bs}{l:List Pc}(h:Ez s=true)(hl:Bd l):Bd (sg s::l):=Bd.cons (Ik h) hl
theorem Bd.wd {s:Bs}{l:List Pc}(h:(Hj s && Mw s)=true)(hl:Bd l):Bd (wd s::l):=Bd.cons (word_ok ((Ze _ _).mp h).1 ((Ze _ _).mp h).2) hl
theorem Bd.nm {s:Bs}{l:List Pc}(h:Ao s=true)(hl:Bd l):Bd (nmp s::l):=Bd.cons (Ut h) hl
theorem Bd.sp {b:Bs}{l:List Pc}(h:b.all Bf=true)(hl:Bd l):Bd (.g b::l):=Bd.cons (iP h) hl
theorem Oc:∀(l:List St),(∀x,x∈l→∀t,Bd (Gg t x))→∀t,Bd (Fh t l)
 |[],_,t=>Bd.nil
 |x::l,h,t=>by
  rw[Fh];exact Bd.app (h x Zb t) (Oc l (fun y hy=>h y (Zc _ hy)) t)
theorem aJ {e:Ex}(h:Bd (Cp e)){w:Bs}(hw:(Hj w && Mw w)=true)(t:Nat):Bd (Eh t (wd w:: .g [32]::sg [40]::(Cp e++[sg [41],.g [32],sg [123]]))):=
 Li (.wd hw (.sp (by decide) (.sg (by decide) (.app h (.sg (by decide) (.sp (by decide) (.sg (by decide) .nil)))))))
theorem st_toks {x:St}(h:WSt x)(hn:cB x):∀t,Bd (Gg t x):=by
 induction h with
 |set s x h hx=>
  cases hn with|mk _ _ _ _ _ ha ht he=>
  intro t;rw[stp1];exact Li (.nm h (.sp (by decide) (.sg (by decide) (.sp (by decide) (.app (Ky hx (ha x Zb)) (.sg (by decide) .nil))))))
 |store s x y h hx hy=>
  cases hn with|mk _ _ _ _ _ ha ht he=>
  intro t;rw[stp2];exact Li (.nm h (.sg (by decide) (.app (Ky hx (ha x Zb)) (.sg (by decide) (.sp (by decide) (.sg (by decide) (.sp (by decide) (.app (Ky hy (ha y (by simp))) (.sg (by decide) .nil)))))))))
 |cond x a b hx h1 h2 iha ihb=>
  cases hn with|mk _ _ _ _ _ ha ht he=>
  intro t;rw[stp3];refine .app (aJ (Ky hx (ha x Zb)) (by decide) t) (.app (Oc a (fun y hy=>iha y hy (ht y hy)) _) (.app ?_ (Li (.sg (by decide) .nil))));split
  ·exact .nil
  ·exact .app (Li (.sg (by decide) (.sp (by decide) (.wd (by decide) (.sp (by decide) (.sg (by decide) .nil)))))) (Oc b (fun y hy=>ihb y hy (he y hy)) _)
 |loop x a hx h1 iha=>
  cases hn with|mk _ _ _ _ _ ha ht he=>
  intro t;rw[stp4];exact .app (aJ (Ky hx (ha x Zb)) (by decide) t) (.app (Oc a (fun y hy=>iha y hy (ht y hy)) _) (Li (.sg (by decide) .nil)))
 |brk=>intro t;rw[stp5];exact Li (.wd (by decide) (.sg (by decide) .nil))
 |cont=>intro t;rw[stp6];exact Li (.wd (by decide) (.sg (by decide) .nil))
 |ret x hx=>
  cases hn with|mk _ _ _ _ _ ha ht he=>
  intro t;rw[stp7];exact Li (.wd (by decide) (.sp (by decide) (.app (Ky hx (ha x Zb)) (.sg (by decide) .nil))))
 |print x hx=>
  cases hn with|mk _ _ _ _ _ ha ht he=>
  intro t;rw[stp8];exact Li (.wd (by decide) (.sg (by decide) (.app (Ky hx (ha x Zb)) (.sg (by decide) (.sg (by decide) .nil)))))
 |trap x hx=>
  cases hn with|mk _ _ _ _ _ ha ht he=>
  intro t;rw[stp9];exact Li (.wd (by decide) (.sg (by decide) (.app (Ky hx (ha x Zb)) (.sg (by decide) (.sg (by decide) .nil)))))
 |call s l hx=>
  cases hn with|mk _ _ _ _ _ ha ht he=>
  intro t;have e:Gg t (.mk 10 [] [.mk 5 0 0 s l] [] [])=Eh t (Cp (.mk 5 0 0 s l)++[sg [59]]):=by rw[rT,Nk];simp only[Zi,List.cons_append,List.nil_append]
  rw[e];exact Li (.app (Ky hx (ha _ Zb)) (.sg (by decide) .nil))
theorem Ru {α:Type}(f:α→List Pc)(l:List α)(h:∀x,x∈l→Bd (f x)):Bd (l.flatMap f):=fun p hp=>by
 obtain⟨x,hx,hp⟩:=List.mem_flatMap.1 hp;exact h x hx p hp
theorem pa_ok {x:Bs}(h:Ao x=true):Bd (Hm x):=.wd (by decide) (.sp (by decide) (.nm h .nil))
theorem mF {g:Fu}(hg:WFu g)(hn:∀x,x∈g.body→cB x):Bd (Nr g):=by
 obtain⟨nm,ps,ls,bd⟩:=g;obtain⟨h1,h2,h3,hb⟩:=hg;dsimp only at h1 h2 h3 hb hn;have htail:Bd (ls.flatMap Sg++(Fh 1 bd++Eh 0 [sg [125]])):=.app (Ru Sg ls fun x hx=>(show Bd (Eh 1 [wd [105,110,116],.g [32],nmp x,sg [59]])from Li (.wd (by decide) (.sp (by decide) (.nm (h3 x hx) (.sg (by decide) .nil)))))) (.app (Oc bd (fun y hy=>st_toks (hb y hy) (hn y hy)) _) (Li (.sg (by decide) .nil)));have hps:Bd (Jl (ps.map Hm)):=by
  cases ps with
  |nil=>exact .nil
  |cons x l=>
   have e:Jl ((x::l).map Hm)=Hm x++l.flatMap (fun y=>[sg [44],.g [32]]++Hm y):=by
    show Hm x++(l.map Hm).flatMap _=_;rw[List.flatMap_map]
   rw[e];exact .app (pa_ok (h2 x Zb)) (Ru _ _ fun y hy=>.sg (by decide) (.sp (by decide) (pa_ok (h2 y (Zc _ hy)))))
 show Bd (wd [105,110,116]:: .g [32]::nmp nm::sg [40]::(Jl (ps.map Hm)++(sg [41]:: .g [32]::sg [123]:: .g [10]::(ls.flatMap Sg++(Fh 1 bd++Eh 0 [sg [125]])))))
 exact .wd (by decide) (.sp (by decide) (.nm h1 (.sg (by decide) (.app hps (.sg (by decide) (.sp (by decide) (.sg (by decide) (.sp (by decide) htail))))))))
theorem lV {a:Ar}(h:Du a=true):Bd (gO a)∧0≤a.size:=by
 unfold Du at h;obtain⟨h1,h2⟩:=(Ze _ _).mp h;have h2:=of_decide_eq_true h2;exact⟨Li (.wd (by decide) (.sp (by decide) (.nm h1 (.sg (by decide) (.cons (jH (by omega) ⟨by omega,by omega⟩) (.sg (by decide) (.sg (by decide) .nil))))))),by omega⟩
theorem pr_gap:∀(m:List Ar) (l:List Fu),Cf (m.flatMap gO++l.flatMap Nr)=[]
 |[],[]=>rfl
 |[],g::l=>rfl
 |a::m,l=>rfl
theorem nK(l:List Pc)(hp:Bd l)(hs:Fg Lp l [])(hlen:(Ax l).length≤20000)(hb:Oq (Cf l) [])(Q:Pr ×Int ×Int→Prop)
  (hz:∀(T:List Tk) (u:Tk),T.map t3=Kq l→u.kind=5→u.text=[]→∃z,Ev (fun f=>Eb f ⟨[],[]⟩ (T++[u])) z∧Q (Ou (Sd z))) (w:World) (hl:Iz w):
  Calls Zh 14 #[.string (Aa (Ax l))] w fun e w'=> ∃r,Q r∧WhP w r e w':=by
 obtain⟨i1,i2⟩:=bY [] l hp hs;have ht:=Op l;obtain⟨z,⟨f0,hf⟩,hq⟩:=hz (Qx (1+Be (An (Cf l) [])) (Eu l)) ⟨5,[],0,qZ (1+Be (An (Cf l) [])) (Eu l)⟩ (cO l _) rfl rfl;have hil:=Uy l hp;have eg:An (Cf l) []=Cf l:=by unfold An;simp
 have e0:An (Cf l) []++Dh (Eu l)=Ax l:=by rw[eg];exact ht
 have hx:=Pn (Cf l) [] hb (Eu l) i1 i2 (by rw[e0];exact hlen) (by omega) (f0+4*((Eu l).length+1)+4) (by omega) w hl;rw[e0]at hx;refine hx.mono ?_;intro e w' hp;have e1:Eb (f0+4*((Eu l).length+1)+4) ⟨[],[]⟩ (Ds (1+Be (An (Cf l) [])) (Eu l))=z:=hf _ (by omega);rw[e1]at hp;exact⟨_,hq,hp⟩
theorem oV {p:Pr}{u:Tk}(hr:Cx p=true)(hu:u.kind=5):Ou (Sd (.ok (p,[u])))=(p,0,0):=by
 have h1:Sd (.ok (p,[u]))=(p,0,0):=by show(if u.kind=5 then(p,(0:Int),(0:Int))else _)=_;rw[if_pos hu]
 rw[h1];show(if(0:Int)=0∧Cx p=false then _ else(p,(0:Int),(0:Int)))=_
 rw[if_neg (by rintro⟨_,h2⟩;rw[hr]at h2;cases h2)]
theorem Rp {p:Pr}(h:Cx p=true):(∀a,a∈p.arrays→Du a=true)∧∀x,x∈p.funcs→WFu x:=by
 unfold Cx at h;simp only[Ze,Zm]at h;exact⟨h.1,fun x hx=>wfu_of (h.2 x hx)⟩
theorem pr_good {p:Pr}(hr:Cx p=true)(hn:∀g,g∈p.funcs→∀x,x∈g.body→cB x)(hlen:(Bi p).length≤20000)(w:World)(hl:Iz w):
  Calls Zh 14 #[.string (Aa (Bi p))] w (WhP w (p,0,0)):=by
 obtain⟨h1,h2⟩:=Rp hr;have hg:Cf (rL p)=[]:=pr_gap _ _;rw[←Sx]at hlen ⊢;refine(nK (rL p) (.app (Ru _ _ fun a ha=>(lV (h1 a ha)).1) (Ru _ _ fun x hx=>mF (h2 x hx) (hn x hx))) (dA sepR digL p.arrays p.funcs [] (fun a ha=>(lV (h1 a ha)).2) h2) hlen (by rw[hg];exact Ox) (fun r=>r=(p,0,0)) ?_ w hl).mono ?_
 ·intro T u hT hu hx
  exact⟨.ok (p,[u]),iO h2 hT hu,oV hr hu⟩
 ·rintro r w' ⟨R,rfl,hp⟩;exact hp
inductive Vs:Ex→Prop
 |num (n:Int) (h:0≤n):Vs (.mk 1 0 n [] [])
 |var (nm:Bs) (h:Ao nm=true):Vs (.mk 2 0 0 nm [])
 |one (o:Int) (x:Ex) (h:o=17∨o=18∨o=19) (hx:Ck x=true):Vs (.mk 3 o 0 [] [x])
 |two (o:Int) (x y:Ex) (h:0<Al o) (hx:Ck x=true) (hy:Ck y=true):Vs (.mk 4 o 0 [] [x,y])
 |call (nm:Bs) (l:List Ex) (h:Ao nm=true) (hn:l.length≤6) (hl:∀x,x∈l→Ck x=true):Vs (.mk 5 0 0 nm l)
 |index (nm:Bs) (x:Ex) (h:Ao nm=true) (hx:Ck x=true):Vs (.mk 6 0 0 nm [x])
 |read:Vs (.mk 7 0 0 [] [])
def SOk(x:St):Prop:= ∃m,Ed m x=true
inductive Md:St→Prop
 |set (nm:Bs) (x:Ex) (h:Ao nm=true) (hx:Ck x=true):Md (.mk 1 nm [x] [] [])
 |store (nm:Bs) (x y:Ex) (h:Ao nm=true) (hx:Ck x=true) (hy:Ck y=true):Md (.mk 2 nm [x,y] [] [])
 |iff (x:Ex) (t e:List St) (hx:Ck x=true) (ht:∀y,y∈t→SOk y) (he:∀y,y∈e→SOk y):Md (.mk 3 [] [x] t e)
 |loop (x:Ex) (t:List St) (hx:Ck x=true) (ht:∀y,y∈t→SOk y):Md (.mk 4 [] [x] t [])
 |brk:Md (.mk 5 [] [] [] [])
 |cont:Md (.mk 6 [] [] [] [])
 |ret (x:Ex) (hx:Ck x=true):Md (.mk 7 [] [x] [] [])
 |prt (x:Ex) (hx:Ck x=true):Md (.mk 8 [] [x] [] [])
 |trp (x:Ex) (hx:Ck x=true):Md (.mk 9 [] [x] [] [])
 |call (nm:Bs) (l:List Ex) (h:Ao nm=true) (hn:l.length≤6) (hl:∀x,x∈l→Ck x=true):Md (.mk 10 [] [.mk 5 0 0 nm l] [] [])
structure FOk (f:Fu):Prop where
 name:Ao f.name=true
 params:∀x,x∈f.params→Ao x=true
 locals:∀x,x∈f.locals→Ao x=true
 body:∀x,x∈f.body→SOk x
theorem mU {f:Fu}(h:Gb f=true):FOk f:=by
 unfold Gb at h;simp only[Ze,Zm]at h;exact⟨h.1.1.1.1,h.1.1.1.2,h.1.1.2,fun x hx=>⟨40,h.2 x hx⟩⟩
mutual
def Io:Ex→Ex→Bool
 |.mk k o n nm us,.mk k' o' n' nm' bs=>k==k' && o==o' && n==n' && nm==nm' && Gn us bs
def Gn:List Ex→List Ex→Bool
 |[],[]=>true
 |x::l,y::m=>Io x y && Gn l m
 |_,_=>false
end
mutual
theorem jI:∀a b:Ex,Io a b=true↔a=b
 |.mk k o n nm us,.mk k' o' n' nm' bs=>by
  rw[Io];simp only[Ze,beq_iff_eq,Ob us bs,Ex.mk.injEq];simp only[and_assoc]
theorem Ob:∀a b:List Ex,Gn a b=true↔a=b
 |[],[]=>by simp [Gn]
 |x::l,y::m=>by rw[Gn];simp [jI x y,Ob l m]
 |[],y::m=>by simp [Gn]
 |x::l,[]=>by simp [Gn]
end
mutual
def Fq:St→St→Bool
 |.mk k nm us t e,.mk k' nm' us' t' e'=>k==k' && nm==nm' && Gn us us' && Gl t t' && Gl e e'
def Gl:List St→List St→Bool
 |[],[]=>true
 |x::l,y::m=>Fq x y && Gl l m
 |_,_=>false
end
mutual
theorem iN:∀a b:St,Fq a b=true↔a=b
 |.mk k nm us t e,.mk k' nm' us' t' e'=>by
  rw[Fq];simp only[Ze,beq_iff_eq,Ob us us',Lq t t',Lq e e',St.mk.injEq];simp only[and_assoc]
theorem Lq:∀a b:List St,Gl a b=true↔a=b
 |[],[]=>by simp [Gl]
 |x::l,y::m=>by rw[Gl];simp [iN x y,Lq l m]
 |[],y::m=>by simp [Gl]
 |x::l,[]=>by simp [Gl]
end
def Hp:List Bs→List Bs→Bool
 |[],[]=>true
 |x::l,y::m=>x==y && Hp l m
 |_,_=>false
theorem Wn:∀a b:List Bs,Hp a b=true↔a=b
 |[],[]=>by simp [Hp]
 |x::l,y::m=>by rw[Hp];simp [Wn l m]
 |[],y::m=>by simp [Hp]
 |x::l,[]=>by simp [Hp]
def Ir(f g:Fu):Bool:=f.name==g.name && Hp f.params g.params && Hp f.locals g.locals && Gl f.body g.body
theorem kM(f g:Fu):Ir f g=true↔f=g:=by
 obtain⟨a,b,c,d⟩:=f;obtain⟨a',b',c',d'⟩:=g;unfold Ir;simp only[Ze,beq_iff_eq,Wn,Lq,Fu.mk.injEq];simp only[and_assoc]
def Ji:List Fu→List Fu→Bool
 |[],[]=>true
 |x::l,y::m=>Ir x y && Ji l m
 |_,_=>false
theorem Ub:∀a b:List Fu,Ji a b=true↔a=b
 |[],[]=>by simp [Ji]
 |x::l,y::m=>by rw[Ji];simp [kM x y,Ub l m]
 |[],y::m=>by simp [Ji]
 |x::l,[]=>by simp [Ji]
def Ks(a b:Ar):Bool:=a.name==b.name && a.size==b.size
theorem iM(f g:Ar):Ks f g=true↔f=g:=by
 obtain⟨a,b⟩:=f;obtain⟨a',b'⟩:=g;unfold Ks;simp
def Ha:List Ar→List Ar→Bool
 |[],[]=>true
 |x::l,y::m=>Ks x y && Ha l m
 |_,_=>false
theorem Ua:∀a b:List Ar,Ha a b=true↔a=b
 |[],[]=>by simp [Ha]
 |x::l,y::m=>by rw[Ha];simp [iM x y,Ua l m]
 |[],y::m=>by simp [Ha]
 |x::l,[]=>by simp [Ha]
def Vm(p q:Pr):Bool:=Ha p.arrays q.arrays && Ji p.funcs q.funcs
theorem jC(p q:Pr):Vm p q=true↔p=q:=by
 obtain⟨a,b⟩:=p;obtain⟨c,d⟩:=q;unfold Vm;simp [Ua,Ub]
def Cg {α:Type}(f:α→α→Bool):List α→List α→Bool
 |[],[]=>true
 |x::l,y::m=>f x y && Cg f l m
 |_,_=>false
theorem Nx:∀l m,Gn l m=Cg Io l m
 |[],[]=>rfl
 |x::l,y::m=>by rw[Gn,Cg,Nx l m]
 |[],y::m=>by simp [Gn,Cg]
 |x::l,[]=>by simp [Gn,Cg]
theorem Lz:∀l m,Gl l m=Cg Fq l m
 |[],[]=>rfl
 |x::l,y::m=>by rw[Gl,Cg,Lz l m]
 |[],y::m=>by simp [Gl,Cg]
 |x::l,[]=>by simp [Gl,Cg]
theorem To:∀l m,Ji l m=Cg Ir l m
 |[],[]=>rfl
 |x::l,y::m=>by rw[Ji,Cg,To l m]
 |[],y::m=>by simp [Ji,Cg]
 |x::l,[]=>by simp [Ji,Cg]
theorem Tr:∀l m,Ha l m=Cg Ks l m
 |[],[]=>rfl
 |x::l,y::m=>by rw[Ha,Cg,Tr l m]
 |[],y::m=>by simp [Ha,Cg]
 |x::l,[]=>by simp [Ha,Cg]
theorem Vn:∀l m,Hp l m=Cg (fun x y=>x==y) l m
 |[],[]=>rfl
 |x::l,y::m=>by rw[Hp,Cg,Vn l m]
 |[],y::m=>by simp [Hp,Cg]
 |x::l,[]=>by simp [Hp,Cg]
theorem Kc {α:Type}(f:α→α→Bool):∀(l m:List α),l.length≠m.length→Cg f l m=false
 |[],[],h=>absurd rfl h
 |x::l,y::m,h=>by rw[Cg,Kc f l m (by simpa using h)];simp
 |[],y::m,_=>rfl
 |x::l,[],_=>rfl
theorem Iu {α:Type}(f:α→α→Bool)(d:α):∀(l m:List α),l.length=m.length→(∀i,i<l.length→f (l.getD i d) (m.getD i d)=true)→Cg f l m=true
 |[],[],_,_=>rfl
 |x::l,y::m,h,hf=>by
  have h0:f x y=true:=by have:=hf 0 (by simp);simpa using this
  rw[Cg,h0,Iu f d l m (by simpa using h) (fun i hi=>by have:=hf (i+1) (by simpa using hi);simpa using this)];rfl
 |[],y::m,h,_=>by simp at h
 |x::l,[],h,_=>by simp at h
theorem Hs {α:Type}(f:α→α→Bool)(d:α):∀(l m:List α) (i:Nat),l.length=m.length→i<l.length→f (l.getD i d) (m.getD i d)=false→Cg f l m=false
 |x::l,y::m,0,_,_,hf=>by rw[Cg,show f x y=false by simpa using hf];rfl
 |x::l,y::m,i+1,h,hi,hf=>by rw[Cg,Hs f d l m i (by simpa using h) (by simpa using hi) (by simpa using hf)];simp
 |[],_,_,_,hi,_=>by simp at hi
 |x::l,[],_,h,_,_=>by simp at h
theorem Fr {l:Bs}(h:Ao l=true):l.length≤20:=by
 unfold Ao at h;simp only[Ze,decide_eq_true_eq]at h;exact h.1.1.2
theorem lP(L:Nat):∀l:List Bs,(∀x,x∈l→x.length≤L)→(Bq l).length≤l.length*(L+2)
 |[],_=>by simp [Bq]
 |x::l,h=>by
  have more:∀m:List Bs,(∀x,x∈m→x.length≤L)→(m.flatMap (fun y=>[44,32]++y)).length≤m.length*(L+2):=by
   intro m
   induction m with
   |nil=>intro _;simp
   |cons y m ih=>
    intro hm;have h1:=hm y Zb;have h2:=ih (fun z hz=>hm z (Zc _ hz));simp only[Zo,Zd,Zg,Zk]at h2 ⊢;rw[Zp];omega
  have h1:=h x Zb;have h2:=more l (fun z hz=>h z (Zc _ hz));rw[Bq,Zd,Zg,Zp];omega
theorem Wy(e:Ex)(lev:Int)(t:Bs):(Fo e lev t).length≤t.length+2:=by
 unfold Fo;split
 ·simp
 ·omega
theorem aZ:∀i:Fin 20,(Aw i.val).length≤2:=by decide+kernel
theorem gD(o:Int):(Aw o).length≤2:=by
 by_cases h:0≤o∧o≤19
 ·have e1:((o.toNat:Nat):Int)=o:=Int.toNat_of_nonneg (by omega)
  have:=aZ ⟨o.toNat,by omega⟩;simp only[e1]at this;exact this
 ·unfold Aw
  rw[if_neg (by omega),if_neg (by omega),if_neg (by omega),if_neg (by omega),if_neg (by omega),if_neg (by omega),if_neg (by omega),if_neg (by omega),if_neg (by omega),if_neg (by omega),if_neg (by omega),if_neg (by omega),if_neg (by omega),if_neg (by omega),if_neg (by omega),if_neg (by omega),if_neg (by omega),if_neg (by omega),if_neg (by omega)];exact Nat.zero_le _
theorem ex1_len(n:Int)(h:0≤n∧n≤9223372036854775807)(o:Int)(nm:Bs)(l:List Ex):(Ak (.mk 1 o n nm l)).length≤21:=by
 rw[gR];exact Lib.itoa_length_le n (by omega) h.2
theorem gJ {L:Nat}{nm:Bs}{l:List Ex}(hn:nm.length≤20)(h6:l.length≤6)(hl:∀x,x∈l→(Ak x).length≤L):(Ak (.mk 5 0 0 nm l)).length≤6*L+64:=by
 rw[eZ];have:=lP L (l.map Ak) (fun x hx=>by
  obtain⟨y,hy,rfl⟩:=List.mem_map.1 hx;exact hl y hy)
 simp only[List.length_map,Zd,Zg,Zk]at this ⊢;have:l.length*(L+2)≤6*(L+2):=Zn _ h6;omega
theorem aK {sc:Sc}(hs:sc.Ok)(raw:List Int)(g:Nat→Ex ×Nat)(L:Nat)(hg:∀a,(Ak (g a).1).length≤L)(a:Nat):(Ak (Ic sc raw g a).1).length≤6*L+64:=by
 unfold Ic;split
 ·have h7:=Ai raw (Ad raw a 312).2 7 (by decide)
  exact gJ (Fr (Ka _)) (by rw[Hu];omega) (Jw g (fun x=>(Ak x).length≤L) hg _ _)
 ·rename_i hn
  have hl:=eH hn;have hr:=Ai raw a sc.funcs.length (by omega);have hf:Ao (Dx sc.funcs (Ad raw a sc.funcs.length).1.toNat).name=true∧(Dx sc.funcs (Ad raw a sc.funcs.length).1.toNat).params.length≤6:=hs.funcs _ (qO (d:=Fu.nil) (i:=(Ad raw a sc.funcs.length).1.toNat) (by omega));dsimp only;generalize Dx sc.funcs (Ad raw a sc.funcs.length).1.toNat=f at hf ⊢;exact gJ (Fr hf.1) (by rw[Hu];exact hf.2) (Jw g (fun x=>(Ak x).length≤L) hg _ _)
theorem aR {sc:Sc}(hs:sc.Ok)(raw:List Int)(g:Nat→Ex ×Nat)(L:Nat)(hg:∀a,(Ak (g a).1).length≤L)(k:Int)(a:Nat):(Ak (El sc raw g k a).1).length≤6*L+64:=by
 unfold El;split
 ·have:=Fr (Ri hs raw a)
  dsimp only;rw[gX];omega
 split
 ·dsimp only;rw[gA];simp
 split
 ·have h1:=Ai raw (if k=3 then(Ad raw a 3).2 else a) 1000 (by decide)
  have h2:=Om _ (Ad raw (Ad raw (if k=3 then(Ad raw a 3).2 else a) 1000).2 8).1 h1;have:=ex1_len _ h2 0 [] [];dsimp only;omega
 split
 ·have:=hg (Ad raw a 3).2
  dsimp only;rw[dN _ _ _ _ (by simp)];have h2:=gD (17+(Ad raw a 3).1);have h3:=Wy (g (Ad raw a 3).2).1 9 (Ak (g (Ad raw a 3).2).1);show(Aw _++Fo (g (Ad raw a 3).2).1 9 (Ak (g (Ad raw a 3).2).1)).length≤_
  rw[Zd];omega
 split
 ·have h1:=Fr (Po hs raw a)
  have h2:=hg (Cu sc.free sc.arrays raw a).2;dsimp only;rw[gU _ _ _ _ (by simp)];show(_++[91]++Ak (g (Cu sc.free sc.arrays raw a).2).1++[93]).length≤_
  simp only[Zd,Zg,Zk];omega
 split
 ·exact aK hs raw g L hg a
 ·dsimp only;rw[dZ _ _ _ _ (by simp)]
  have h1:=hg (Ad raw a 16).2;have h2:=hg (g (Ad raw a 16).2).2;have h3:=gD (1+(Ad raw a 16).1);have h4:=Wy (g (Ad raw a 16).2).1 (Al (1+(Ad raw a 16).1)) (Ak (g (Ad raw a 16).2).1);have h5:=Wy (g (g (Ad raw a 16).2).2).1 (Al (1+(Ad raw a 16).1)+1) (Ak (g (g (Ad raw a 16).2).2).1);show(Fo (g (Ad raw a 16).2).1 (Al (1+(Ad raw a 16).1)) (Ak (g (Ad raw a 16).2).1)++([32]++(Aw _++[32]))++Fo (g (g (Ad raw a 16).2).2).1 (Al (1+(Ad raw a 16).1)+1) (Ak (g (g (Ad raw a 16).2).2).1)).length≤_
  simp only[Zd,Zg,Zk];omega
def exB:Nat→Nat
 |0=>64
 |d+1=>6*exB d+64
theorem Pe {sc:Sc}(hs:sc.Ok)(raw:List Int):∀d a,(Ak (Ay sc raw d a).1).length≤exB d
 |0,a=>by
  rw[Ay];unfold Tq;have:=aR hs raw (fun a=>(Ex.nil,a)) 0 (fun a=>by show(Ak (.mk 0 0 0 [] [])).length≤0;rw[Gu];decide) (gK raw 0 a) (Ad raw a 12).2;simp only[exB];omega
 |d+1,a=>by
  rw[Ay];unfold Tq;exact aR hs raw _ (exB d) (Pe hs raw d) _ _
theorem qF(t:Nat):(Kb t).length=t:=List.length_replicate
theorem dB(t:Nat)(l:List Bs):(ln t l).length=t+l.flatten.length+1:=by unfold ln;rw[Zd,Zd,qF];rfl
theorem qX {t N L T E:Nat}{k:Int}{nm:Bs}{args:List Ex}{thn els:List St}(hn:nm.length≤N)(ha:∀x,x∈args→(Ak x).length≤L)(hT:(Cb (t+1) thn).length≤T)(hE:(Cb (t+1) els).length≤E):(Co t (.mk k nm args thn els)).length≤3*t+N+2*L+T+E+40:=by
 have hx:∀i,(Ak (Ca args i)).length≤L:=fun i=>by
  unfold Ca;rcases Nat.lt_or_ge i args.length with h|h
  ·rw[List.getD_eq_getElem?_getD,Zs h];exact ha _ (List.getElem_mem h)
  ·rw[List.getD_eq_getElem?_getD,List.getElem?_eq_none h]
   show(Ak (.mk 0 0 0 [] [])).length≤L
   rw[Gu];exact Nat.zero_le _
 have h0:=hx 0;have h1:=hx 1;rw[Fi];unfold Dd
 repeat' split
 all_goals
  try simp only[dB,Zd,Zt,Zu,Zg,Zk]
  try omega
theorem bV {t B:Nat}:∀l:List St,(∀x,x∈l→(Co t x).length≤B)→(Cb t l).length≤l.length*B
 |[],_=>by simp [Cb]
 |x::l,h=>by
  have h1:=h x Zb;have h2:=bV l (fun z hz=>h z (Zc _ hz));rw[Cb,Zd,Zg,Zp];omega
theorem gT {sc:Sc}(hs:sc.Ok)(raw:List Int)(gs gl:Nat→List St ×Nat)(T:Nat)(t:Nat)(hgs:∀a,(Cb (t+1) (gs a).1).length≤T)(hgl:∀a,(Cb (t+1) (gl a).1).length≤T)(k:Int)(a:Nat):
  ∃k' nm args thn els,(Ce sc raw gs gl k a).1=.mk k' nm args thn els∧nm.length≤20∧(∀x,x∈args→(Ak x).length≤exB 3)∧(Cb (t+1) thn).length≤T∧(Cb (t+1) els).length≤T:=by
 have z:(Cb (t+1) []).length≤T:=Nat.zero_le _;have nn:∀x:Ex,x∈([]:List Ex)→(Ak x).length≤exB 3:=fun x hx=>by cases hx
 have n0:([]:Bs).length≤20:=Nat.zero_le _;have ee:∀a,∀x,x∈[(Ay sc raw 3 a).1]→(Ak x).length≤exB 3:=fun a x hx=>by rw[List.mem_singleton.1 hx];exact Pe hs raw 3 a
 unfold Ce;split
 ·exact⟨_,_,_,_,_,rfl,Fr (Ri hs raw a),nn,z,z⟩
 split
 ·exact⟨_,_,_,_,_,rfl,Fr (Po hs raw a),ee _,z,z⟩
 split
 ·exact⟨_,_,_,_,_,rfl,n0,fun x hx=>by rw[List.mem_singleton.1 hx];exact aK hs raw _ (exB 2) (Pe hs raw 2) a,z,z⟩
 split
 ·exact⟨_,_,_,_,_,rfl,n0,nn,z,z⟩
 split
 ·exact⟨_,_,_,_,_,rfl,n0,ee _,hgs _,hgs _⟩
 split
 ·exact⟨_,_,_,_,_,rfl,n0,ee _,hgl _,z⟩
 split
 ·exact⟨_,_,_,_,_,rfl,n0,nn,z,z⟩
 ·exact⟨_,_,_,_,_,rfl,n0,nn,z,z⟩
theorem lN {sc:Sc}(hs:sc.Ok)(raw:List Int)(gs gl:Nat→List St ×Nat)(T:Nat)(t d:Nat)(hgs:∀a,(Cb (t+1) (gs a).1).length≤T)(hgl:∀a,(Cb (t+1) (gl a).1).length≤T)(a:Nat):(Co t (gSt sc raw gs gl d a).1).length≤3*t+2*exB 4+2*T+60:=by
 unfold gSt;dsimp only;obtain⟨k,nm,args,thn,els,h,h1,h2,h3,h4⟩:=gT hs raw gs gl T t hgs hgl (Sp raw d a) (Ad raw a 14).2;generalize (Ce sc raw gs gl (Sp raw d a) (Ad raw a 14).2).2=b;rw[h];have h2:∀x,x∈args→(Ak x).length≤exB 4:=fun x hx=>Nat.le_trans (h2 x hx) (by decide)
 unfold Ko;split
 ·have:=qX (k:=k) (N:=20) (L:=exB 4) h1 (args:=args++[(Ay sc raw 4 b).1]) (fun x hx=>by
   rcases Zq.1 hx with hx|hx
   ·exact h2 x hx
   ·rw[List.mem_singleton.1 hx];exact Pe hs raw 4 b) h3 h4
  show(Co t (.mk k nm (args++[(Ay sc raw 4 b).1]) thn els)).length≤_
  omega
 ·have:=qX (k:=k) (N:=20) (L:=exB 4) h1 h2 h3 h4
  show(Co t (.mk k nm args thn els)).length≤_
  omega
def stB:Nat→Nat
 |0=>4*(2*exB 4+100)
 |d+1=>4*(2*exB 4+2*stB d+100)
theorem Xc(one:Nat→St ×Nat)(P:St→Prop)(hg:∀a,P (one a).1)(c a:Nat):∀x,x∈(Ig one c a).1→P x:=Pj one P hg c a
theorem five(raw:List Int)(a:Nat):(Ad raw a 5).1.toNat≤4:=by have:=Ai raw a 5 (by decide);omega
theorem Qi(raw:List Int):∀(d t:Nat) (sc:Sc),sc.Ok→t+d≤10→∀a,(Cb t (Gh raw d sc a).1).length≤stB d
 |0,t,sc,hs,ht,a=>by
  rw[Gh];have h1:=bV (t:=t) (B:=2*exB 4+100) _ (Xc _ (fun x=>(Co t x).length≤2*exB 4+100) (fun b=>Nat.le_trans (lN hs raw (fun a=>([],a)) (fun a=>([],a)) 0 t 0 (fun _=>Nat.le_refl _) (fun _=>Nat.le_refl _) b) (by omega)) (Ad raw a 5).1.toNat (Ad raw a 5).2);rw[Mi]at h1;exact Nat.le_trans h1 (Zn _ (five raw a))
 |d+1,t,sc,hs,ht,a=>by
  rw[Gh];have h1:=bV (t:=t) (B:=2*exB 4+2*stB d+100) _ (Xc _ (fun x=>(Co t x).length≤2*exB 4+2*stB d+100) (fun b=>Nat.le_trans (lN hs raw (Gh raw d sc) (Gh raw d sc.inLoop) (stB d) t (d+1) (Qi raw d (t+1) sc hs (by omega)) (Qi raw d (t+1) sc.inLoop hs.inLoop (by omega)) b) (by omega)) (Ad raw a 5).1.toNat (Ad raw a 5).2);rw[Mi]at h1;exact Nat.le_trans h1 (Zn _ (five raw a))
def fuB:Nat:=1000+stB 4
def prB:Nat:=200+3*fuB
theorem fH:2*prB≤140737488355328:=by decide+kernel
theorem jB {a:Ar}(h:Du a=true):(On a).length≤100:=by
 unfold Du at h;simp only[Ze,decide_eq_true_eq]at h;have h1:=Fr h.1;have h2:=Lib.itoa_length_le a.size (by omega) (by omega);unfold On;rw[dB];simp only[Zt,Zu,Zd,Zg,Zk];omega
theorem Tt:∀l:List Ar,(∀a,a∈l→Du a=true)→(Ee l).length≤l.length*100
 |[],_=>by simp [Ee]
 |a::l,h=>by
  have h1:=jB (h a Zb);have h2:=Tt l (fun x hx=>h x (Zc _ hx));show(On a++Ee l).length≤_
  rw[Zd,Zg,Zp];omega
theorem Ts:∀l:List Bs,(∀x,x∈l→Ao x=true)→(Fk l).length≤l.length*40
 |[],_=>by simp [Fk]
 |x::l,h=>by
  have h1:=Fr (h x Zb);have h2:=Ts l (fun y hy=>h y (Zc _ hy));show(ln 1 [[105,110,116,32],x,[59]]++Fk l).length≤_
  rw[Zd,dB,Zg,Zp];simp only[Zt,Zu,Zd,Zg,Zk];omega
theorem iV {f:Fu}(h:FOk f)(hp:f.params.length≤6)(hl:f.locals.length≤5)(hb:(Cb 1 f.body).length≤stB 4):(Ip f).length≤fuB:=by
 have h1:=Fr h.name;have h2:=lP 24 (f.params.map Kd) (fun x hx=>by
  obtain⟨y,hy,rfl⟩:=List.mem_map.1 hx;have:=Fr (h.params y hy);unfold Kd;rw[Zd];simp;omega)
 have h3:=Ts f.locals h.locals;have h4:(f.params.map Kd).length*(24+2)≤6*26:=Zn _ (by rw[List.length_map];exact hp);have h5:f.locals.length*40≤5*40:=Zn _ hl;unfold Ip fuB;simp only[Zd,dB,Zt,Zu,Zg,Zk];omega
theorem Uf:∀l:List Fu,(∀f,f∈l→(Ip f).length≤fuB)→(Eo l).length≤l.length*fuB
 |[],_=>by simp [Eo]
 |a::l,h=>by
  have h1:=h a Zb;have h2:=Uf l (fun x hx=>h x (Zc _ hx));show(Ip a++Eo l).length≤_
  rw[Zd,Zg,Zp];omega
theorem Ui(raw:List Int)(sc:Sc)(P:Fu→Prop)(hP:∀f,f∈sc.funcs→∀a,P (Px raw sc f a).1):∀(l:List Fu),(∀f,f∈l→f∈sc.funcs)→∀a,∀x,x∈(Dc raw sc l a).1→P x
 |[],_,a,x,hx=>by cases hx
 |f::l,hl,a,x,hx=>by
  rw[Dc]at hx;rcases Zr.1 hx with rfl|hx
  ·exact hP f (hl f Zb) a
  ·exact Ui raw sc P hP l (fun g hg=>hl g (Zc _ hg)) _ x hx
theorem Nv(raw:List Int)(sc:Sc):∀(l:List Fu) (a:Nat),(Dc raw sc l a).1.length=l.length
 |[],a=>rfl
 |g::l,a=>by rw[Dc,Zg,Zg,Nv raw sc l]
theorem Qv(free:Bool)(raw:List Int):∀n a,(Is free raw n a).1.length=n
 |0,a=>rfl
 |n+1,a=>by rw[Is,Zg,Qv free raw n]
theorem Re(raw:List Int):∀n a,(Ii raw n a).1.length=n
 |0,a=>rfl
 |n+1,a=>by rw[Ii,Zg,Re raw n]
theorem gSc_ok(raw:List Int)(free:Bool){f:Fu}(hf:f∈(Jj raw free).funcs)(k:Nat):Sc.Ok ⟨f.params++Dg.take k,(Jj raw free).arrays,(Jj raw free).funcs,free,false⟩:=by
 refine⟨fun x hx=>?_,fun x hx=>?_,fun x hx=>⟨(Hf raw free x hx).1,(Hf raw free x hx).2.1⟩⟩
 ·rcases Zq.1 hx with hx|hx
  ·exact(Hf raw free f hf).2.2 x hx
  ·exact Ym x (List.mem_of_mem_take hx)
 ·have:=Nm raw free x hx
  unfold Du at this;exact((Ze _ _).mp this).1
theorem fL(raw:List Int)(free:Bool):∀f,f∈(Js raw free).funcs→(Ip f).length≤fuB:=by
 intro f hf;have hr:=Ma raw free;unfold Cx at hr;simp only[Ze,Zm]at hr;have hok:=mU (hr.2 f hf);have h:=Ui (raw.take 400) (Jj (raw.take 400) free) (fun f=>f.params.length≤6∧f.locals.length≤5∧(Cb 1 f.body).length≤stB 4) (fun g hg a=>by
  have hh:=Hf (raw.take 400) free g hg;refine⟨hh.2.1,?_,?_⟩
  ·show(Dg.take _).length≤5
   rw[List.length_take];exact Nat.min_le_right _ _
  ·exact Qi (raw.take 400) 4 1 _ (gSc_ok (raw.take 400) free hg _) (by omega) _) (Jj (raw.take 400) free).funcs (fun f hf=>hf) _ f hf
 exact iV hok h.1 h.2.1 h.2.2
theorem Nf(raw:List Int)(free:Bool):(Js raw free).arrays.length≤2∧(Js raw free).funcs.length≤3∧0<(Js raw free).funcs.length:=by
 have h1:=Ai (raw.take 400) 0 3 (by decide);have h2:=Ai (raw.take 400) (Jk (raw.take 400) free).2 3 (by decide);have ea:(Js raw free).arrays.length=(Ad (raw.take 400) 0 3).1.toNat:=Qv _ _ _ _;have ef:(Js raw free).funcs.length=(Ad (raw.take 400) (Jk (raw.take 400) free).2 3).1.toNat+1:=by
  show(Dc _ _ _ _).1.length=_
  rw[Nv];show(Kw::(Qk _ _).1).length=_
  rw[Zg];show(Ii _ _ _).1.length+1=_
  rw[Re]
 rw[ea,ef];omega
theorem Yi(raw:List Int)(free:Bool):(Bi (Js raw free)).length≤prB:=by
 have hr:=Ma raw free;unfold Cx at hr;simp only[Ze,Zm]at hr;obtain⟨c1,c2,_⟩:=Nf raw free;have h1:=Tt _ hr.1;have h2:=Uf _ (fL raw free);have h3:(Js raw free).arrays.length*100≤2*100:=Zn _ c1;have h4:(Js raw free).funcs.length*fuB≤3*fuB:=Zn _ c2;unfold Bi prB;rw[Zd];omega
theorem aH {p:Pr}(h:0<p.funcs.length):Bi p≠[]:=by
 obtain⟨a,l⟩:=p
 cases l with
 |nil=>cases h
 |cons f l=>
  unfold Bi;intro e;have:=(List.append_eq_nil_iff.1 e).2;simp [Eo,Ip]at this
def Do(p q:Pr):Pr:=⟨p.arrays,p.funcs++q.funcs⟩
def Cm(q:Pr):Pr:=⟨[],q.funcs⟩
theorem Wc {p q:Pr}(hp:Cx p=true)(hq:Cx q=true):Cx (Do p q)=true∧Cx (Cm q)=true:=by
 unfold Cx at*;simp only[Ze,Zm,Do,Cm]at*;refine⟨⟨hp.1,fun f hf=>?_⟩,fun x hx=>(by cases hx),hq.2⟩;rcases Zq.1 hf with h|h
 ·exact hp.2 f h
 ·exact hq.2 f h
theorem pA(p q:Pr):Bi (Do p q)=Bi p++Bi (Cm q):=by
 unfold Bi Do Cm;simp [Eo,Ee]
theorem pW(q:Pr):(Bi (Cm q)).length≤(Bi q).length:=by
 unfold Bi Cm;rw[Zd,Zd];show([]:Bs).length+_≤_
 simp
def Mf:Nat→List Pc→List Tk
 |_,[]=>[]
 |n,.g b::l=>Mf (n+Be b) l
 |n,.t x::l=>⟨x.kind,x.text,x.num,n⟩::Mf n l
def dE:List Pc→Nat
 |[]=>0
 |.g b::l=>Be b+dE l
 |.t _::l=>dE l
theorem bX:∀(l:List Pc) (n:Nat),Qx (n+Be (Cf l)) (Eu l)=Mf n l
 |[],n=>rfl
 |.g b::l,n=>by
  show Qx (n+Be (b++Cf l)) (Eu l)=Mf (n+Be b) l
  rw[Ld,←Nat.add_assoc];exact bX l (n+Be b)
 |.t x::l,n=>by
  have eg:An (Cf l) []=Cf l:=by unfold An;simp
  show(⟨x.kind,x.text,x.num,((n+0:Nat):Int)⟩:Tk)::Qx (n+0+Be (An (Cf l) [])) (Eu l)=⟨x.kind,x.text,x.num,n⟩::Mf n l
  rw[eg,Nat.add_zero,bX l n]
theorem Xk:∀(a b:List Pc) (n:Nat),Mf n (a++b)=Mf n a++Mf (n+dE a) b
 |[],b,n=>rfl
 |.g x::a,b,n=>by
  show Mf (n+Be x) (a++b)=Mf (n+Be x) a++Mf (n+(Be x+dE a)) b
  rw[Xk a b,Nat.add_assoc]
 |.t x::a,b,n=>by
  show _::Mf n (a++b)=_::(Mf n a++Mf (n+dE a) b)
  rw[Xk a b]
theorem Wv:∀(l:List Pc) (n:Nat),For (Mf n l) l
 |[],n=>rfl
 |.g b::l,n=>Wv l _
 |.t x::l,n=>by
  show t3 ⟨x.kind,x.text,x.num,n⟩::(Mf n l).map t3=x::Kq l
  rw[show(Mf n l).map t3=Kq l from Wv l n];rfl
theorem kJ {x:T3}(h:Qb x):Be x.text=0:=by
 refine eW _ (fun hm=>?_);obtain⟨h1,h2,_⟩:=h;obtain⟨k,t,n⟩:=x;dsimp only at h1 h2 hm
 cases h1 with
 |name x hx hk c t hc hl ha=>exact absurd (ha 10 hm).2 (by decide)
 |word x hk c t hc hl ha=>exact absurd (ha 10 hm).2 (by decide)
 |num u hu hi c t hc hd=>exact absurd (Jx u 10 hm) (by decide)
 |quote r x=>exact absurd rfl (h2 rfl _)
 |sign x hs c t hc h7 hn=>
  rcases In hs with rfl|rfl|rfl|rfl|rfl|rfl|rfl|rfl|rfl|rfl|rfl|rfl|rfl|rfl|rfl|rfl|rfl|rfl|rfl|rfl|rfl|rfl|rfl|rfl|rfl|rfl|rfl<;>exact absurd hm (by decide)
theorem Ql:∀(l:List Pc),Bd l→dE l=Be (Ax l)
 |[],_=>rfl
 |.g b::l,h=>by
  show Be b+dE l=Be (b++Ax l)
  rw[Ld,Ql l (fun p hp=>h p (Zc _ hp))]
 |.t x::l,h=>by
  show dE l=Be (x.text++Ax l)
  rw[Ld,kJ (h (.t x) Zb),Nat.zero_add,Ql l (fun p hp=>h p (Zc _ hp))]
theorem sQ(l:List Pc)(hp:Bd l)(hs:Fg Lp l [])(hlen:(Ax l).length≤20000)(hb:Oq (Cf l) [])(Q:Pr ×Int ×Int→Prop)
  (hz:∀N:Int,∃z,Ev (fun f=>Eb f ⟨[],[]⟩ (Mf 1 l++[⟨5,[],0,N⟩])) z∧Q (Ou (Sd z))) (w:World) (hl:Iz w):
  Calls Zh 14 #[.string (Aa (Ax l))] w fun e w'=> ∃r,Q r∧WhP w r e w':=by
 obtain⟨i1,i2⟩:=bY [] l hp hs;have ht:=Op l;have hil:=Uy l hp;have eg:An (Cf l) []=Cf l:=by unfold An;simp
 have e0:An (Cf l) []++Dh (Eu l)=Ax l:=by rw[eg];exact ht
 obtain⟨z,⟨f0,hf⟩,hq⟩:=hz (qZ (1+Be (An (Cf l) [])) (Eu l));have hx:=Pn (Cf l) [] hb (Eu l) i1 i2 (by rw[e0];exact hlen) (by omega) (f0+4*((Eu l).length+1)+4) (by omega) w hl;rw[e0]at hx;refine hx.mono ?_;intro e w' hp;have e1:Eb (f0+4*((Eu l).length+1)+4) ⟨[],[]⟩ (Ds (1+Be (An (Cf l) [])) (Eu l))=z:=by
  have:=hf (f0+4*((Eu l).length+1)+4) (by omega);have e2:Mf 1 l=Qx (1+Be (An (Cf l) [])) (Eu l):=by rw[eg];exact(bX l 1).symm
  rw[e2]at this;exact this
 rw[e1]at hp;exact⟨_,hq,hp⟩
def Oh:List Pc:=[wd [105,110,116],.g [32],nmp [97],sg [91],nu 1,sg [93],sg [59]]
theorem eY:∀(l:List Fu) (p:Pr) (ts more:List Tk) (i n o:Tk),(∀x,x∈l→WFu x)→l≠[]∨p.funcs≠[]→For ts (l.flatMap Nr)→isP [105,110,116] i=true→n.kind=1→isP [91] o=true→
  Ev (fun f=>Eb f p (ts++i::n::o::more)) (.error o.line)
 |[],p,ts,more,i,n,o,hl,hne,hf,hi,hn,ho=>by
  rw[For.nil (show For ts []from hf)];have hp:p.funcs.isEmpty=false:=by
   rcases hne with h|h
   ·exact absurd rfl h
   ·cases hq:p.funcs with
    |nil=>exact absurd hq h
    |cons a b=>rfl
  refine Ev.const (fun f=>?_);(try dsimp only);show Eb (f+1) p (i::n::o::more)=_
  rw[Eb,if_neg (show ¬((i::n::o::more).head?.map (·.kind)).getD 0=5 from Vl hi),Cd hi];dsimp only;rw[Ih hn];dsimp only;rw[if_neg (show ¬p.funcs.isEmpty=true by rw[hp];decide)];dsimp only;rw[rZ (Ov ho (by decide))]
 |g::l,p,ts,more,i,n,o,hl,hne,hf,hi,hn,ho=>by
  rw[Zo]at hf;obtain⟨t1,t2,rfl,h1,h2⟩:=hf.app;obtain⟨i',r,rfl,hi',hr⟩:=For.cons (show For t1 (wd [105,110,116]:: .g [32]::nmp g.name::sg [40]::Sq g)from h1);obtain⟨n',r,rfl,hn',hr⟩:=(For.gap hr).cons;obtain⟨o',r,rfl,ho',hr⟩:=hr.cons;obtain⟨k1,k2,k3⟩:=Ea hn';obtain⟨j1,_,_⟩:=Ea hi';have ho':=Cv ho';have ih:=eY l {p with funcs:=p.funcs++[g]} t2 more i n o (fun x hx=>hl x (Zc _ hx)) (.inr (by simp)) h2 hi hn ho;obtain⟨n1,e1⟩:=aI (hl g Zb) (rest:=t2++i::n::o::more) hr;obtain⟨n2,e2⟩:=ih;refine Ev.succ ⟨max n1 n2,fun f hf=>?_⟩;have e1:=e1 f (by omega);have e2:=e2 f (by omega);(try dsimp only at e1 e2 ⊢);rw[show i'::n'::o'::r++t2++i::n::o::more=i'::n'::o'::(r++(t2++i::n::o::more))from by simp];rw[Eb,if_neg (show ¬((i'::n'::o'::(r++(t2++i::n::o::more))).head?.map (·.kind)).getD 0=5 from by show ¬i'.kind=5;rw[j1];decide),Cd (Kv hi')];dsimp only;rw[Ih k1];dsimp only;rw[show(if p.funcs.isEmpty=true then Bt [91] (o'::(r++(t2++i::n::o::more)))else none)=none from by
   split
   ·exact Af (Ov ho' (by decide))
   ·rfl]
  dsimp only;rw[Cd ho'];dsimp only;rw[k2,e1];exact e2
theorem pJ:Ax Oh=[105,110,116,32,97,91,49,93,59]:=by
 show [105,110,116]++([32]++([97]++([91]++(Zj 1++([93]++([59]++[]))))))=_
 rw[show Zj 1=[49]by decide+kernel];rfl
theorem tail_ok:Bd Oh:=.wd (by decide) (.sp (by decide) (.nm (by decide) (.sg (by decide) (.cons (jH (by decide) ⟨by decide,by decide⟩) (.sg (by decide) (.sg (by decide) .nil))))))
theorem pT:Fg Lp Oh []:=by
 have hS:=sepR;refine⟨hS.soft 2 32 _ (by decide),(hS.opens 1 _ (by decide)).2,?_,hS.soft 3 93 _ (by decide),hS.soft 4 59 _ (by decide),hS.nil 4,trivial⟩;exact hS.ofHead (Ls.app (show Ls (Ax [nu 1,sg [93],sg [59]])from by rw[Lu];exact(Vo (n:=1) (by decide) digL).app))
theorem tN {q:Pr}(hr:Cx q=true)(hne:q.funcs≠[])(hn:∀g,g∈q.funcs→∀x,x∈g.body→cB x)(hlen:(Bi (Cm q)++[105,110,116,32,97,91,49,93,59]).length≤20000)(w:World)(hl:Iz w):
  Calls Zh 14 #[.string (Aa (Bi (Cm q)++[105,110,116,32,97,91,49,93,59]))] w (WhP w (⟨[],[]⟩,40,((1+Be (Bi (Cm q)):Nat):Int))):=by
 obtain⟨h1,h2⟩:=Rp hr;have et:Ax (q.funcs.flatMap Nr++Oh)=Bi (Cm q)++[105,110,116,32,97,91,49,93,59]:=by
  rw[Ap,pJ,←Sx];rfl
 have hok:Bd (q.funcs.flatMap Nr):=Ru _ _ fun x hx=>mF (h2 x hx) (hn x hx)
 have hg:Cf (q.funcs.flatMap Nr++Oh)=[]:=by
  cases q.funcs with
  |nil=>rfl
  |cons a l=>rfl
 have hs:Fg Lp (q.funcs.flatMap Nr++Oh) []:=Zf (by have:=dA sepR digL [] q.funcs (Ax Oh++[]) (fun _ h=>by cases h) h2;exact this) pT;rw[←et]at hlen ⊢;refine(sQ _ (.app hok tail_ok) hs hlen (by rw[hg];exact Ox) (fun r=>r=(⟨[],[]⟩,40,((1+Be (Bi (Cm q)):Nat):Int))) ?_ w hl).mono ?_
 ·intro N
  have hfe:dE (q.funcs.flatMap Nr)=Be (Bi (Cm q)):=by rw[Ql _ hok,←Sx];rfl
  refine⟨.error ((1+Be (Bi (Cm q)):Nat):Int),?_,rfl⟩;rw[Xk,hfe];have hb:=eY q.funcs ⟨[],[]⟩ (Mf 1 (q.funcs.flatMap Nr)) [⟨3,Zj 1,1,((1+Be (Bi (Cm q)):Nat):Int)⟩,⟨4,[93],0,((1+Be (Bi (Cm q)):Nat):Int)⟩,⟨4,[59],0,((1+Be (Bi (Cm q)):Nat):Int)⟩,⟨5,[],0,N⟩] ⟨2,[105,110,116],0,((1+Be (Bi (Cm q)):Nat):Int)⟩ ⟨1,[97],0,((1+Be (Bi (Cm q)):Nat):Int)⟩ ⟨4,[91],0,((1+Be (Bi (Cm q)):Nat):Int)⟩ h2 (.inl hne) (Wv _ _) (by simp [isP]) rfl (by simp [isP]);have e9:Mf (1+Be (Bi (Cm q))) Oh=[⟨2,[105,110,116],0,((1+Be (Bi (Cm q)):Nat):Int)⟩,⟨1,[97],0,((1+Be (Bi (Cm q)):Nat):Int)⟩,⟨4,[91],0,((1+Be (Bi (Cm q)):Nat):Int)⟩,⟨3,Zj 1,1,((1+Be (Bi (Cm q)):Nat):Int)⟩,⟨4,[93],0,((1+Be (Bi (Cm q)):Nat):Int)⟩,⟨4,[59],0,((1+Be (Bi (Cm q)):Nat):Int)⟩]:=rfl;rw[e9,Zi];exact hb
 ·rintro r w' ⟨R,rfl,hp⟩;exact hp
noncomputable def jnReg (n:Nat):Code:=((Tryz.f9.body.bind (Kk n)).getD .skip)
theorem fv_one {D:Nat→Prop}{w:World}{p:FuV}(h:Dv D w p):∀u,u∈Ci p→u.oneCell'=true:=by
 obtain⟨x,a,b,c⟩:=p;obtain⟨h1,h2,ls,h3,h4,h5⟩:=h;obtain⟨a1,a2,ha⟩:=h1.shape;obtain⟨b1,b2,hb⟩:=h2.shape;obtain⟨c1,c2,hc⟩:=h5.shape;dsimp only at ha hb hc;subst ha;subst hb;subst hc;intro u hu;simp only[Ci,Zr,List.not_mem_nil,or_false]at hu;rcases hu with rfl|rfl|rfl|rfl<;>rfl
theorem lG {w:World}{base:Nat}{ps:List FuV}{v:Value}(h:Cw w base ps v):∀u,u∈ps.flatMap Ci→u.oneCell'=true:=by
 intro u hu;obtain⟨p,hp,hu⟩:=List.mem_flatMap.1 hu;exact fv_one (h.2 p hp) u hu
structure VJn (b6 b7:Nat)(va vf ua uf:Value)(ds es:List FuV)(W:World)(L:Nat→Bool)(z15 z54 z55 z56 z57 z58 z59 z60 z61 z62:Value)(wx:World):Prop where
 bel:Below W.heap.size W wx
 ord:L 10=true→∀j,j<10→L j=true
 ap:L 7=true→L 4=true
 c0:L 0=true→z54=.pointer (some ⟨b6,0,none⟩)
 c1:L 1=true→z55=va
 c2:L 2=true→z56=.pointer (some ⟨b6,1,none⟩)
 c3:L 3=true→z57=vf
 c4:L 4=true→L 7=false→wx.ownsRow W.heap.size 58 4 z58 ds.length (ds.flatMap Ci)
 c5:L 5=true→z59=.pointer (some ⟨b7,1,none⟩)
 c6:L 6=true→z60=uf
 c7:L 7=true→wx.ownsRow W.heap.size 58 4 z61 (ds.length+es.length) (ds.flatMap Ci++es.flatMap Ci)
 c8:L 8=true→z62=.agg #[va,z61]
 c87:L 8=true→¬L 7=false
 c9:L 9=true→∃b,z15=.pointer (some ⟨b,0,none⟩)∧W.heap.size≤b∧Ae wx b (if L 10=true then [va,z61]else [.slice none 0 0,.slice none 0 0]) 34
def RJn(b6 b7:Nat)(va vf ua uf:Value)(ds es:List FuV)(W:World)(q0 q1 q2 q3 q4 q5 q8 q9 q10 q11 q12 q13 q14 q16 q17 q18 q19 q20 q21 q22 q23 q24 q25 q26 q27 q28 q29 q30 q31 q32 q33 q34 q35 q36 q37 q38 q39 q40 q41 q42 q43 q44 q45 q46 q47 q48 q49 q50 q51 q52 q53 q63 q64 q65 q66 q67 q68 q69 q70 q71 q72 q73 q74 q75 q76 q77 q78 q79 q80 q81 q82 q83 q84 q85 q86 q87 q88 q89 q90 q91 q92 q93 q94 q95 q96 q97 q98 q99 q100:Value)(a':Act)(w':World):Prop:=
 ∃z15 z54 z55 z56 z57 z58 z59 z60 z61 z62:Value,(∃b v,z15=.pointer (some ⟨b,0,none⟩)∧W.heap.size≤b∧Ae w' b [va,v] 34∧w'.ownsRow W.heap.size 58 4 v (ds.length+es.length) (ds.flatMap Ci++es.flatMap Ci)∧Below W.heap.size W w')∧a'=⟨[q0,q1,q2,q3,q4,q5,.pointer (some ⟨b6,0,none⟩),.pointer (some ⟨b7,0,none⟩),q8,q9,q10,q11,q12,q13,q14,z15,q16,q17,q18,q19,q20,q21,q22,q23,q24,q25,q26,q27,q28,q29,q30,q31,q32,q33,q34,q35,q36,q37,q38,q39,q40,q41,q42,q43,q44,q45,q46,q47,q48,q49,q50,q51,q52,q53,z54,z55,z56,z57,z58,z59,z60,z61,z62,q63,q64,q65,q66,q67,q68,q69,q70,q71,q72,q73,q74,q75,q76,q77,q78,q79,q80,q81,q82,q83,q84,q85,q86,q87,q88,q89,q90,q91,q92,q93,q94,q95,q96,q97,q98,q99,q100].toArray,[]⟩
def IJn(b6 b7:Nat)(va vf ua uf:Value)(ds es:List FuV)(W:World)(q0 q1 q2 q3 q4 q5 q8 q9 q10 q11 q12 q13 q14 q16 q17 q18 q19 q20 q21 q22 q23 q24 q25 q26 q27 q28 q29 q30 q31 q32 q33 q34 q35 q36 q37 q38 q39 q40 q41 q42 q43 q44 q45 q46 q47 q48 q49 q50 q51 q52 q53 q63 q64 q65 q66 q67 q68 q69 q70 q71 q72 q73 q74 q75 q76 q77 q78 q79 q80 q81 q82 q83 q84 q85 q86 q87 q88 q89 q90 q91 q92 q93 q94 q95 q96 q97 q98 q99 q100:Value)(L:Nat→Bool)(a':Act)(w':World):Prop:=
 ∃z15 z54 z55 z56 z57 z58 z59 z60 z61 z62:Value,VJn b6 b7 va vf ua uf ds es W L z15 z54 z55 z56 z57 z58 z59 z60 z61 z62 w'∧a'=⟨[q0,q1,q2,q3,q4,q5,.pointer (some ⟨b6,0,none⟩),.pointer (some ⟨b7,0,none⟩),q8,q9,q10,q11,q12,q13,q14,z15,q16,q17,q18,q19,q20,q21,q22,q23,q24,q25,q26,q27,q28,q29,q30,q31,q32,q33,q34,q35,q36,q37,q38,q39,q40,q41,q42,q43,q44,q45,q46,q47,q48,q49,q50,q51,q52,q53,z54,z55,z56,z57,z58,z59,z60,z61,z62,q63,q64,q65,q66,q67,q68,q69,q70,q71,q72,q73,q74,q75,q76,q77,q78,q79,q80,q81,q82,q83,q84,q85,q86,q87,q88,q89,q90,q91,q92,q93,q94,q95,q96,q97,q98,q99,q100].toArray,[]⟩
theorem gL {w:World}{base size n b:Nat}{e T:TypeId}{v:Value}{xs cs:List Value}(h:w.ownsRow base e size v n xs)(ho:Ae w b cs T)(hT:e≠T):v.ownBlock≠some b:=by
 rcases h.2 with⟨rfl,_⟩|⟨g,cap,cur,rfl,_,hg,_⟩
 ·intro e;cases e
 ·intro e
  cases e
  have:=hg.symm.trans ho;simp at this;exact hT this.2
theorem qG(b6 b7:Nat)(va vf ua uf:Value)(ds es:List FuV)(W:World)(h6:Ae W b6 [va,vf] 34)(h7:Ae W b7 [ua,uf] 34)(base1 base2:Nat)(hf:Cw W base1 ds vf)(hg:Cw W base2 es uf)(hn:0<ds.length)(hm:0<es.length)(hn3:ds.length≤3)(hm3:es.length≤3)(hva:∃a k c,va=.slice a k c)(q0 q1 q2 q3 q4 q5 q8 q9 q10 q11 q12 q13 q14 q15 q16 q17 q18 q19 q20 q21 q22 q23 q24 q25 q26 q27 q28 q29 q30 q31 q32 q33 q34 q35 q36 q37 q38 q39 q40 q41 q42 q43 q44 q45 q46 q47 q48 q49 q50 q51 q52 q53 q54 q55 q56 q57 q58 q59 q60 q61 q62 q63 q64 q65 q66 q67 q68 q69 q70 q71 q72 q73 q74 q75 q76 q77 q78 q79 q80 q81 q82 q83 q84 q85 q86 q87 q88 q89 q90 q91 q92 q93 q94 q95 q96 q97 q98 q99 q100:Value)(J K':Act→World→Prop)(hJ:∀a' w',RJn b6 b7 va vf ua uf ds es W q0 q1 q2 q3 q4 q5 q8 q9 q10 q11 q12 q13 q14 q16 q17 q18 q19 q20 q21 q22 q23 q24 q25 q26 q27 q28 q29 q30 q31 q32 q33 q34 q35 q36 q37 q38 q39 q40 q41 q42 q43 q44 q45 q46 q47 q48 q49 q50 q51 q52 q53 q63 q64 q65 q66 q67 q68 q69 q70 q71 q72 q73 q74 q75 q76 q77 q78 q79 q80 q81 q82 q83 q84 q85 q86 q87 q88 q89 q90 q91 q92 q93 q94 q95 q96 q97 q98 q99 q100 a' w'→J a' w')(hM:∀a' w',Met J a' w'→K' a' w'):
  Code.wp Zh (jnReg 10) (Exit.then K' (fun _ _ _=>False)) ⟨[q0,q1,q2,q3,q4,q5,.pointer (some ⟨b6,0,none⟩),.pointer (some ⟨b7,0,none⟩),q8,q9,q10,q11,q12,q13,q14,q15,q16,q17,q18,q19,q20,q21,q22,q23,q24,q25,q26,q27,q28,q29,q30,q31,q32,q33,q34,q35,q36,q37,q38,q39,q40,q41,q42,q43,q44,q45,q46,q47,q48,q49,q50,q51,q52,q53,q54,q55,q56,q57,q58,q59,q60,q61,q62,q63,q64,q65,q66,q67,q68,q69,q70,q71,q72,q73,q74,q75,q76,q77,q78,q79,q80,q81,q82,q83,q84,q85,q86,q87,q88,q89,q90,q91,q92,q93,q94,q95,q96,q97,q98,q99,q100].toArray,[]⟩ W:=by
 obtain⟨i0,hi0,hz0,hz1,hz2⟩:=info_parts bG;obtain⟨gf,cf,rfl,_,_⟩:=World.ownsRow.form hf.1 hn;obtain⟨gg,cg,rfl,_,_⟩:=World.ownsRow.form hg.1 hm;obtain⟨va1,va2,va3,rfl⟩:=hva;have HI0:=Za hi0;have HZ0:=Za hz0;have HZ1:=Za hz1;have HZ2:=Za hz2;have HF:=Za hf;have HG:=Za hg;clear hi0 hz0 hz1 hz2 hf hg
 conv=>arg 2;whnf
 dsimp only;refine Ey (by kernel_rfl) (by kernel_rfl) (IJn b6 b7 (.slice va1 va2 va3) (.slice (some ⟨gf,0,none⟩) ds.length cf) ua (.slice (some ⟨gg,0,none⟩) es.length cg) ds es W q0 q1 q2 q3 q4 q5 q8 q9 q10 q11 q12 q13 q14 q16 q17 q18 q19 q20 q21 q22 q23 q24 q25 q26 q27 q28 q29 q30 q31 q32 q33 q34 q35 q36 q37 q38 q39 q40 q41 q42 q43 q44 q45 q46 q47 q48 q49 q50 q51 q52 q53 q63 q64 q65 q66 q67 q68 q69 q70 q71 q72 q73 q74 q75 q76 q77 q78 q79 q80 q81 q82 q83 q84 q85 q86 q87 q88 q89 q90 q91 q92 q93 q94 q95 q96 q97 q98 q99 q100) ?_ ?_ ?_
 ·exact⟨q15,q54,q55,q56,q57,q58,q59,q60,q61,q62,⟨(Below.refl _ _).drew,fun h=>(by cases h),fun h=>(by cases h),fun h=>(by cases h),fun h=>(by cases h),fun h=>(by cases h),fun h=>(by cases h),fun h=>(by cases h),fun h=>(by cases h),fun h=>(by cases h),fun h=>(by cases h),fun h=>(by cases h),fun h=>(by cases h),fun h=>(by cases h)⟩,rfl⟩
 ·intro L act wx k hI hk hl hd
  obtain⟨z15,z54,z55,z56,z57,z58,z59,z60,z61,z62,hV,rfl⟩:=hI;have hk:k=0∨k=1∨k=2∨k=3∨k=4∨k=5∨k=6∨k=7∨k=8∨k=9∨k=10:=by
   have:k<11:=hk;omega
  rcases hk with rfl|rfl|rfl|rfl|rfl|rfl|rfl|rfl|rfl|rfl|rfl
  ·have n10:L 10=false:=by
    cases h:L 10 with
    |false=>rfl
    |true=>have:=hV.ord h 0 (by decide);rw[hl]at this;cases this
   have HV:=Za hV;have HD:=Za hd;have HL:=Za hl;refine Az _ rfl rfl (fun K' hK=>?_)
   conv=>arg 2;whnf
   go_wp2_with fail
   exact⟨z15,.pointer (some ⟨b6,0,none⟩),z55,z56,z57,z58,z59,z60,z61,z62,⟨hV.bel,(fun h j hj=>by rw[Ab L (show 10≠0 by decide)]at h;have:=hV.ord h 0 (by decide);rw[hl]at this;cases this),(fun h=>by rw[Ab L (show 4≠0 by decide)];exact hV.ap (uo h)),(fun _=>rfl),(fun h=>hV.c1 (uo h)),(fun h=>hV.c2 (uo h)),(fun h=>hV.c3 (uo h)),(fun h h7=>hV.c4 (uo h) (by rwa[Ab L (show 7≠0 by decide)]at h7)),(fun h=>hV.c5 (uo h)),(fun h=>hV.c6 (uo h)),(fun h=>hV.c7 (uo h)),(fun h=>hV.c8 (uo h)),(fun h=>by rw[Ab L (show 7≠0 by decide)];exact hV.c87 (uo h)),(fun h=>by obtain⟨b,e1,e2,e3⟩:=hV.c9 (uo h);rw[Ab L (show 10≠0 by decide)];exact⟨b,e1,e2,e3⟩)⟩,rfl⟩
  ·have n10:L 10=false:=by
    cases h:L 10 with
    |false=>rfl
    |true=>have:=hV.ord h 1 (by decide);rw[hl]at this;cases this
   have d0:L 0=true:=hd _ rfl ⟨0,.data⟩ (by simp) rfl;obtain rfl:=hV.c0 d0;have ho6:=h6.old hV.bel;have x60:=ho6.at 0 _ rfl;have x61:=ho6.at 1 _ rfl;have HV:=Za hV;have HD:=Za hd;have HL:=Za hl;refine Az _ rfl rfl (fun K' hK=>?_)
   conv=>arg 2;whnf
   go_wp2_with fail
   exact⟨z15,.pointer (some ⟨b6,0,none⟩),.slice va1 va2 va3,z56,z57,z58,z59,z60,z61,z62,⟨hV.bel,(fun h j hj=>by rw[Ab L (show 10≠1 by decide)]at h;have:=hV.ord h 1 (by decide);rw[hl]at this;cases this),(fun h=>by rw[Ab L (show 4≠1 by decide)];exact hV.ap (uo h)),(fun h=>hV.c0 (uo h)),(fun _=>rfl),(fun h=>hV.c2 (uo h)),(fun h=>hV.c3 (uo h)),(fun h h7=>hV.c4 (uo h) (by rwa[Ab L (show 7≠1 by decide)]at h7)),(fun h=>hV.c5 (uo h)),(fun h=>hV.c6 (uo h)),(fun h=>hV.c7 (uo h)),(fun h=>hV.c8 (uo h)),(fun h=>by rw[Ab L (show 7≠1 by decide)];exact hV.c87 (uo h)),(fun h=>by obtain⟨b,e1,e2,e3⟩:=hV.c9 (uo h);rw[Ab L (show 10≠1 by decide)];exact⟨b,e1,e2,e3⟩)⟩,rfl⟩
  ·have n10:L 10=false:=by
    cases h:L 10 with
    |false=>rfl
    |true=>have:=hV.ord h 2 (by decide);rw[hl]at this;cases this
   have HV:=Za hV;have HD:=Za hd;have HL:=Za hl;refine Az _ rfl rfl (fun K' hK=>?_)
   conv=>arg 2;whnf
   go_wp2_with fail
   exact⟨z15,z54,z55,.pointer (some ⟨b6,1,none⟩),z57,z58,z59,z60,z61,z62,⟨hV.bel,(fun h j hj=>by rw[Ab L (show 10≠2 by decide)]at h;have:=hV.ord h 2 (by decide);rw[hl]at this;cases this),(fun h=>by rw[Ab L (show 4≠2 by decide)];exact hV.ap (uo h)),(fun h=>hV.c0 (uo h)),(fun h=>hV.c1 (uo h)),(fun _=>rfl),(fun h=>hV.c3 (uo h)),(fun h h7=>hV.c4 (uo h) (by rwa[Ab L (show 7≠2 by decide)]at h7)),(fun h=>hV.c5 (uo h)),(fun h=>hV.c6 (uo h)),(fun h=>hV.c7 (uo h)),(fun h=>hV.c8 (uo h)),(fun h=>by rw[Ab L (show 7≠2 by decide)];exact hV.c87 (uo h)),(fun h=>by obtain⟨b,e1,e2,e3⟩:=hV.c9 (uo h);rw[Ab L (show 10≠2 by decide)];exact⟨b,e1,e2,e3⟩)⟩,rfl⟩
  ·have n10:L 10=false:=by
    cases h:L 10 with
    |false=>rfl
    |true=>have:=hV.ord h 3 (by decide);rw[hl]at this;cases this
   have d2:L 2=true:=hd _ rfl ⟨2,.data⟩ (by simp) rfl;obtain rfl:=hV.c2 d2;have ho6:=h6.old hV.bel;have x60:=ho6.at 0 _ rfl;have x61:=ho6.at 1 _ rfl;have HV:=Za hV;have HD:=Za hd;have HL:=Za hl;refine Az _ rfl rfl (fun K' hK=>?_)
   conv=>arg 2;whnf
   go_wp2_with fail
   exact⟨z15,z54,z55,.pointer (some ⟨b6,1,none⟩),.slice (some ⟨gf,0,none⟩) ds.length cf,z58,z59,z60,z61,z62,⟨hV.bel,(fun h j hj=>by rw[Ab L (show 10≠3 by decide)]at h;have:=hV.ord h 3 (by decide);rw[hl]at this;cases this),(fun h=>by rw[Ab L (show 4≠3 by decide)];exact hV.ap (uo h)),(fun h=>hV.c0 (uo h)),(fun h=>hV.c1 (uo h)),(fun h=>hV.c2 (uo h)),(fun _=>rfl),(fun h h7=>hV.c4 (uo h) (by rwa[Ab L (show 7≠3 by decide)]at h7)),(fun h=>hV.c5 (uo h)),(fun h=>hV.c6 (uo h)),(fun h=>hV.c7 (uo h)),(fun h=>hV.c8 (uo h)),(fun h=>by rw[Ab L (show 7≠3 by decide)];exact hV.c87 (uo h)),(fun h=>by obtain⟨b,e1,e2,e3⟩:=hV.c9 (uo h);rw[Ab L (show 10≠3 by decide)];exact⟨b,e1,e2,e3⟩)⟩,rfl⟩
  ·have n10:L 10=false:=by
    cases h:L 10 with
    |false=>rfl
    |true=>have:=hV.ord h 4 (by decide);rw[hl]at this;cases this
   have d3:L 3=true:=hd _ rfl ⟨3,.data⟩ (by simp) rfl;obtain rfl:=hV.c3 d3;have n7:L 7=false:=by
    cases h:L 7 with
    |false=>rfl
    |true=>have:=hV.ap h;rw[hl]at this;cases this
   have HV:=Za hV;have HD:=Za hd;have HL:=Za hl;refine Az _ rfl rfl (fun K' hK=>?_)
   conv=>arg 2;whnf
   refine wp_append_lies (P:=Zh) wx _ _ 32 rfl W.heap.size 58 i0 _ 4 88 underlying32 HI0.o HZ0.o HZ1.o HZ2.o rfl (by decide) (.slice none 0 0) 0 [] rfl ⟨rfl,.inl ⟨rfl,rfl⟩⟩ ⟨gf,0,none⟩ ds.length _ (ds.flatMap Ci) rfl (Wp Ci 4 (fun _=>rfl) _) (fun j u hu=>Ac hV.bel (World.ownsRow.cells HF.o.1 (g:=gf) rfl j u hu)) (lG HF.o) hn (by unfold maxLen;omega) (by omega) hV.bel.size _ rfl ?_;intro g2 cap2 w2 hr2 hg2 ha2 hl2;rw[List.nil_append,Nat.zero_add]at hr2;have hnb:∀b cs,Ae wx b cs 34→(Value.slice none 0 0).ownBlock≠some b:=fun b cs _ e=>by cases e
   have hbel:Below W.heap.size W w2:=hV.bel.grown hg2 hV.bel.size (fun k e=>by cases e);go_wp2_with fail
   exact⟨z15,z54,z55,z56,.slice (some ⟨gf,0,none⟩) ds.length cf,.slice (some ⟨g2,0,none⟩) ds.length cap2,z59,z60,z61,z62,⟨hbel,(fun h j hj=>by rw[Ab L (show 10≠4 by decide)]at h;have:=hV.ord h 4 (by decide);rw[hl]at this;cases this),(fun _=>by rw[Ba]),(fun h=>hV.c0 (uo h)),(fun h=>hV.c1 (uo h)),(fun h=>hV.c2 (uo h)),(fun h=>hV.c3 (uo h)),(fun _ _=>hr2),(fun h=>hV.c5 (uo h)),(fun h=>hV.c6 (uo h)),(fun h=>by rw[Ab L (show 7≠4 by decide),n7]at h;cases h),(fun h=>hV.c8 (uo h)),(fun h=>by rw[Ab L (show 7≠4 by decide)];exact hV.c87 (uo h)),(fun h=>by obtain⟨b,e1,e2,e3⟩:=hV.c9 (uo h);rw[Ab L (show 10≠4 by decide)];exact⟨b,e1,e2,e3.low (hg2.block b e3.lt (fun e=>hnb b _ e3 e.symm))⟩)⟩,rfl⟩
  ·have n10:L 10=false:=by
    cases h:L 10 with
    |false=>rfl
    |true=>have:=hV.ord h 5 (by decide);rw[hl]at this;cases this
   have HV:=Za hV;have HD:=Za hd;have HL:=Za hl;refine Az _ rfl rfl (fun K' hK=>?_)
   conv=>arg 2;whnf
   go_wp2_with fail
   exact⟨z15,z54,z55,z56,z57,z58,.pointer (some ⟨b7,1,none⟩),z60,z61,z62,⟨hV.bel,(fun h j hj=>by rw[Ab L (show 10≠5 by decide)]at h;have:=hV.ord h 5 (by decide);rw[hl]at this;cases this),(fun h=>by rw[Ab L (show 4≠5 by decide)];exact hV.ap (uo h)),(fun h=>hV.c0 (uo h)),(fun h=>hV.c1 (uo h)),(fun h=>hV.c2 (uo h)),(fun h=>hV.c3 (uo h)),(fun h h7=>hV.c4 (uo h) (by rwa[Ab L (show 7≠5 by decide)]at h7)),(fun _=>rfl),(fun h=>hV.c6 (uo h)),(fun h=>hV.c7 (uo h)),(fun h=>hV.c8 (uo h)),(fun h=>by rw[Ab L (show 7≠5 by decide)];exact hV.c87 (uo h)),(fun h=>by obtain⟨b,e1,e2,e3⟩:=hV.c9 (uo h);rw[Ab L (show 10≠5 by decide)];exact⟨b,e1,e2,e3⟩)⟩,rfl⟩
  ·have n10:L 10=false:=by
    cases h:L 10 with
    |false=>rfl
    |true=>have:=hV.ord h 6 (by decide);rw[hl]at this;cases this
   have d5:L 5=true:=hd _ rfl ⟨5,.data⟩ (by simp) rfl;obtain rfl:=hV.c5 d5;have ho7:=h7.old hV.bel;have x70:=ho7.at 0 _ rfl;have x71:=ho7.at 1 _ rfl;have HV:=Za hV;have HD:=Za hd;have HL:=Za hl;refine Az _ rfl rfl (fun K' hK=>?_)
   conv=>arg 2;whnf
   go_wp2_with fail
   exact⟨z15,z54,z55,z56,z57,z58,.pointer (some ⟨b7,1,none⟩),.slice (some ⟨gg,0,none⟩) es.length cg,z61,z62,⟨hV.bel,(fun h j hj=>by rw[Ab L (show 10≠6 by decide)]at h;have:=hV.ord h 6 (by decide);rw[hl]at this;cases this),(fun h=>by rw[Ab L (show 4≠6 by decide)];exact hV.ap (uo h)),(fun h=>hV.c0 (uo h)),(fun h=>hV.c1 (uo h)),(fun h=>hV.c2 (uo h)),(fun h=>hV.c3 (uo h)),(fun h h7=>hV.c4 (uo h) (by rwa[Ab L (show 7≠6 by decide)]at h7)),(fun h=>hV.c5 (uo h)),(fun _=>rfl),(fun h=>hV.c7 (uo h)),(fun h=>hV.c8 (uo h)),(fun h=>by rw[Ab L (show 7≠6 by decide)];exact hV.c87 (uo h)),(fun h=>by obtain⟨b,e1,e2,e3⟩:=hV.c9 (uo h);rw[Ab L (show 10≠6 by decide)];exact⟨b,e1,e2,e3⟩)⟩,rfl⟩
  ·have n10:L 10=false:=by
    cases h:L 10 with
    |false=>rfl
    |true=>have:=hV.ord h 7 (by decide);rw[hl]at this;cases this
   have d4:L 4=true:=hd _ rfl ⟨4,.data⟩ (by simp) rfl;have d6:L 6=true:=hd _ rfl ⟨6,.data⟩ (by simp) rfl;obtain rfl:=hV.c6 d6;have hr1:=hV.c4 d4 hl;have n8:L 8=false:=by
    cases h:L 8 with
    |false=>rfl
    |true=>exact absurd (hV.c87 h) (by rw[hl];decide)
   have HV:=Za hV;have HD:=Za hd;have HL:=Za hl;refine Az _ rfl rfl (fun K' hK=>?_)
   conv=>arg 2;whnf
   refine wp_append_lies (P:=Zh) wx _ _ 32 rfl W.heap.size 58 i0 _ 4 88 underlying32 HI0.o HZ0.o HZ1.o HZ2.o rfl (by decide) z58 ds.length (ds.flatMap Ci) rfl hr1 ⟨gg,0,none⟩ es.length _ (es.flatMap Ci) rfl (Wp Ci 4 (fun _=>rfl) _) (fun j u hu=>Ac hV.bel (World.ownsRow.cells HG.o.1 (g:=gg) rfl j u hu)) (lG HG.o) hm (by unfold maxLen;omega) (by omega) hV.bel.size _ rfl ?_;intro g2 cap2 w2 hr2 hg2 ha2 hl2;have hnb:∀b cs,Ae wx b cs 34→z58.ownBlock≠some b:=fun b cs ho=>gL hr1 ho (by decide)
   have hbel:Below W.heap.size W w2:=hV.bel.grown hg2 hV.bel.size (fun k e=>(World.ownsRow.lt hr1 k e).1);go_wp2_with fail
   exact⟨z15,z54,z55,z56,z57,z58,z59,.slice (some ⟨gg,0,none⟩) es.length cg,.slice (some ⟨g2,0,none⟩) (ds.length+es.length) cap2,z62,⟨hbel,(fun h j hj=>by rw[Ab L (show 10≠7 by decide)]at h;have:=hV.ord h 7 (by decide);rw[hl]at this;cases this),(fun _=>by rw[Ab L (show 4≠7 by decide)];exact d4),(fun h=>hV.c0 (uo h)),(fun h=>hV.c1 (uo h)),(fun h=>hV.c2 (uo h)),(fun h=>hV.c3 (uo h)),(fun _ h7=>by rw[Ba]at h7;cases h7),(fun h=>hV.c5 (uo h)),(fun h=>hV.c6 (uo h)),(fun _=>hr2),(fun h=>by rw[Ab L (show 8≠7 by decide),n8]at h;cases h),(fun _=>by rw[Ba];decide),(fun h=>by obtain⟨b,e1,e2,e3⟩:=hV.c9 (uo h);rw[n10,if_neg (by decide)]at e3;rw[Ab L (show 10≠7 by decide),n10,if_neg (by decide)];exact⟨b,e1,e2,e3.low (hg2.block b e3.lt (fun e=>hnb b _ e3 e.symm))⟩)⟩,rfl⟩
  ·have n10:L 10=false:=by
    cases h:L 10 with
    |false=>rfl
    |true=>have:=hV.ord h 8 (by decide);rw[hl]at this;cases this
   have d1:L 1=true:=hd _ rfl ⟨1,.data⟩ (by simp) rfl;have d7:L 7=true:=hd _ rfl ⟨7,.data⟩ (by simp) rfl;obtain rfl:=hV.c1 d1;have hr7:=hV.c7 d7;obtain⟨ra,rk,rc,rfl⟩:=Pg hr7;have HV:=Za hV;have HD:=Za hd;have HL:=Za hl;refine Az _ rfl rfl (fun K' hK=>?_)
   conv=>arg 2;whnf
   go_wp2_with fail
   exact⟨z15,z54,.slice va1 va2 va3,z56,z57,z58,z59,z60,.slice ra rk rc,.agg #[.slice va1 va2 va3,.slice ra rk rc],⟨hV.bel,(fun h j hj=>by rw[Ab L (show 10≠8 by decide)]at h;have:=hV.ord h 8 (by decide);rw[hl]at this;cases this),(fun h=>by rw[Ab L (show 4≠8 by decide)];exact hV.ap (uo h)),(fun h=>hV.c0 (uo h)),(fun h=>hV.c1 (uo h)),(fun h=>hV.c2 (uo h)),(fun h=>hV.c3 (uo h)),(fun h h7=>hV.c4 (uo h) (by rwa[Ab L (show 7≠8 by decide)]at h7)),(fun h=>hV.c5 (uo h)),(fun h=>hV.c6 (uo h)),(fun h=>hV.c7 (uo h)),(fun _=>rfl),(fun _=>by rw[Ab L (show 7≠8 by decide),d7];decide),(fun h=>by obtain⟨b,e1,e2,e3⟩:=hV.c9 (uo h);rw[Ab L (show 10≠8 by decide)];exact⟨b,e1,e2,e3⟩)⟩,rfl⟩
  ·have n10:L 10=false:=by
    cases h:L 10 with
    |false=>rfl
    |true=>have:=hV.ord h 9 (by decide);rw[hl]at this;cases this
   have hal:Below wx.heap.size wx (wx.alloc (.cells #[.slice none 0 0,.slice none 0 0] 34)):=bA;have HV:=Za hV;have HD:=Za hd;have HL:=Za hl;refine Az _ rfl rfl (fun K' hK=>?_)
   conv=>arg 2;whnf
   go_wp2_with fail
   exact⟨.pointer (some ⟨wx.heap.size,0,none⟩),z54,z55,z56,z57,z58,z59,z60,z61,z62,⟨hV.bel.trans (hal.mono hV.bel.size),(fun h j hj=>by rw[Ab L (show 10≠9 by decide)]at h;have:=hV.ord h 9 (by decide);rw[hl]at this;cases this),(fun h=>by rw[Ab L (show 4≠9 by decide)];exact hV.ap (uo h)),(fun h=>hV.c0 (uo h)),(fun h=>hV.c1 (uo h)),(fun h=>hV.c2 (uo h)),(fun h=>hV.c3 (uo h)),(fun h h7=>Gi (hV.c4 (uo h) (by rwa[Ab L (show 7≠9 by decide)]at h7)) (D:=fun _=>True) (fun _ _=>trivial) (Bj.below hal)),(fun h=>hV.c5 (uo h)),(fun h=>hV.c6 (uo h)),(fun h=>Gi (hV.c7 (uo h)) (D:=fun _=>True) (fun _ _=>trivial) (Bj.below hal)),(fun h=>hV.c8 (uo h)),(fun h=>by rw[Ab L (show 7≠9 by decide)];exact hV.c87 (uo h)),(fun _=>⟨wx.heap.size,rfl,hV.bel.size,by rw[Ab L (show 10≠9 by decide),n10];exact Ae.new wx [.slice none 0 0,.slice none 0 0] _⟩)⟩,rfl⟩
  ·have n10:=hl
   have d9:L 9=true:=hd _ rfl ⟨9,.data⟩ (by simp) rfl;have d8:L 8=true:=hd _ rfl ⟨8,.data⟩ (by simp) rfl;obtain⟨b,rfl,hb,ho⟩:=hV.c9 d9;rw[n10,if_neg (by decide)]at ho;obtain rfl:=hV.c8 d8;have before:∀j,j<10→L j=true:=fun j hj=>by
    have hj:j=0∨j=1∨j=2∨j=3∨j=4∨j=5∨j=6∨j=7∨j=8∨j=9:=by omega
    rcases hj with rfl|rfl|rfl|rfl|rfl|rfl|rfl|rfl|rfl|rfl
    ·exact hd _ rfl ⟨0,.phase⟩ (by simp) rfl
    ·exact hd _ rfl ⟨1,.phase⟩ (by simp) rfl
    ·exact hd _ rfl ⟨2,.phase⟩ (by simp) rfl
    ·exact hd _ rfl ⟨3,.phase⟩ (by simp) rfl
    ·exact hd _ rfl ⟨4,.phase⟩ (by simp) rfl
    ·exact hd _ rfl ⟨5,.phase⟩ (by simp) rfl
    ·exact hd _ rfl ⟨6,.phase⟩ (by simp) rfl
    ·exact hd _ rfl ⟨7,.phase⟩ (by simp) rfl
    ·exact hd _ rfl ⟨8,.data⟩ (by simp) rfl
    ·exact hd _ rfl ⟨9,.data⟩ (by simp) rfl
   have hr7:=hV.c7 (before 7 (by decide));obtain⟨ra,rk,rc,rfl⟩:=Pg hr7;have hx0:=ho.at 0 _ rfl;have hx1:=ho.at 1 _ rfl;have fx0:=ho.fz 0;have fx1:=ho.fz 1;have hbl:=ho.lt;have hnr:=gL hr7 ho (by decide);have HV:=Za hV;have HD:=Za hd;have HL:=Za hl;refine Az _ rfl rfl (fun K' hK=>?_)
   conv=>arg 2;whnf
   go_wp2_with fail
   exact⟨.pointer (some ⟨b,0,none⟩),z54,z55,z56,z57,z58,z59,z60,.slice ra rk rc,.agg #[.slice va1 va2 va3,.slice ra rk rc],⟨((hV.bel.setCell (p:=⟨b,0,none⟩) hb (.slice va1 va2 va3)).setCell (p:=⟨b,1,none⟩) hb (.slice ra rk rc)),(fun _ j hj=>by rw[Ab L (show j≠10 by omega)];exact before j hj),(fun h=>by rw[Ab L (show 4≠10 by decide)];exact hV.ap (uo h)),(fun h=>hV.c0 (uo h)),(fun h=>hV.c1 (uo h)),(fun h=>hV.c2 (uo h)),(fun h=>hV.c3 (uo h)),(fun _ h7=>by rw[Ab L (show 7≠10 by decide),before 7 (by decide)]at h7;cases h7),(fun h=>hV.c5 (uo h)),(fun h=>hV.c6 (uo h)),(fun _=>Gi (Gi hr7 (D:=(· ≠b)) (fun k e=>by rintro rfl;exact hnr e) (Bj.set wx (fun h=>h rfl) 0 (.slice va1 va2 va3))) (D:=(· ≠b)) (fun k e=>by rintro rfl;exact hnr e) (Bj.set _ (fun h=>h rfl) 1 (.slice ra rk rc))),(fun h=>hV.c8 (uo h)),(fun h=>by rw[Ab L (show 7≠10 by decide)];exact hV.c87 (uo h)),(fun _=>⟨b,rfl,hb,by rw[Ba,if_pos rfl];exact(ho.set 0 (.slice va1 va2 va3)).set 1 (.slice ra rk rc)⟩)⟩,rfl⟩
 ·intro L act wx hI hall
  obtain⟨z15,z54,z55,z56,z57,z58,z59,z60,z61,z62,hV,rfl⟩:=hI;obtain⟨b,e1,e2,e3⟩:=hV.c9 (hall 9 (by decide));rw[if_pos (hall 10 (by decide))]at e3;exact hM _ _ (Met.intro (hJ _ _ ⟨z15,z54,z55,z56,z57,z58,z59,z60,z61,z62,⟨b,z61,e1,e2,e3,hV.c7 (hall 7 (by decide)),hV.bel⟩,rfl⟩))
theorem As.n64 {D:Nat→Prop}{w:World}{l:List St}{v:Value}(h:As D w l v):∀x,x∈l→cB x:=by
 induction h with
 |mk l a cap b off sa st se hcap hfit ha h0 h1 h2 h3 h4 ea et ee ih1 ih2=>
  intro x hx;obtain⟨i,hi,rfl⟩:=List.getElem_of_mem hx;have e:Ho l i=l[i]:=by simp [Ho,Zs hi]
  have k1:=(ea i hi).n64;have k2:=ih1 i hi;have k3:=ih2 i hi;rw[e]at k1 k2 k3;generalize l[i]=y at k1 k2 k3;obtain⟨k,nm,args,thn,els⟩:=y;exact .mk k nm args thn els k1 k2 k3
theorem Bp.n64 {D:Nat→Prop}{w:World}{l:List Fu}{v:Value}(h:Bp D w l v):∀g,g∈l→∀x,x∈g.body→cB x:=by
 obtain⟨a,cap,b,off,pv,lv,bv,hv,h1,h2,h3,h4⟩:=h;intro g hg;obtain⟨i,hi,rfl⟩:=List.getElem_of_mem hg;have e:Dx l i=l[i]:=by simp [Dx,Zs hi]
 have:=(h4 i hi).2.2.2.n64;rw[e]at this;exact this
def awP:List It:=[⟨[105,110,116],2,0,[32],[]⟩,⟨[109,97,105,110],1,0,[],[]⟩,⟨[40],4,0,[],[]⟩,⟨[41],4,0,[32],[]⟩,⟨[123],4,0,[32],[]⟩,⟨[112,114,105,110,116],2,0,[],[]⟩,⟨[40],4,0,[],[]⟩,⟨[49],3,1,[32],[]⟩,⟨[43],4,0,[32],[]⟩,⟨[50],3,2,[32],[]⟩,⟨[42],4,0,[32],[]⟩,⟨[51],3,3,[],[]⟩,⟨[41],4,0,[],[]⟩,⟨[59],4,0,[32],[]⟩,⟨[125],4,0,[],[]⟩]
def awQ:List It:=[⟨[105,110,116],2,0,[32],[]⟩,⟨[109,97,105,110],1,0,[],[]⟩,⟨[40],4,0,[],[]⟩,⟨[41],4,0,[32],[]⟩,⟨[123],4,0,[10],[]⟩]
def awX:List It:=[⟨[97],1,0,[32],[]⟩,⟨[45],4,0,[32],[]⟩,⟨[98],1,0,[32],[]⟩,⟨[45],4,0,[32],[]⟩,⟨[99],1,0,[],[]⟩]
theorem awP_ok:nF [] awP=true:=by kernel_rfl
theorem awQ_ok:nF [] awQ=true:=by kernel_rfl
theorem awX_ok:nF [] awX=true:=by kernel_rfl
theorem aw_p(w:World)(hl:Iz w):
  Calls Zh 14 #[.string ⟨#[105,110,116,32,109,97,105,110,40,41,32,123,32,112,114,105,110,116,40,49,32,43,32,50,32,42,32,51,41,59,32,125]⟩] w fun e w'=>
   Below w.heap.size w w'∧∃aa an ac b off cap b2 o2 c2,e=.returned (.tuple #[.agg #[.slice aa an ac,.slice (some ⟨b,off,none⟩) 1 cap],.int .i64 0,.int .i64 0])∧w'.cell? ⟨b,off+3,none⟩=some (.slice (some ⟨b2,o2,none⟩) 1 c2)∧w'.cell? ⟨b2,o2,none⟩=some (.int .i64 8)∧1≤cap∧1≤c2:=by
 obtain⟨h1,h2⟩:=Us [] awP awP_ok;refine(Pn [] [] Ox awP h1 h2 (by decide) (by decide) 100 (by decide) w hl).mono ?_;intro e w' hp;obtain⟨hb,v,he,av,fv,hv,hxa,hxf⟩:=hp;have e1:(Ou (Sd (Eb 100 ⟨[],[]⟩ (Ds (1+Be (An [] [])) awP)))).2.1=0:=by kernel_rfl
 have e2:(Ou (Sd (Eb 100 ⟨[],[]⟩ (Ds (1+Be (An [] [])) awP)))).2.2=0:=by kernel_rfl
 have e3:(Ou (Sd (Eb 100 ⟨[],[]⟩ (Ds (1+Be (An [] [])) awP)))).1.funcs.length=1:=by kernel_rfl
 have e4:(Dx (Ou (Sd (Eb 100 ⟨[],[]⟩ (Ds (1+Be (An [] [])) awP)))).1.funcs 0).body.length=1:=by kernel_rfl
 have e5:(Ho (Dx (Ou (Sd (Eb 100 ⟨[],[]⟩ (Ds (1+Be (An [] [])) awP)))).1.funcs 0).body 0).kind=8:=by kernel_rfl
 generalize Ou (Sd (Eb 100 ⟨[],[]⟩ (Ds (1+Be (An [] [])) awP)))=R at*;obtain⟨a,cap,b,off,pv,lv,bv,rfl,hc,_,hz,hall⟩:=hxf;rw[e3]at hc hz hall;obtain⟨⟨_,_,_,g3⟩,_,_,hst⟩:=hall 0 (by decide);obtain⟨a2,c2,hs2⟩:=hst.shape;rw[hs2]at hst g3;rcases hz with hz|⟨rfl,_⟩
 ·omega
 have hq:∃b2 o2,a2=some ⟨b2,o2,none⟩∧w'.cell? ⟨b2,o2,none⟩=some (.int .i64 8)∧1≤c2:=by
  rw[←e5]
  cases hst with
  |mk _ _ _ b2 o2 sa st se hcap hfit ha h0=>
   rcases ha with ha|⟨ha,_⟩
   ·omega
   ·exact⟨b2,o2,ha,by simpa using h0 0 (by omega),by omega⟩
 obtain⟨b2,o2,rfl,hk,hc2⟩:=hq;rw[e4]at g3;obtain⟨aa,an,ac,rfl⟩:∃a n c,av=Value.slice a n c:=by obtain⟨a,c,h⟩:=hxa.yshape;exact⟨a,_,c,h⟩
 refine⟨hb,aa,an,ac,b,off,cap,b2,o2,c2,?_,by simpa using g3,hk,hc,hc2⟩;rw[he,hv,e1,e2,e3]
theorem aw_q(w:World)(hl:Iz w):
  Calls Zh 14 #[.string ⟨#[105,110,116,32,109,97,105,110,40,41,32,123,10]⟩] w fun e w'=>
   Below w.heap.size w w'∧∃aa an ac fa fn fc,e=.returned (.tuple #[.agg #[.slice aa an ac,.slice fa fn fc],.int .i64 40,.int .i64 2]):=by
 obtain⟨h1,h2⟩:=Us [] awQ awQ_ok;refine(Pn [] [] Ox awQ h1 h2 (by decide) (by decide) 100 (by decide) w hl).mono ?_;intro e w' hp;obtain⟨hb,v,he,av,fv,hv,hxa,hxf⟩:=hp;obtain⟨aa,an,ac,rfl⟩:∃a n c,av=Value.slice a n c:=by obtain⟨a,c,h⟩:=hxa.yshape;exact⟨a,_,c,h⟩
 obtain⟨fa,fn,fc,rfl⟩:∃a n c,fv=Value.slice a n c:=by obtain⟨a,c,h⟩:=hxf.yshape;exact⟨a,_,c,h⟩
 refine⟨hb,aa,an,ac,fa,fn,fc,?_⟩;rw[he,hv];rfl
theorem aw_x(w:World)(hl:Iz w):
  Calls Zh 13 #[.string ⟨#[97,32,45,32,98,32,45,32,99]⟩] w fun e w'=>
   Below w.heap.size w w'∧∃k o n s b off cap,e=.returned (.tuple #[.agg #[.int .i64 k,.int .i64 o,.int .i64 n,.string s,.slice (some ⟨b,off,none⟩) 2 cap],.int .i64 0,.int .i64 0])∧w'.cell? ⟨b,off+8,none⟩=some (.string ⟨#[99]⟩):=by
 obtain⟨h1,h2⟩:=Us [] awX awX_ok;refine(sW [] [] Ox awX h1 h2 (by decide) (by decide) 100 (by decide) w hl).mono ?_;intro e w' hp;obtain⟨hb,v,he,s,hv,hx,hn⟩:=hp;have e1:(Td (bK (Bg 100 1 (Ds (1+Be (An [] [])) awX)))).2.1=0:=by kernel_rfl
 have e2:(Td (bK (Bg 100 1 (Ds (1+Be (An [] [])) awX)))).2.2=0:=by kernel_rfl
 have e3:(Td (bK (Bg 100 1 (Ds (1+Be (An [] [])) awX)))).1.args.length=2:=by kernel_rfl
 have e4:(Ca (Td (bK (Bg 100 1 (Ds (1+Be (An [] [])) awX)))).1.args 1).name=[99]:=by kernel_rfl
 generalize Td (bK (Bg 100 1 (Ds (1+Be (An [] [])) awX)))=R at*;obtain⟨a,cap,rfl⟩:=hx.shape;obtain⟨b,off,s2,rfl,_,_,_,_,h4,_⟩:=hx.cellAt 1 (by omega);rw[e4]at h4;refine⟨hb,R.1.kind,R.1.op,R.1.n,Aa R.1.name,b,off,cap,?_,h4⟩;rw[he,hv,e1,e2,e3]
theorem jW(w:World)(hl:Iz w):
  Calls Zh 11 #[] w fun e w'=>e=.returned (.bool true)∧Below w.heap.size w w':=by
 have HL:=Za hl;clear hl;go_enter func11,ntmps11
 go_wp2_with fail
 refine(aw_p w HL.o).mono ?_;rintro e w1 ⟨hb1,aa,an,ac,b,off,cap,b2,o2,c2,rfl,h3,hk,hc,hc2⟩;have hal:Below w1.heap.size w1 (w1.alloc (.cells #[.slice aa an ac,.slice (some ⟨b,off,none⟩) 1 cap] 34)):=bA;have HO:=Za (Ae.new w1 [.slice aa an ac,.slice (some ⟨b,off,none⟩) 1 cap] 34);have HL1:=Za ((HL.o.old hb1).old hal);have HB1:=Za (hb1.trans (hal.mono hb1.size));have H3:=Za (Ac hal h3);have HK:=Za (Ac hal hk);clear hb1 h3 hk hal;go_upto_region 2 with(fail)
 generalize w1.alloc (.cells #[.slice aa an ac,.slice (some ⟨b,off,none⟩) 1 cap] 34)=w2 at*;obtain⟨pb,hpb⟩:∃pb,w1.heap.size=pb:=⟨_,rfl⟩;rw[hpb]at HO ⊢;clear hpb;go_wp2_with fail
 refine(aw_q w2 HL1.o).mono ?_;rintro e w3 ⟨hb3,a3,n3,d3,f3,m3,e3,rfl⟩;have hal:Below w3.heap.size w3 (w3.alloc (.cells #[.slice a3 n3 d3,.slice f3 m3 e3] 34)):=bA;have HO3:=Za ((HO.o.old hb3).old hal);have HL3:=Za ((HL1.o.old hb3).old hal);have HB3:=Za (HB1.o.trans ((hb3.trans (hal.mono hb3.size)).mono HB1.o.size));have H33:=Za (Ac hal (Ac hb3 H3.o));have HK3:=Za (Ac hal (Ac hb3 HK.o));clear hb3 hal HO HL1 HB1 H3 HK;go_upto_region 3 with(fail)
 generalize w3.alloc (.cells #[.slice a3 n3 d3,.slice f3 m3 e3] 34)=w4 at*;go_wp2_with fail
 refine(aw_x w4 HL3.o).mono ?_;rintro e w5 ⟨hb5,k,o,n,s,b5,off5,cap5,rfl,h5⟩;have hal:Below w5.heap.size w5 (w5.alloc (.cells #[.int .i64 k,.int .i64 o,.int .i64 n,.string s,.slice (some ⟨b5,off5,none⟩) 2 cap5] 27)):=bA;have HO5:=Za ((HO3.o.old hb5).old hal);have HX5:=Za (Ae.new w5 [.int .i64 k,.int .i64 o,.int .i64 n,.string s,.slice (some ⟨b5,off5,none⟩) 2 cap5] 27);have HB5:=Za (HB3.o.trans ((hb5.trans (hal.mono hb5.size)).mono HB3.o.size));have H35:=Za (Ac hal (Ac hb5 H33.o));have HK5:=Za (Ac hal (Ac hb5 HK3.o));have H85:=Za (Ac hal h5);clear hb5 hal HO3 HL3 HB3 H33 HK3 h5;go_upto_region 4 with(fail)
 generalize w5.alloc (.cells #[.int .i64 k,.int .i64 o,.int .i64 n,.string s,.slice (some ⟨b5,off5,none⟩) 2 cap5] 27)=w6 at*;obtain⟨xb,hxb⟩:∃xb,w5.heap.size=xb:=⟨_,rfl⟩;rw[hxb]at HX5 ⊢;clear hxb;have p1:=HO5.o.at 1 _ rfl;have q4:=HX5.o.at 4 _ rfl;have c3:=H35.o;have ck:=HK5.o;have c8:=H85.o;have hcI:(1:Int)≤(cap:Int):=by omega
 go_wp2_with fail
 go_ret
 exact⟨rfl,HB5.o⟩
end Go.Proofs.YtcfpfnoldgnloaaGreatDoor

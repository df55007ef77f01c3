/-
  Pieces as tokens with blanks behind them: the text, what Scan gives, what may stand beside what. No condition.
-/
import Derived.Test.YtfhbinbjkpfedaaGreatDoorNTs10
set_option linter.unusedVariables false
set_option linter.unusedSimpArgs false
namespace Go.Proofs.YtfhbinbjkpfedaaGreatDoor
open Go.RowKit Go.Proofs.Tryz
set_option maxHeartbeats 20000000
set_option maxRecDepth 100000
open List renaming mem_cons_self→Za,mem_cons_of_mem→Zc,append_assoc→Zd,length_append→Ze,length_cons→Zf,cons_append→Zh,all_eq_true→Zk,nil_append→Zl,append_nil→Zo,flatMap_cons→Zq,length_nil→Zr,getD_eq_getElem?_getD→Zs,take_succ_cons→Zt,length_eq_one_iff→Zu,getElem?_eq_getElem→Zv
open Bool renaming and_eq_true→Zb
open Go.Lib renaming decDigits→Zg,itoa→Zi,hid→Zj,hasPrefix→Zm,nDigits→Zp
open Nat renaming zero_le→Zn
def Mr(r:Int):Bool:=Em r||Fn r
theorem Qy(c:UInt8):Mr (c.toNat:Nat)=Ga c:=by unfold Mr Ga;rw[Io,Ik]
def Ay(b0:Bs)(l:List (Bs ×Bs)):Bs:=b0++l.flatMap (fun p=>p.1++p.2)
structure kC (c:Bs):Prop where
 pre:∃r,c=47::47::r
 nofeed:(10:UInt8) ∉ c
 valid:Lib.validD c=true
 mark:Lib.contains c [239,191,189]=false
structure Rk (b0:Bs)(l:List (Bs ×Bs)):Prop where
 blank:∀c,c∈b0→Av c=true
 comm:∀p,p∈l→kC p.1∧(∀c,c∈p.2→Av c=true)∧∃r,p.2=10::r
theorem Bd(a b:Bs):Az (a++b)=Az a+Az b:=List.count_append
theorem Mw(c:Bs)(h:(10:UInt8) ∉ c):Az c=0:=List.count_eq_zero.2 h
theorem iD(l:Bs):Az l≤l.length:=List.count_le_length
def Front(r:Bs):Prop:=(r=[]∨∃c t,r=c::t∧Av c=false)∧Zm r [47,47]=false
theorem Qp:∀(l:List (Bs ×Bs)) (b r:Bs) (f:Nat),Rk b l→l.length<f→Front r→Ee f (Ay b l++r)=(r,Az (Ay b l),true)
 |l,b,r,0,hg,hf,hr=>absurd hf (Nat.not_lt_zero _)
 |[],b,r,f+1,hg,hf,hr=>by
  have e:Ay b []=b:=by unfold Ay;simp
  obtain⟨h1,h2⟩:=Lk Av b r hg.blank hr.1;rw[e,Ee,h1,h2,if_neg (by rw[hr.2];decide)]
 |(c,b2)::l,b,r,f+1,hg,hf,hr=>by
  obtain⟨hco,hb2,b3,hb3⟩:=hg.comm _ Za;have hb3:b2=10::b3:=hb3;have hco:kC c:=hco;have hb2:∀c,c∈b2→Av c=true:=hb2;obtain⟨c3,hc3⟩:=hco.pre;have ih:=Qp l b2 r f ⟨hb2,fun p hp=>hg.comm p (Zc _ hp)⟩ (by rw[Zf]at hf;omega) hr;have e1:Ay b ((c,b2)::l)=b++(c++Ay b2 l):=by unfold Ay;simp
  have e2:Ay b ((c,b2)::l)++r=b++(c++(Ay b2 l++r)):=by rw[e1];simp
  have e3:∃t,Ay b2 l++r=10::t:=⟨b3++(l.flatMap (fun p=>p.1++p.2)++r),by unfold Ay;rw[hb3];simp⟩;obtain⟨t,e3⟩:=e3;obtain⟨h1,h2⟩:=Lk Av b (c++(Ay b2 l++r)) hg.blank (.inr ⟨47,47::(c3++(Ay b2 l++r)),by rw[hc3];rfl,by decide⟩);have hcm:Fe (c++(Ay b2 l++r))=c:=by
   rw[Rt,e3];exact(Lk (fun c=>c !=10) c (10::t) (fun x hx=>by
    have:x≠10:=fun e=>hco.nofeed (by rw[←e];exact hx)
    simpa using this) (.inr ⟨10,t,rfl,by decide⟩)).1
  have hcb:Qx (c++(Ay b2 l++r))=true:=by unfold Qx;rw[hcm,hco.valid,hco.mark];rfl
  have hpre:Zm (c++(Ay b2 l++r)) [47,47]=true:=by rw[hc3];simp [Zm]
  rw[e2,Ee,h1,h2,if_pos hpre,if_pos hcb,hcm,List.drop_left,ih,e1,Bd,Bd,Mw c hco.nofeed,Nat.zero_add]
theorem Om:∀(l:List (Bs ×Bs)) (b:Bs),Rk b l→l.length≤(Ay b l).length
 |[],b,_=>Zn _
 |(c,b2)::l,b,hg=>by
  obtain⟨hco,hb2,_⟩:=hg.comm _ Za;obtain⟨c3,hc3⟩:=hco.pre;have hc3:c=47::47::c3:=hc3;have ih:=Om l b2 ⟨hb2,fun p hp=>hg.comm p (Zc _ hp)⟩;have e1:Ay b ((c,b2)::l)=b++(c++Ay b2 l):=by unfold Ay;simp
  rw[e1,hc3,Ze,Ze,Zf,Zf,Zf];omega
inductive Jr:Bs→Int→Int→Prop
 |name (x:Bs) (hx:Ah x=true) (hk:Ge x=false) (c:UInt8) (t:Bs) (hc:x=c::t) (hl:Bg c=true) (ha:∀c,c∈x→c.toNat<128∧Mr (c.toNat:Nat)=true):Jr x 1 0
 |word (x:Bs) (hk:Ge x=true) (c:UInt8) (t:Bs) (hc:x=c::t) (hl:Bg c=true) (ha:∀c,c∈x→c.toNat<128∧Mr (c.toNat:Nat)=true):Jr x 2 0
 |num (u:Nat) (hu:(Zg u).length≤19) (hi:u≤9223372036854775807) (c:UInt8) (t:Bs) (hc:Zg u=c::t) (hd:Bc c=true):Jr (Zg u) 3 u
 |quote (r:Nat) (x:Bs) (hr1:32≤r) (hr2:r≠39) (hr3:r≠92) (hr4:r≠65533) (hr5:r≤1114111) (hx:x.length≤4) (hd:∀rest,Lib.decodeGo (Aa (x++39::rest))=(r,x.length)):Jr (39::(x++[39])) 3 r
 |sign (x:Bs) (hs:Eb x=true) (c:UInt8) (t:Bs) (hc:x=c::t) (h7:c.toNat<128) (hn:Bg c=false∧Bc c=false∧c≠39):Jr x 4 0
theorem Ti {c:UInt8}(h:Bg c=true):c.toNat<128:=by
 simp [Bg,UInt8.le_iff_toNat_le]at h
 by_cases e:c=95
 ·rw[e];decide
 ·simp only[e,false_or,or_false]at h
  omega
theorem Rm {c:UInt8}(h:Bc c=true):c.toNat<128:=by
 simp [Bc,UInt8.le_iff_toNat_le]at h;omega
theorem Ll {c:UInt8}(h:Bg c=true):65≤c.toNat:=by
 simp [Bg,UInt8.le_iff_toNat_le]at h
 by_cases e:c=95
 ·rw[e];decide
 ·simp only[e,false_or,or_false]at h
  omega
theorem Wa {c:UInt8}(h:Bc c=true):48≤c.toNat:=by
 simp [Bc,UInt8.le_iff_toNat_le]at h;omega
theorem fN {c:UInt8}(h:33≤c.toNat):Av c=false:=by
 cases hq:Av c with
 |false=>rfl
 |true=>rw[←Pa]at hq;simp [Jj]at hq;omega
theorem bI {c:UInt8}(h:Bc c=true):Bg c=false:=by
 have h1:=Rm h
 cases hq:Bg c with
 |false=>rfl
 |true=>have h2:=Ll hq;simp [Bc,UInt8.le_iff_toNat_le]at h;omega
theorem Jr.head {x:Bs}{k n:Int}(h:Jr x k n):∃c t,x=c::t∧33≤c.toNat:=by
 cases h with
 |name x hx hk c t hc hl ha=>exact⟨c,t,hc,by have:=Ll hl;omega⟩
 |word x hk c t hc hl ha=>exact⟨c,t,hc,by have:=Ll hl;omega⟩
 |num u hu hi c t hc hd=>exact⟨c,t,hc,by have:=Wa hd;omega⟩
 |quote q y=>exact⟨39,_,rfl,by decide⟩
 |sign x hs c t hc h7 hn=>
  rcases Gq hs with rfl|rfl|rfl|rfl|rfl|rfl|rfl|rfl|rfl|rfl|rfl|rfl|rfl|rfl|rfl|rfl|rfl|rfl|rfl|rfl|rfl|rfl|rfl|rfl|rfl|rfl|rfl<;>exact⟨_,_,rfl,by decide⟩
theorem Jr.ne {x:Bs}{k n:Int}(h:Jr x k n):x≠[]:=by obtain⟨c,t,e,_⟩:=h.head;rw[e];exact List.cons_ne_nil _ _
def Lf(k:Int):Bs→Bool
 |[]=>true
 |c::_=>decide (c.toNat<128) && (if k=4 then !(c==61) && !(c==60) && !(c==62) && !(c==47)else if k=3 then !(Fn (c.toNat:Nat))else !(Mr (c.toNat:Nat)))
theorem Jr.noComm {x:Bs}{k n:Int}(h:Jr x k n){r:Bs}(hs:Lf k r=true):Zm (x++r) [47,47]=false:=by
 have key:∀(c:UInt8) (t:Bs),c≠47→Zm (c::t) [47,47]=false:=fun c t hc=>by
  have h1:((47:UInt8)==c)=false:=by rw[beq_eq_false_iff_ne];exact fun e=>hc e.symm
  show([47,47]:List UInt8).isPrefixOf (c::t)=false
  rw[List.isPrefixOf,h1];rfl
 cases h with
 |name x hx hk c t hc hl ha=>rw[hc,Zh];exact key _ _ (by rintro rfl;simp [Bg]at hl)
 |word x hk c t hc hl ha=>rw[hc,Zh];exact key _ _ (by rintro rfl;simp [Bg]at hl)
 |num u hu hi c t hc hd=>rw[hc,Zh];exact key _ _ (by rintro rfl;simp [Bc]at hd)
 |quote q y=>exact key 39 (y++[39]++r) (by decide)
 |sign x hs' c t hc h7 hn=>
  have key2:Zm ([47]++r) [47,47]=false:=by
   cases r with
   |nil=>rfl
   |cons b r=>
    have hne:b≠47:=by rintro rfl;simp [Lf]at hs
    have h1:((47:UInt8)==b)=false:=by rw[beq_eq_false_iff_ne];exact fun e=>hne e.symm
    show([47,47]:List UInt8).isPrefixOf (47::b::r)=false
    rw[List.isPrefixOf,List.isPrefixOf,h1];rfl
  rcases Gq hs' with rfl|rfl|rfl|rfl|rfl|rfl|rfl|rfl|rfl|rfl|rfl|rfl|rfl|rfl|rfl|rfl|rfl|rfl|rfl|rfl|rfl|rfl|rfl|rfl|rfl|rfl|rfl<;>first|exact key2|(rw[Zh];exact key _ _ (by decide))
theorem tokF_of {x:Bs}{k n:Int}(h:Jr x k n){r:Bs}(hs:Lf k r=true):Ko (x++r)=some (k,x,n):=by
 have hw:k=1∨k=2→r=[]∨∃c t,r=c::t∧Ga c=false:=by
  intro hk
  cases r with
  |nil=>exact .inl rfl
  |cons c r=>rcases hk with rfl|rfl<;>simp [Lf]at hs<;>exact .inr ⟨c,r,rfl,by rw[←Qy];exact hs.2⟩
 cases h with
 |name x hx hk c t hc hl ha=>
  obtain⟨h1,_⟩:=Lk Ga x r (fun c hc=>by rw[←Qy];exact(ha c hc).2) (hw (.inl rfl));have e:Ko (x++r)=Lh (x++r):=by rw[hc];show(if Bg c=true then _ else _)=_;rw[if_pos hl]
  rw[e];unfold Lh;rw[h1,hk,hx];rfl
 |word x hk c t hc hl ha=>
  obtain⟨h1,_⟩:=Lk Ga x r (fun c hc=>by rw[←Qy];exact(ha c hc).2) (hw (.inr rfl));have e:Ko (x++r)=Lh (x++r):=by rw[hc];show(if Bg c=true then _ else _)=_;rw[if_pos hl]
  rw[e];unfold Lh;rw[h1,hk];rfl
 |num u hu hi c t hc hd=>
  have hr:r=[]∨∃c t,r=c::t∧Bc c=false:=by
   cases r with
   |nil=>exact .inl rfl
   |cons c r=>simp [Lf]at hs;exact .inr ⟨c,r,rfl,by rw[←Ik];exact hs.2⟩
  obtain⟨h1,_⟩:=Lk Bc (Zg u) r (fun c hc=>Hn u c hc) hr;have hA:=gC u (On u) (fun c hc=>by have:=Hn u c hc;simp [Bc,UInt8.le_iff_toNat_le]at this;omega) hi;have hI:Zi (u:Int)=Zg u:=by unfold Zi;rw[if_neg (by omega)];simp
  have e:Ko (Zg u++r)=Ur (Zg u++r):=by rw[hc];show(if Bg c=true then _ else if Bc c=true then _ else _)=_;rw[if_neg (by rw[bI hd];decide),if_pos hd]
  rw[e];unfold Ur;rw[h1,hA];dsimp only;rw[if_pos hI]
 |quote q y hr1 hr2 hr3 hr4 hr5 hx hdq=>
  have e0:39::(y++[39])++r=39::(y++39::r):=by simp
  have e:Ko (39::(y++39::r))=Uv (39::(y++39::r)):=rfl;rw[e0,e];have hb:Wr q=false:=by unfold Wr;exact decide_eq_false (by omega)
  have hd:(39::(y++39::r)).drop (1+y.length)=39::r:=by rw[Nat.add_comm,List.drop_succ_cons,List.drop_left]
  have ht:(39::(y++39::r)).take (y.length+2)=39::(y++[39]):=by
   rw[Zt];congr 1
   rw[show y++39::r=(y++[39])++r by simp];exact List.take_left' (by simp)
  unfold Uv;show(if Wr (Lib.decodeGo (Aa (y++39::r))).1=true then _ else if Zm ((39::(y++39::r)).drop (1+(Lib.decodeGo (Aa (y++39::r))).2)) [39]=true then some (3,(39::(y++39::r)).take ((Lib.decodeGo (Aa (y++39::r))).2+2),((Lib.decodeGo (Aa (y++39::r))).1:Int))else none)=_
  rw[hdq r];dsimp only;rw[hb,if_neg (by decide),hd,ht,if_pos (by simp [Zm])]
 |sign x hs' c t hc h7 hn=>
  have e:Ko (x++r)=Kj (x++r):=by rw[hc];show(if Bg c=true then _ else if Bc c=true then _ else if c=39 then _ else _)=_;rw[if_neg (by rw[hn.1];decide),if_neg (by rw[hn.2.1];decide),if_neg hn.2.2]
  rw[e];have hlen:x.length=1∨x.length=2:=by
   rcases Gq hs' with rfl|rfl|rfl|rfl|rfl|rfl|rfl|rfl|rfl|rfl|rfl|rfl|rfl|rfl|rfl|rfl|rfl|rfl|rfl|rfl|rfl|rfl|rfl|rfl|rfl|rfl|rfl<;>simp
  unfold Kj;rcases hlen with hl|hl
  ·have h1:(x++r).take 1=x:=List.take_left' hl
   cases r with
   |nil=>
    have h2:(x++[]).take 2=x:=by rw[Zo];exact List.take_of_length_le (by omega)
    rw[h2,if_pos hs']
   |cons d r=>
    have h2:(x++d::r).take 2=[c,d]:=by
     obtain⟨y,rfl⟩:=Zu.1 hl;simp at hc;obtain⟨rfl,rfl⟩:=hc;rfl
    have hd:Eb [c,d]=false:=by
     simp [Lf]at hs;obtain⟨_,⟨⟨d1,d2⟩,d3⟩,_⟩:=hs
     cases hq:Eb [c,d]with
     |false=>rfl
     |true=>
      rcases Gq hq with h|h|h|h|h|h|h|h|h|h|h|h|h|h|h|h|h|h|h|h|h|h|h|h|h|h|h<;>simp at h<;>simp_all
    rw[h2,hd,h1,if_neg (by decide),if_pos hs']
  ·rw[List.take_left' hl,if_pos hs']
structure iB (x:Bs)(k n:Int)(rest:Bs):Prop where
 front:Front (x++rest)
 ne:x≠[]
 tok:Ko (x++rest)=some (k,x,n)
theorem fK {x:Bs}{k n:Int}(h:Jr x k n){r:Bs}(hs:Lf k r=true):iB x k n r:=by
 obtain⟨c,t,e,hc⟩:=h.head;exact⟨⟨.inr ⟨c,t++r,by rw[e];rfl,fN hc⟩,h.noComm hs⟩,h.ne,tokF_of h hs⟩
theorem fY {x:Bs}{k n:Int}(h:Jr x k n)(hq:k=3→∀r,x≠39::r){r:Bs}(hs:Lf k r=true):iB x k n r:=fK h hs
structure It where
 x:Bs
 k:Int
 n:Int
 b:Bs
 l:List (Bs ×Bs)
def It.gap(i:It):Bs:=Ay i.b i.l
structure ItOk (i:It):Prop where
 tok:Jr i.x i.k i.n
 gap:Rk i.b i.l
 head:∃c t,i.b=c::t
def Dy(l:List It):Bs:=l.flatMap (fun i=>i.x++i.gap)
def fF(line:Nat):List It→List Tk
 |[]=>[]
 |i::l=>⟨i.k,i.x,i.n,line⟩::fF (line+Az i.gap) l
theorem Ps(i:It)(l:List It):Dy (i::l)=i.x++(i.gap++Dy l):=by
 unfold Dy;simp
theorem fU(line:Nat)(l:List It):(fF line l).length=l.length:=by
 induction l generalizing line with
 |nil=>rfl
 |cons i l ih=>simp [fF,ih]
def bR(z:Bs):List It→Prop
 |[]=>True
 |i::l=>iB i.x i.k i.n (i.gap++(Dy l++z))∧Rk i.b i.l∧bR z l
def Wn(line:Nat):List It→Nat
 |[]=>line
 |i::l=>Wn (line+Az i.gap) l
theorem Ty:∀(li:List It) (b0:Bs) (l0:List (Bs ×Bs)) (line f:Nat),Rk b0 l0→bR [] li→(Ay b0 l0++Dy li).length<f→Mb f (Ay b0 l0++Dy li) line=.ok (fF (line+Az (Ay b0 l0)) li++[⟨5,[],0,((Wn (line+Az (Ay b0 l0)) li:Nat):Int)⟩])
 |li,b0,l0,line,0,hg,hi,hf=>absurd hf (Nat.not_lt_zero _)
 |[],b0,l0,line,f+1,hg,hi,hf=>by
  have e:Ay b0 l0++Dy []=Ay b0 l0++[]:=rfl;have hc:=Om l0 b0 hg;have hs:=Qp l0 b0 [] ((Ay b0 l0++[]).length+1) hg (by rw[Zo];omega) ⟨.inl rfl,rfl⟩;rw[e,Mb,hs];rfl
 |i::l,b0,l0,line,f+1,hg,hi,hf=>by
  obtain⟨ht,hgi,hil⟩:=hi;have e0:Dy (i::l)=i.x++(i.gap++(Dy l++[])):=by rw[Ps,Zo]
  have hc:=Om l0 b0 hg;rw[e0]at hf ⊢;have hs:=Qp l0 b0 (i.x++(i.gap++(Dy l++[]))) ((Ay b0 l0++(i.x++(i.gap++(Dy l++[])))).length+1) hg (by rw[Ze];omega) ht.front;have hx:0<i.x.length:=List.length_pos_iff.2 ht.ne;have ih:=Ty l i.b i.l (line+Az (Ay b0 l0)) f hgi hil (by
   rw[Zo,Ze,Ze]at hf;show(i.gap++Dy l).length<f
   omega)
  have hne:i.x++(i.gap++(Dy l++[]))≠[]:=fun h=>ht.ne (List.append_eq_nil_iff.1 h).1
  rw[Mb,hs];dsimp only;rw[if_pos rfl,if_neg hne,ht.tok];dsimp only;rw[List.drop_left,Zo];have ih:Mb f (i.gap++Dy l) (line+Az (Ay b0 l0))=_:=ih;rw[ih];rfl
inductive Ro:Ex→Prop
 |num (n:Int) (h:0≤n):Ro (.mk 1 0 n [] [])
 |var (nm:Bs) (h:Ah nm=true):Ro (.mk 2 0 0 nm [])
 |one (o:Int) (x:Ex) (h:o=17∨o=18∨o=19) (hx:Bm x=true):Ro (.mk 3 o 0 [] [x])
 |two (o:Int) (x y:Ex) (h:0<Bi o) (hx:Bm x=true) (hy:Bm y=true):Ro (.mk 4 o 0 [] [x,y])
 |call (nm:Bs) (l:List Ex) (h:Ah nm=true) (hn:l.length≤6) (hl:∀x,x∈l→Bm x=true):Ro (.mk 5 0 0 nm l)
 |index (nm:Bs) (x:Ex) (h:Ah nm=true) (hx:Bm x=true):Ro (.mk 6 0 0 nm [x])
 |read:Ro (.mk 7 0 0 [] [])
def SOk(x:St):Prop:= ∃m,Cu m x=true
inductive Jn:St→Prop
 |set (nm:Bs) (x:Ex) (h:Ah nm=true) (hx:Bm x=true):Jn (.mk 1 nm [x] [] [])
 |store (nm:Bs) (x y:Ex) (h:Ah nm=true) (hx:Bm x=true) (hy:Bm y=true):Jn (.mk 2 nm [x,y] [] [])
 |iff (x:Ex) (t e:List St) (hx:Bm x=true) (ht:∀y,y∈t→SOk y) (he:∀y,y∈e→SOk y):Jn (.mk 3 [] [x] t e)
 |loop (x:Ex) (t:List St) (hx:Bm x=true) (ht:∀y,y∈t→SOk y):Jn (.mk 4 [] [x] t [])
 |brk:Jn (.mk 5 [] [] [] [])
 |cont:Jn (.mk 6 [] [] [] [])
 |ret (x:Ex) (hx:Bm x=true):Jn (.mk 7 [] [x] [] [])
 |prt (x:Ex) (hx:Bm x=true):Jn (.mk 8 [] [x] [] [])
 |trp (x:Ex) (hx:Bm x=true):Jn (.mk 9 [] [x] [] [])
 |call (nm:Bs) (l:List Ex) (h:Ah nm=true) (hn:l.length≤6) (hl:∀x,x∈l→Bm x=true):Jn (.mk 10 [] [.mk 5 0 0 nm l] [] [])
structure FOk (f:Fu):Prop where
 name:Ah f.name=true
 params:∀x,x∈f.params→Ah x=true
 locals:∀x,x∈f.locals→Ah x=true
 body:∀x,x∈f.body→SOk x
theorem fR {f:Fu}(h:Dd f=true):FOk f:=by
 unfold Dd at h;simp only[Zb,Zk]at h;exact⟨h.1.1.1.1,h.1.1.1.2,h.1.1.2,fun x hx=>⟨40,h.2 x hx⟩⟩
theorem Ek {l:Bs}(h:Ah l=true):l.length≤20:=by
 unfold Ah at h;simp only[Zb,decide_eq_true_eq]at h;exact h.1.1.2
theorem cH(L:Nat):∀l:List Bs,(∀x,x∈l→x.length≤L)→(Ax l).length≤l.length*(L+2)
 |[],_=>by simp [Ax]
 |x::l,h=>by
  have more:∀m:List Bs,(∀x,x∈m→x.length≤L)→(m.flatMap (fun y=>[44,32]++y)).length≤m.length*(L+2):=by
   intro m
   induction m with
   |nil=>intro _;simp
   |cons y m ih=>
    intro hm;have h1:=hm y Za;have h2:=ih (fun z hz=>hm z (Zc _ hz));simp only[Zq,Ze,Zf,Zr]at h2 ⊢;rw[Nat.add_mul];omega
  have h1:=h x Za;have h2:=more l (fun z hz=>h z (Zc _ hz));rw[Ax,Ze,Zf,Nat.add_mul];omega
theorem Qn(e:Ex)(lev:Int)(t:Bs):(Cz e lev t).length≤t.length+2:=by
 unfold Cz;split
 ·simp
 ·omega
theorem Ve:∀i:Fin 20,(Cj i.val).length≤2:=by decide+kernel
theorem Ws(o:Int):(Cj o).length≤2:=by
 by_cases h:0≤o∧o≤19
 ·have e1:((o.toNat:Nat):Int)=o:=Int.toNat_of_nonneg (by omega)
  have:=Ve ⟨o.toNat,by omega⟩;simp only[e1]at this;exact this
 ·unfold Cj
  rw[if_neg (by omega),if_neg (by omega),if_neg (by omega),if_neg (by omega),if_neg (by omega),if_neg (by omega),if_neg (by omega),if_neg (by omega),if_neg (by omega),if_neg (by omega),if_neg (by omega),if_neg (by omega),if_neg (by omega),if_neg (by omega),if_neg (by omega),if_neg (by omega),if_neg (by omega),if_neg (by omega),if_neg (by omega)];exact Zn _
theorem ex1_len(n:Int)(h:0≤n∧n≤9223372036854775807)(o:Int)(nm:Bs)(l:List Ex):(Ae (.mk 1 o n nm l)).length≤21:=by
 rw[Ng];exact Lib.itoa_length_le n (by omega) h.2
theorem Wt {L:Nat}{nm:Bs}{l:List Ex}(hn:nm.length≤20)(h6:l.length≤6)(hl:∀x,x∈l→(Ae x).length≤L):(Ae (.mk 5 0 0 nm l)).length≤6*L+64:=by
 rw[Mu];have:=cH L (l.map Ae) (fun x hx=>by
  obtain⟨y,hy,rfl⟩:=List.mem_map.1 hx;exact hl y hy)
 simp only[List.length_map,Ze,Zf,Zr]at this ⊢;have:l.length*(L+2)≤6*(L+2):=Nat.mul_le_mul_right _ h6;omega
theorem Tg {sc:Sc}(hs:sc.Ok)(raw:List Int)(g:Nat→Ex ×Nat)(L:Nat)(hg:∀a,(Ae (g a).1).length≤L)(a:Nat):(Ae (Gb sc raw g a).1).length≤6*L+64:=by
 unfold Gb;split
 ·have h7:=Af raw (Ad raw a 312).2 7 (by decide)
  exact Wt (Ek (Hp _)) (by rw[Ft];omega) (Hj g (fun x=>(Ae x).length≤L) hg _ _)
 ·rename_i hn
  have hl:=Xf hn;have hr:=Af raw a sc.funcs.length (by omega);have hf:Ah (Cm sc.funcs (Ad raw a sc.funcs.length).1.toNat).name=true∧(Cm sc.funcs (Ad raw a sc.funcs.length).1.toNat).params.length≤6:=hs.funcs _ (jS (d:=Fu.nil) (i:=(Ad raw a sc.funcs.length).1.toNat) (by omega));dsimp only;generalize Cm sc.funcs (Ad raw a sc.funcs.length).1.toNat=f at hf ⊢;exact Wt (Ek hf.1) (by rw[Ft];exact hf.2) (Hj g (fun x=>(Ae x).length≤L) hg _ _)
theorem Tq {sc:Sc}(hs:sc.Ok)(raw:List Int)(g:Nat→Ex ×Nat)(L:Nat)(hg:∀a,(Ae (g a).1).length≤L)(k:Int)(a:Nat):(Ae (Dm sc raw g k a).1).length≤6*L+64:=by
 unfold Dm;split
 ·have:=Ek (Mq hs raw a)
  dsimp only;rw[Nz];omega
 split
 ·dsimp only;rw[Nk];simp
 split
 ·have h1:=Af raw (if k=3 then(Ad raw a 3).2 else a) 1000 (by decide)
  have h2:=Kp _ (Ad raw (Ad raw (if k=3 then(Ad raw a 3).2 else a) 1000).2 8).1 h1;have:=ex1_len _ h2 0 [] [];dsimp only;omega
 split
 ·have:=hg (Ad raw a 3).2
  dsimp only;rw[Nx _ _ _ _ (by simp)];have h2:=Ws (17+(Ad raw a 3).1);have h3:=Qn (g (Ad raw a 3).2).1 9 (Ae (g (Ad raw a 3).2).1);show(Cj _++Cz (g (Ad raw a 3).2).1 9 (Ae (g (Ad raw a 3).2).1)).length≤_
  rw[Ze];omega
 split
 ·have h1:=Ek (Lt hs raw a)
  have h2:=hg (By sc.free sc.arrays raw a).2;dsimp only;rw[Mt _ _ _ _ (by simp)];show(_++[91]++Ae (g (By sc.free sc.arrays raw a).2).1++[93]).length≤_
  simp only[Ze,Zf,Zr];omega
 split
 ·exact Tg hs raw g L hg a
 ·dsimp only;rw[Nh _ _ _ _ (by simp)]
  have h1:=hg (Ad raw a 16).2;have h2:=hg (g (Ad raw a 16).2).2;have h3:=Ws (1+(Ad raw a 16).1);have h4:=Qn (g (Ad raw a 16).2).1 (Bi (1+(Ad raw a 16).1)) (Ae (g (Ad raw a 16).2).1);have h5:=Qn (g (g (Ad raw a 16).2).2).1 (Bi (1+(Ad raw a 16).1)+1) (Ae (g (g (Ad raw a 16).2).2).1);show(Cz (g (Ad raw a 16).2).1 (Bi (1+(Ad raw a 16).1)) (Ae (g (Ad raw a 16).2).1)++([32]++(Cj _++[32]))++Cz (g (g (Ad raw a 16).2).2).1 (Bi (1+(Ad raw a 16).1)+1) (Ae (g (g (Ad raw a 16).2).2).1)).length≤_
  simp only[Ze,Zf,Zr];omega
def exB:Nat→Nat
 |0=>64
 |d+1=>6*exB d+64
theorem Lp {sc:Sc}(hs:sc.Ok)(raw:List Int):∀d a,(Ae (Am sc raw d a).1).length≤exB d
 |0,a=>by
  rw[Am];unfold Pi;have:=Tq hs raw (fun a=>(Ex.nil,a)) 0 (fun a=>by show(Ae (.mk 0 0 0 [] [])).length≤0;rw[Ew];decide) (gK raw 0 a) (Ad raw a 12).2;simp only[exB];omega
 |d+1,a=>by
  rw[Am];unfold Pi;exact Tq hs raw _ (exB d) (Lp hs raw d) _ _
theorem gN(t:Nat):(Hh t).length=t:=List.length_replicate
theorem Vm(t:Nat)(l:List Bs):(ln t l).length=t+l.flatten.length+1:=by unfold ln;rw[Ze,Ze,gN];rfl
theorem gM {t N L T E:Nat}{k:Int}{nm:Bs}{args:List Ex}{thn els:List St}(hn:nm.length≤N)(ha:∀x,x∈args→(Ae x).length≤L)(hT:(Bf (t+1) thn).length≤T)(hE:(Bf (t+1) els).length≤E):(Bt t (.mk k nm args thn els)).length≤3*t+N+2*L+T+E+40:=by
 have hx:∀i,(Ae (Bh args i)).length≤L:=fun i=>by
  unfold Bh;rcases Nat.lt_or_ge i args.length with h|h
  ·rw[Zs,Zv h];exact ha _ (List.getElem_mem h)
  ·rw[Zs,List.getElem?_eq_none h]
   show(Ae (.mk 0 0 0 [] [])).length≤L
   rw[Ew];exact Zn _
 have h0:=hx 0;have h1:=hx 1;rw[Dw];unfold Bu
 repeat' split
 all_goals
  try simp only[Vm,Ze,List.flatten_cons,List.flatten_nil,Zf,Zr]
  try omega
theorem Vb {t B:Nat}:∀l:List St,(∀x,x∈l→(Bt t x).length≤B)→(Bf t l).length≤l.length*B
 |[],_=>by simp [Bf]
 |x::l,h=>by
  have h1:=h x Za;have h2:=Vb l (fun z hz=>h z (Zc _ hz));rw[Bf,Ze,Zf,Nat.add_mul];omega
theorem Vt {sc:Sc}(hs:sc.Ok)(raw:List Int)(gs gl:Nat→List St ×Nat)(T:Nat)(t:Nat)(hgs:∀a,(Bf (t+1) (gs a).1).length≤T)(hgl:∀a,(Bf (t+1) (gl a).1).length≤T)(k:Int)(a:Nat):
  ∃k' nm args thn els,(Bl sc raw gs gl k a).1=.mk k' nm args thn els∧nm.length≤20∧(∀x,x∈args→(Ae x).length≤exB 3)∧(Bf (t+1) thn).length≤T∧(Bf (t+1) els).length≤T:=by
 have z:(Bf (t+1) []).length≤T:=Zn _;have nn:∀x:Ex,x∈([]:List Ex)→(Ae x).length≤exB 3:=fun x hx=>by cases hx
 have n0:([]:Bs).length≤20:=Zn _;have ee:∀a,∀x,x∈[(Am sc raw 3 a).1]→(Ae x).length≤exB 3:=fun a x hx=>by rw[List.mem_singleton.1 hx];exact Lp hs raw 3 a
 unfold Bl;split
 ·exact⟨_,_,_,_,_,rfl,Ek (Mq hs raw a),nn,z,z⟩
 split
 ·exact⟨_,_,_,_,_,rfl,Ek (Lt hs raw a),ee _,z,z⟩
 split
 ·exact⟨_,_,_,_,_,rfl,n0,fun x hx=>by rw[List.mem_singleton.1 hx];exact Tg hs raw _ (exB 2) (Lp hs raw 2) a,z,z⟩
 split
 ·exact⟨_,_,_,_,_,rfl,n0,nn,z,z⟩
 split
 ·exact⟨_,_,_,_,_,rfl,n0,ee _,hgs _,hgs _⟩
 split
 ·exact⟨_,_,_,_,_,rfl,n0,ee _,hgl _,z⟩
 split
 ·exact⟨_,_,_,_,_,rfl,n0,nn,z,z⟩
 ·exact⟨_,_,_,_,_,rfl,n0,nn,z,z⟩
theorem cB {sc:Sc}(hs:sc.Ok)(raw:List Int)(gs gl:Nat→List St ×Nat)(T:Nat)(t d:Nat)(hgs:∀a,(Bf (t+1) (gs a).1).length≤T)(hgl:∀a,(Bf (t+1) (gl a).1).length≤T)(a:Nat):(Bt t (gSt sc raw gs gl d a).1).length≤3*t+2*exB 4+2*T+60:=by
 unfold gSt;dsimp only;obtain⟨k,nm,args,thn,els,h,h1,h2,h3,h4⟩:=Vt hs raw gs gl T t hgs hgl (Oh raw d a) (Ad raw a 14).2;generalize (Bl sc raw gs gl (Oh raw d a) (Ad raw a 14).2).2=b;rw[h];have h2:∀x,x∈args→(Ae x).length≤exB 4:=fun x hx=>Nat.le_trans (h2 x hx) (by decide)
 unfold Hu;split
 ·have:=gM (k:=k) (N:=20) (L:=exB 4) h1 (args:=args++[(Am sc raw 4 b).1]) (fun x hx=>by
   rcases List.mem_append.1 hx with hx|hx
   ·exact h2 x hx
   ·rw[List.mem_singleton.1 hx];exact Lp hs raw 4 b) h3 h4
  show(Bt t (.mk k nm (args++[(Am sc raw 4 b).1]) thn els)).length≤_
  omega
 ·have:=gM (k:=k) (N:=20) (L:=exB 4) h1 h2 h3 h4
  show(Bt t (.mk k nm args thn els)).length≤_
  omega
def stB:Nat→Nat
 |0=>4*(2*exB 4+100)
 |d+1=>4*(2*exB 4+2*stB d+100)
theorem Qz(one:Nat→St ×Nat)(P:St→Prop)(hg:∀a,P (one a).1)(c a:Nat):∀x,x∈(Gh one c a).1→P x:=Lj one P hg c a
theorem five(raw:List Int)(a:Nat):(Ad raw a 5).1.toNat≤4:=by have:=Af raw a 5 (by decide);omega
theorem Mh(raw:List Int):∀(d t:Nat) (sc:Sc),sc.Ok→t+d≤10→∀a,(Bf t (Et raw d sc a).1).length≤stB d
 |0,t,sc,hs,ht,a=>by
  rw[Et];have h1:=Vb (t:=t) (B:=2*exB 4+100) _ (Qz _ (fun x=>(Bt t x).length≤2*exB 4+100) (fun b=>Nat.le_trans (cB hs raw (fun a=>([],a)) (fun a=>([],a)) 0 t 0 (fun _=>Nat.le_refl _) (fun _=>Nat.le_refl _) b) (by omega)) (Ad raw a 5).1.toNat (Ad raw a 5).2);rw[Jt]at h1;exact Nat.le_trans h1 (Nat.mul_le_mul_right _ (five raw a))
 |d+1,t,sc,hs,ht,a=>by
  rw[Et];have h1:=Vb (t:=t) (B:=2*exB 4+2*stB d+100) _ (Qz _ (fun x=>(Bt t x).length≤2*exB 4+2*stB d+100) (fun b=>Nat.le_trans (cB hs raw (Et raw d sc) (Et raw d sc.inLoop) (stB d) t (d+1) (Mh raw d (t+1) sc hs (by omega)) (Mh raw d (t+1) sc.inLoop hs.inLoop (by omega)) b) (by omega)) (Ad raw a 5).1.toNat (Ad raw a 5).2);rw[Jt]at h1;exact Nat.le_trans h1 (Nat.mul_le_mul_right _ (five raw a))
theorem Dc:Az []=0:=rfl
theorem Cg(c:UInt8)(l:Bs):Az (c::l)=(if c=10 then 1 else 0)+Az l:=by
 unfold Az;rw[List.count_cons]
 by_cases h:c=10
 ·subst h;simp;omega
 ·simp [h]
theorem Td:∀(b:Bool) (l:Bs),Dj b l=true→Az l=0
 |_,[],_=>rfl
 |b,c::l,h=>by
  rw[Dj,Zb]at h;have ih:=Td false l h.2;have hc:c≠10:=by
   rintro rfl;have h1:Bg 10=false:=by decide
   have h2:Bc 10=false:=by decide
   rw[h1,h2]at h;simp at h
  rw[Cg,if_neg hc,ih]
theorem Je {l:Bs}(h:Ah l=true):Az l=0:=by
 unfold Ah at h;exact Td true l ((Zb _ _).mp h).2
theorem cF(n:Int)(h:0≤n):Az (Zi n)=0:=by
 unfold Zi;rw[if_neg (by omega)];refine Mw _ (fun hm=>?_);have:=Hn _ _ hm
 revert this;decide
theorem Vq:∀i:Fin 20,Az (Cj i.val)=0:=by decide+kernel
theorem bW(o:Int):Az (Cj o)=0:=by
 by_cases h:0≤o∧o≤19
 ·have e1:((o.toNat:Nat):Int)=o:=Int.toNat_of_nonneg (by omega)
  have:=Vq ⟨o.toNat,by omega⟩;simp only[e1]at this;exact this
 ·have:(Cj o)=[]:=by
   unfold Cj;rw[if_neg (by omega),if_neg (by omega),if_neg (by omega),if_neg (by omega),if_neg (by omega),if_neg (by omega),if_neg (by omega),if_neg (by omega),if_neg (by omega),if_neg (by omega),if_neg (by omega),if_neg (by omega),if_neg (by omega),if_neg (by omega),if_neg (by omega),if_neg (by omega),if_neg (by omega),if_neg (by omega),if_neg (by omega)]
  rw[this];rfl
theorem cO(e:Ex)(lev:Int)(t:Bs):Az (Cz e lev t)=Az t:=by
 unfold Cz;split
 ·rw[Bd,Bd];simp [Cg,Dc]
 ·rfl
theorem kI:∀l:List Bs,(∀x,x∈l→Az x=0)→Az (Ax l)=0
 |[],_=>rfl
 |x::l,h=>by
  have more:∀m:List Bs,(∀x,x∈m→Az x=0)→Az (m.flatMap (fun y=>[44,32]++y))=0:=by
   intro m
   induction m with
   |nil=>intro _;rfl
   |cons y m ih=>
    intro hm;have h1:=hm y Za;have h2:=ih (fun z hz=>hm z (Zc _ hz));rw[Zq,Bd,Bd,h1,h2];rfl
  rw[Ax,Bd,h x Za,more l (fun z hz=>h z (Zc _ hz))]
theorem cM {args:List Ex}(h:∀a,a∈args→Az (Ae a)=0)(i:Nat):Az (Ae (Bh args i))=0:=by
 unfold Bh;rcases Nat.lt_or_ge i args.length with hl|hl
 ·rw[Zs,Zv hl];exact h _ (List.getElem_mem hl)
 ·rw[Zs,List.getElem?_eq_none hl]
  show Az (Ae (.mk 0 0 0 [] []))=0
  rw[Ew];rfl
theorem ex_nf(x:Ex)(hw:Bm x=true):Az (Ae x)=0:=by
 have hp:=Bk hw;have ih:∀a,a∈x.args→Az (Ae a)=0:=fun a ha=>ex_nf a (hp.2 a ha)
 have hk:=Kb hp.1;have hh:=hp.1;obtain⟨k,o,n,nm,args⟩:=x;clear hw hp;unfold Bn at hh;simp only[Zb]at hh;obtain⟨⟨⟨⟨hok,hargs⟩, -⟩, -⟩, -⟩:=hh;simp only[Ex.kind,Ex.args]at hk ih hargs;have hx:=cM ih;have hx':∀i:Nat,Az (Ae (args[i]?.getD Ex.nil))=0:=fun i=>by have:=hx i;simpa [Bh]using this
 rcases hk with rfl|rfl|rfl|rfl|rfl|rfl|rfl
 ·have h0:0≤n:=of_decide_eq_true (show decide (0≤n)=true from hok)
  rw[Ng,cF n h0]
 ·rw[Nz,Je (show Ah nm=true from hok)]
 ·have hl:(args.length:Int)=1:=by simpa [Bv,Ex.kind]using hargs
  rw[Nx _ _ _ _ (by omega),Bd,bW,Cs,cO,hx]
 ·have hl:(args.length:Int)=2:=by simpa [Bv,Ex.kind]using hargs
  rw[Nh _ _ _ _ (by omega)];simp [Bd,Cs,cO,hx,hx',bW,Cg,Dc]
 ·have h0:Ah nm=true:=((Zb _ _).mp (show(Ah nm && decide ((args.length:Int)≤6))=true from hok)).1
  have h2:=kI (args.map Ae) (fun y hy=>by
   obtain⟨z,hz,rfl⟩:=List.mem_map.1 hy;exact ih z hz)
  rw[Mu];simp [Bd,Je h0,h2,Cg,Dc]
 ·have hl:(args.length:Int)=1:=by simpa [Bv,Ex.kind]using hargs
  rw[Mt _ _ _ _ (by omega)];simp [Bd,Je (show Ah nm=true from hok),hx,hx',Cg,Dc]
 ·rw[Nk];rfl
termination_by SizeOf.sizeOf x
decreasing_by exact Ex.size_lt ha
def If(k:Int)(n:Nat):Nat:=(if k=3∨k=4 then 1 else 0)+(if 0<n then 1 else 0)
mutual
def Ww:St→Nat
 |.mk k _ _ t e=>1+Cd t+Cd e+If k e.length
def Cd:List St→Nat
 |[]=>0
 |x::l=>Ww x+Cd l
end
theorem tabs_nf(t:Nat):Az (Hh t)=0:=by
 refine Mw _ (fun hm=>?_);have:(10:UInt8)=9:=List.eq_of_mem_replicate hm
 revert this;decide
theorem Ms(t:Nat)(l:List Bs):Az (ln t l)=Az l.flatten+1:=by
 unfold ln;rw[Bd,Bd,tabs_nf];show 0+_+Az [10]=_
 rw[Cg];simp [Dc]
theorem Vg(t:Nat):∀l:List St,(∀x,x∈l→Az (Bt t x)=Ww x)→Az (Bf t l)=Cd l
 |[],_=>by rw[Bf,Cd];rfl
 |x::l,h=>by rw[Bf,Bd,Cd,h x Za,Vg t l (fun z hz=>h z (Zc _ hz))]
theorem gH:∀(m t:Nat) (x:St),Cu m x=true→Az (Bt t x)=Ww x
 |0,t,x,h=>by rw[Cu]at h;cases h
 |m+1,t,x,h=>by
  rw[Cu]at h;simp only[Zb,Zk]at h;obtain⟨⟨⟨⟨h1,h2⟩,h3⟩,h4⟩,h5⟩:=h;obtain⟨k,nm,args,thn,els⟩:=x;simp only[St.args,St.thn,St.els]at h3 h4 h5;have hx:=cM (args:=args) (fun a ha=>by
   have hr:=h3 a ha;unfold Ce at hr;exact ex_nf a ((Zb _ _).mp hr).2)
  have hx':∀i:Nat,Az (Ae (args[i]?.getD Ex.nil))=0:=fun i=>by have:=hx i;simpa [Bh]using this
  have k1:=Vg (t+1) thn (fun x hx=>gH m (t+1) x (h4 x hx));have k2:=Vg (t+1) els (fun x hx=>gH m (t+1) x (h5 x hx));unfold Gd at h1;simp only[St.kind,St.args,St.thn,St.els,Bool.not_eq_true',Bool.or_eq_false_iff]at h1;obtain⟨⟨⟨⟨f1, -⟩, -⟩,f4⟩,f5⟩:=h1;have hk:1≤k∧k≤10:=by
   have:fOk k=true:=by simpa using f1
   exact of_decide_eq_true this
  have e4:Fz k=false→thn=[]:=fun e=>by rw[e]at f4;simpa using f4
  have e5:Fy k=false→els=[]:=fun e=>by rw[e]at f5;simpa using f5
  have hnm:Az nm=0∨Cp k=false:=by
   unfold Ki at h2;simp only[St.kind,St.name,St.args]at h2
   cases hf:Cp k with
   |false=>exact .inr rfl
   |true=>
    cases hi:Ah nm with
    |true=>exact .inl (Je hi)
    |false=>rw[hf,hi]at h2;simp at h2
  rw[Dw,Ww];have hc:k=1∨k=2∨k=3∨k=4∨k=5∨k=6∨k=7∨k=8∨k=9∨k=10:=by omega
  rcases hc with rfl|rfl|rfl|rfl|rfl|rfl|rfl|rfl|rfl|rfl
  ·have:=hnm.resolve_right (by decide)
   rw[e4 (by decide),e5 (by decide)];simp [Bu,Ms,Bd,hx,hx',this,Cg,Dc,Cd,If]
  ·have:=hnm.resolve_right (by decide)
   rw[e4 (by decide),e5 (by decide)];simp [Bu,Ms,Bd,hx,hx',this,Cg,Dc,Cd,If]
  ·cases els with
   |nil=>simp [Bu,Ms,Bd,hx,hx',k1,Cg,Dc,Cd,If];omega
   |cons y l=>
    simp [Bu,Ms,Bd,hx,hx',k1,k2,Cg,Dc,If];omega
  ·rw[e5 (by decide)]
   simp [Bu,Ms,Bd,hx,hx',k1,Cg,Dc,Cd,If];omega
  all_goals
   rw[e4 (by decide),e5 (by decide)];simp [Bu,Ms,Bd,hx,hx',Cg,Dc,Cd,If]
theorem fX:∀l:List Bs,(∀x,x∈l→Ah x=true)→Az (De l)=l.length
 |[],_=>rfl
 |x::l,h=>by
  have h1:=Je (h x Za);have h2:=fX l (fun y hy=>h y (Zc _ hy));show Az (ln 1 [[105,110,116,32],x,[59]]++De l)=_
  rw[Bd,Ms,h2,Zf];simp [Bd,h1,Cg,Dc];omega
def cU(x:Fu):Nat:=2+x.locals.length+Cd x.body
def Gc:List Fu→Nat
 |[]=>0
 |x::l=>cU x+Gc l
theorem fu_nf {x:Fu}(h:Dd x=true):Az (Fg x)=cU x:=by
 unfold Dd at h;simp only[Zb,Zk]at h;obtain⟨⟨⟨⟨h1,h2⟩,h3⟩,h4⟩,h5⟩:=h;have k1:=Je h1;have k2:=kI (x.params.map Hd) (fun y hy=>by
  obtain⟨z,hz,rfl⟩:=List.mem_map.1 hy;unfold Hd;rw[Bd,Je (h2 z hz)];rfl)
 have k3:=fX x.locals h3;have k4:=Vg 1 x.body (fun y hy=>gH 40 1 y (h5 y hy));unfold Fg cU;simp [Bd,Ms,k1,k2,k3,k4,Cg,Dc];omega
theorem gL:∀l:List Fu,(∀x,x∈l→Dd x=true)→Az (Df l)=Gc l
 |[],_=>rfl
 |x::l,h=>by
  show Az (Fg x++Df l)=_
  rw[Bd,Gc,fu_nf (h x Za),gL l (fun y hy=>h y (Zc _ hy))]
theorem iH:∀l:List Ar,(∀x,x∈l→Ck x=true)→Az (Cq l)=l.length
 |[],_=>rfl
 |x::l,h=>by
  have hx:=h x Za;unfold Ck at hx;rw[Zb]at hx;have h1:=Je hx.1;have h3:=of_decide_eq_true hx.2;have h4:=cF x.size (by omega);show Az (Jk x++Cq l)=_
  rw[Bd,iH l (fun y hy=>h y (Zc _ hy)),Zf];unfold Jk;rw[Ms];simp [Bd,h1,h4,Cg,Dc];omega
theorem pr_nf {p:Pr}(h:Dp p=true):Az (Bz p)=p.arrays.length+Gc p.funcs:=by
 unfold Dp at h;rw[Zb,Zk,Zk]at h;unfold Bz;rw[Bd,iH p.arrays h.1,gL p.funcs h.2]
theorem cN(x:St):Ww x=1+Cd x.thn+Cd x.els+If x.kind x.els.length:=by cases x;rw[Ww];rfl
theorem Ru(d:St):∀(l:List St) (k:Nat),k<l.length→Cd (l.take (k+1))=Cd (l.take k)+Ww (l.getD k d)
 |[],k,h=>absurd h (by simp)
 |x::l,0,_=>by simp [Cd]
 |x::l,k+1,h=>by
  have:=Ru d l k (by simpa using h);rw[Zt,Zt,Cd,Cd,this,List.getD_cons_succ];omega
theorem Mc:∀(l:List St) (k:Nat),Cd (l.take k)≤Cd l
 |[],k=>by simp
 |x::l,0=>by simp [Cd]
 |x::l,k+1=>by rw[Zt,Cd,Cd];have:=Mc l k;omega
theorem Tx:∀l:List St,l.length≤Cd l
 |[]=>Zn _
 |x::l=>by rw[Cd,cN,Zf];have:=Tx l;omega
def fW(l:List St):Prop:= ∀(D:Nat→Prop) (v:Value) (w:World),Al D w l v→Cd l≤1000000→
 Calls Tryz.prog 22 #[v] w fun e w'=>e=.returned (.int .i64 (Cd l))∧∃n,w'=w.drewN n
theorem ln_step(l:List St)(iht:∀x,x∈l→fW x.thn)(ihe:∀x,x∈l→fW x.els):fW l:=by
 intro D v w h hs;obtain⟨a,c,rfl⟩:=h.shape;have l63:=h.fits.lt;have hlen:=Tx l;have H:=Zj h;have IHT:=Zj iht;have IHE:=Zj ihe;have HS:=Zj hs;clear h iht ihe hs;have HLN:=Zj hlen;clear hlen;go_enter func22,ntmps22
 go_wp2_with fail
 go_loopw [3,4] (fun s3 s4 wr=> ∃k A:Nat,k≤l.length∧s4=.int .i64 k∧s3=.int .i64 A∧A+k=l.length+Cd (l.take k)∧∃n,wr=w.drewN n) (fun _ s4 _=>l.length-(intOf s4).toNat)
 case atStart=>exact⟨0,l.length,Zn _,rfl,rfl,by simp [Cd],0,rfl⟩
 case round=>
  obtain⟨k,A,hk,rfl,rfl,hA,hn⟩:=hrel;have HN:=Zj hn;have HAW:Hid (Al D wr l (.slice a l.length c)):=by obtain⟨n,rfl⟩:=hn;exact Ls H.out n
  clear hn
  by_cases hlt:k<l.length
  ·obtain⟨eb,off,es,et,ee,rfl,hD,hebl,c0,c1,c2,c3,c4,hes,het,hee⟩:=Al.cellAt HAW.o k hlt
   obtain⟨t1,t2,rfl⟩:=het.shape;obtain⟨u1,u2,rfl⟩:=hee.shape;have u63:=hee.fits.lt;have HET:=Zj het;have HEE:=Zj hee;have IHTX:=Zj (IHT.out _ (Iv hlt));have IHEX:=Zj (IHE.out _ (Iv hlt));have hnext:Cd (l.take (k+1))=Cd (l.take k)+Ww (Ff l k):=Ru St.nil l k hlt;rw[cN]at hnext;have hle:=Mc l (k+1);have hsm:=HS.o;have hll:=HLN.o;rw[hnext]at hle;have HNX:=Zj hnext;clear hes het hee hD hebl HAW IHT IHE hnext;generalize Ff l k=x at*;have HC1:Hid (∀m,Calls Tryz.prog 22 #[.slice t1 x.thn.length t2] (wr.drewN m) fun e w'=>e=.returned (.int .i64 (Cd x.thn))∧∃n,w'=(wr.drewN m).drewN n):=fun m=>IHTX.out D _ _ (Ls HET.o m) (by omega)
   have HC2:Hid (∀m,Calls Tryz.prog 22 #[.slice u1 x.els.length u2] (wr.drewN m) fun e w'=>e=.returned (.int .i64 (Cd x.els))∧∃n,w'=(wr.drewN m).drewN n):=fun m=>IHEX.out D _ _ (Ls HEE.o m) (by omega)
   clear IHTX IHEX HET HEE;have HK:Hid (∀m,(wr.drewN m).cell? ⟨eb,off+k*5,none⟩=some (.int .i64 x.kind)∧(wr.drewN m).cell? ⟨eb,off+k*5+4,none⟩=some (.slice u1 x.els.length u2)):=fun m=>⟨c0,c4⟩
   have HM:Hid (A+Cd x.thn+Cd x.els+If x.kind x.els.length+(k+1)=l.length+Cd (l.take (k+1))):=by show _=_;rw[HNX.o];omega
   have hmo:If x.kind x.els.length≤2:=by unfold If;split<;>split<;>omega
   clear HNX;generalize hT:Cd x.thn=T at*;generalize hE:Cd x.els=E at*;clear hT hE;have b0:(A:Int)≤2000000:=by omega
   have b1:(T:Int)≤1000000:=by omega
   have b2:(E:Int)≤1000000:=by omega
   have b3:(0:Int)≤(A:Int):=by omega
   have b4:(0:Int)≤(T:Int):=by omega
   have b5:(0:Int)≤(E:Int):=by omega
   have i0:(0:Int)≤(k:Int):=by omega
   have i1:(k:Int)<(l.length:Int):=by omega
   have S1:IntKind.i64.wrap ((A:Int)+(T:Int))=(A:Int)+(T:Int):=IntWalk.i64_in _ (by omega);have S2:IntKind.i64.wrap ((A:Int)+(T:Int)+(E:Int))=(A:Int)+(T:Int)+(E:Int):=IntWalk.i64_in _ (by omega);have HL:=Zj hlt;clear hA hle hsm hll;generalize x.kind=kd at*;generalize x.els.length=u at*;generalize x.thn.length=tl at*;go_wp2_with fail
   go_quiet ((go_at_call 22;first|(with_reducible exact Calls.quiet_of (HC1.o _))|(with_reducible exact Calls.quiet_of (HC2.o _))))
   clear c0 c1 c2 c3 c4 HC1 HC2;obtain⟨c0,c4⟩:=HK.o nq;have HN2:Hid (∃n,wr.drewN nq=w.drewN n):=by obtain⟨n,hn⟩:=HN.o;exact⟨_,by rw[hn,World.drewN_drewN]⟩
   obtain⟨W1,hW1⟩:∃W,wr.drewN nq=W:=⟨_,rfl⟩;rw[hW1]at c0 c4 HN2 ⊢;clear hW1 HK HN S1 S2;obtain⟨M,hM⟩:∃M:Nat,M=A+T+E:=⟨_,rfl⟩;rw[show((A:Int)+(T:Int)+(E:Int))=((M:Nat):Int)by omega];have hMb:(M:Int)≤4000000:=by omega
   have hM0:(0:Int)≤(M:Int):=by omega
   have S3:IntKind.i64.wrap ((M:Int)+1)=(M:Int)+1:=IntWalk.i64_in _ (by omega);have S4:IntKind.i64.wrap ((M:Int)+1+1)=(M:Int)+1+1:=IntWalk.i64_in _ (by omega);have HM2:Hid (M+If kd u+(k+1)=l.length+Cd (l.take (k+1))):=by rw[hM];exact HM.o
   clear hM HM b0 b1 b2 b3 b4 b5 hmo;have hkd:kd=3∨kd=4∨(kd≠3∧kd≠4):=by omega
   have hu:(u=0)∨(0<u):=by omega
   rcases hkd with rfl|rfl|⟨h3,h4⟩
   ·have hmo:If 3 u=1+(if 0<u then 1 else 0):=rfl
    rcases hu with rfl|hu
    ·rw[hmo]at HM2
     clear hmo;go_wp2_with fail
     go_roundw
     case rel=>exact⟨k+1,M+1,by omega,by go_num,by go_num,HM2.o,HN2.o⟩
     case measure=>simp [intOf];omega
    ·rw[hmo,if_pos hu]at HM2
     have hu1:((u:Int)>0):=by omega
     have hu2:((0:Int)<(u:Int)):=by omega
     clear hmo;go_wp2_with fail
     go_roundw
     case rel=>exact⟨k+1,M+1+1,by omega,by go_num,by go_num,HM2.o,HN2.o⟩
     case measure=>simp [intOf];omega
   ·have hmo:If 4 u=1+(if 0<u then 1 else 0):=rfl
    rcases hu with rfl|hu
    ·rw[hmo]at HM2
     clear hmo;go_wp2_with fail
     go_roundw
     case rel=>exact⟨k+1,M+1,by omega,by go_num,by go_num,HM2.o,HN2.o⟩
     case measure=>simp [intOf];omega
    ·rw[hmo,if_pos hu]at HM2
     have hu1:((u:Int)>0):=by omega
     have hu2:((0:Int)<(u:Int)):=by omega
     clear hmo;go_wp2_with fail
     go_roundw
     case rel=>exact⟨k+1,M+1+1,by omega,by go_num,by go_num,HM2.o,HN2.o⟩
     case measure=>simp [intOf];omega
   ·have hmo:If kd u=0+(if 0<u then 1 else 0):=by unfold If;rw[if_neg (by omega)]
    have e3:(kd==3)=false:=by rw[beq_eq_false_iff_ne];exact h3
    have e4:(kd==4)=false:=by rw[beq_eq_false_iff_ne];exact h4
    rcases hu with rfl|hu
    ·rw[hmo]at HM2
     clear hmo;go_wp2_with fail
     go_roundw
     case rel=>exact⟨k+1,M,by omega,by go_num,by go_num,HM2.o,HN2.o⟩
     case measure=>simp [intOf];omega
    ·rw[hmo,if_pos hu]at HM2
     have hu1:((u:Int)>0):=by omega
     have hu2:((0:Int)<(u:Int)):=by omega
     clear hmo;go_wp2_with fail
     go_roundw
     case rel=>exact⟨k+1,M+1,by omega,by go_num,by go_num,HM2.o,HN2.o⟩
     case measure=>simp [intOf];omega
  ·have e:l.take k=l:=List.take_of_length_le (by omega)
   have hkl:k=l.length:=by omega
   have hAe:A=Cd l:=by rw[e]at hA;omega
   subst hAe;clear e;go_wp2_with fail
   go_ret
   exact⟨rfl,HN.o⟩
theorem Yk:∀(n:Nat) (l:List St),SizeOf.sizeOf l≤n→fW l
 |0,l,h=>by cases l<;>simp at h
 |n+1,l,h=>ln_step l
  (fun x hx=>Yk n x.thn (by
   have h1:=List.sizeOf_lt_of_mem hx
   cases x with
   |mk k nm us t e=>show SizeOf.sizeOf t≤n;simp at h1;omega))
  (fun x hx=>Yk n x.els (by
   have h1:=List.sizeOf_lt_of_mem hx
   cases x with
   |mk k nm us t e=>show SizeOf.sizeOf e≤n;simp at h1;omega))
theorem ln_any(l:List St):fW l:=Yk _ l (Nat.le_refl _)
abbrev PR(α:Type):=Except Int (α ×List Tk)
structure T3 where
 kind:Int
 text:Bs
 num:Int
def t3(t:Tk):T3:=⟨t.kind,t.text,t.num⟩
inductive Pc where
 |t (x:T3)
 |g (b:Bs)
def Pc.text:Pc→Bs|t x=>x.text|g b=>b
def Ao(l:List Pc):Bs:=l.flatMap Pc.text
def pcTk:List Pc→List T3
 |[]=>[]
 |.t x::l=>x::pcTk l
 |.g _::l=>pcTk l
theorem Aj(a b:List Pc):Ao (a++b)=Ao a++Ao b:=List.flatMap_append
abbrev sg(s:Bs):Pc:=.t ⟨4,s,0⟩
abbrev wd(s:Bs):Pc:=.t ⟨2,s,0⟩
abbrev nmp(s:Bs):Pc:=.t ⟨1,s,0⟩
abbrev nu(n:Int):Pc:=.t ⟨3,Zi n,n⟩
def Ji:List (List Pc)→List Pc
 |[]=>[]
 |x::l=>x++l.flatMap (fun y=>[sg [44],.g [32]]++y)
def Ke(e:Ex)(level:Int)(l:List Pc):List Pc:=if e.kind=4∧Bi e.op<level then [sg [40]]++l++[sg [41]]else l
def Eu(k o n:Int)(nm:Bs)(args:List Ex)(ts:List (List Pc)):List Pc:=
 if k=1 then [nu n]
 else if k=2 then [nmp nm]
 else if k=3 then [sg (Cj o)]++Ke (Bh args 0) 9 (ts.getD 0 [])
 else if k=4 then Ke (Bh args 0) (Bi o) (ts.getD 0 [])++([.g [32],sg (Cj o),.g [32]])++Ke (Bh args 1) (Bi o+1) (ts.getD 1 [])
 else if k=5 then [nmp nm,sg [40]]++Ji ts++[sg [41]]
 else if k=6 then [nmp nm,sg [91]]++ts.getD 0 []++[sg [93]]
 else if k=7 then [wd [114,101,97,100],sg [40],sg [41]]else []
mutual
def Cr:Ex→List Pc
 |.mk k o n nm args=>Eu k o n nm args (bZ args)
def bZ:List Ex→List (List Pc)
 |[]=>[]
 |x::l=>Cr x::bZ l
end
theorem Xq:∀l,bZ l=l.map Cr
 |[]=>rfl
 |x::l=>by simp [bZ,Xq l]
theorem Jd(k o n:Int)(nm:Bs)(args:List Ex):Cr (.mk k o n nm args)=Eu k o n nm args (args.map Cr):=by
 rw[Cr,Xq]
theorem aZ(o n:Int)(nm:Bs)(args:List Ex):Cr (.mk 1 o n nm args)=[nu n]:=by
 rw[Jd];unfold Eu;rw[if_pos rfl]
theorem aM(o n:Int)(nm:Bs)(args:List Ex):Cr (.mk 2 o n nm args)=[nmp nm]:=by
 rw[Jd];unfold Eu;rw[if_neg (by decide),if_pos rfl]
def Kg(e:Ex)(level:Int):List Pc:=Ke e level (Cr e)
theorem Ym(o n:Int)(nm:Bs)(x:Ex):Cr (.mk 3 o n nm [x])=sg (Cj o)::Kg x 9:=by
 rw[Jd];unfold Eu;rw[if_neg (by decide),if_neg (by decide),if_pos rfl];rfl
theorem bH(o n:Int)(nm:Bs)(x y:Ex):Cr (.mk 4 o n nm [x,y])=Kg x (Bi o)++([.g [32],sg (Cj o),.g [32]]++Kg y (Bi o+1)):=by
 rw[Jd];unfold Eu;rw[if_neg (by decide),if_neg (by decide),if_neg (by decide),if_pos rfl,Zd];rfl
theorem Og(o n:Int)(nm:Bs)(args:List Ex):Cr (.mk 5 o n nm args)=nmp nm::sg [40]::(Ji (args.map Cr)++[sg [41]]):=by
 rw[Jd];unfold Eu;rw[if_neg (by decide),if_neg (by decide),if_neg (by decide),if_neg (by decide),if_pos rfl];simp
theorem bC(o n:Int)(nm:Bs)(x:Ex):Cr (.mk 6 o n nm [x])=nmp nm::sg [91]::(Cr x++[sg [93]]):=by
 rw[Jd];unfold Eu;rw[if_neg (by decide),if_neg (by decide),if_neg (by decide),if_neg (by decide),if_neg (by decide),if_pos rfl];rfl
theorem aN(o n:Int)(nm:Bs)(args:List Ex):Cr (.mk 7 o n nm args)=[wd [114,101,97,100],sg [40],sg [41]]:=by
 rw[Jd];unfold Eu;rw[if_neg (by decide),if_neg (by decide),if_neg (by decide),if_neg (by decide),if_neg (by decide),if_neg (by decide),if_pos rfl]
theorem Xj:∀l:List (List Pc),Ao (Ji l)=Ax (l.map Ao)
 |[]=>rfl
 |x::l=>by
  unfold Ji Ax;rw[List.map_cons];dsimp only;rw[Aj];congr 1
  unfold Ao;rw[List.flatMap_assoc,List.flatMap_map];rfl
theorem Ot(e:Ex)(lv:Int)(l:List Pc):Ao (Ke e lv l)=Cz e lv (Ao l):=by
 unfold Ke Cz;split
 ·rw[Aj,Aj];rfl
 ·rfl
theorem Uc(e:Ex):Ao (Cr e)=Ae e:=by
 obtain⟨k,o,n,nm,args⟩:=e;rw[Jd,Ew];have ih:(args.map Cr).map Ao=args.map Ae:=by
  rw[List.map_map];exact List.map_congr_left (fun x hx=>Uc x)
 have hg:∀i,Ao ((args.map Cr).getD i [])=(args.map Ae).getD i []:=by
  intro i;rw[←ih];simp only[Zs,List.getElem?_map]
  cases args[i]? <;>rfl
 show Ao (Eu k o n nm args (args.map Cr))=Dq k o n nm args (args.map Ae)
 unfold Eu Dq;split
 ·simp [Ao,Pc.text]
 split
 ·simp [Ao,Pc.text]
 split
 ·rw[Aj,Ot,hg];simp [Ao,Pc.text]
 split
 ·rw[Aj,Aj,Ot,Ot,hg,hg];simp [Ao,Pc.text]
 split
 ·rw[Aj,Aj,Xj,ih];simp [Ao,Pc.text]
 split
 ·rw[Aj,Aj,hg];simp [Ao,Pc.text]
 split
 ·rfl
 ·rfl
termination_by SizeOf.sizeOf e
decreasing_by
 have:=List.sizeOf_lt_of_mem hx;simp only[Ex.mk.sizeOf_spec];omega
def Ev {α:Type}(g:Nat→PR α)(z:PR α):Prop:= ∃f0,∀f,f0≤f→g f=z
def For(ts:List Tk)(l:List Pc):Prop:=ts.map t3=pcTk l
theorem iF {op:Int}(h:0<Bi op):∃i:Fin 16,op=(i.val:Int)+1:=by
 have:op=1∨op=2∨op=3∨op=4∨op=5∨op=6∨op=7∨op=8∨op=9∨op=10∨op=11∨op=12∨op=13∨op=14∨op=15∨op=16:=by
  unfold Bi at h
  revert h
  repeat' split
  all_goals(intro h;first|omega|(exfalso;exact absurd h (by decide)))
 rcases this with h|h|h|h|h|h|h|h|h|h|h|h|h|h|h|h
 ·exact⟨0,h⟩
 ·exact⟨1,h⟩
 ·exact⟨2,h⟩
 ·exact⟨3,h⟩
 ·exact⟨4,h⟩
 ·exact⟨5,h⟩
 ·exact⟨6,h⟩
 ·exact⟨7,h⟩
 ·exact⟨8,h⟩
 ·exact⟨9,h⟩
 ·exact⟨10,h⟩
 ·exact⟨11,h⟩
 ·exact⟨12,h⟩
 ·exact⟨13,h⟩
 ·exact⟨14,h⟩
 ·exact⟨15,h⟩
inductive WEx:Ex→Prop
 |num (n:Int) (h:0≤n):WEx (.mk 1 0 n [] [])
 |var (s:Bs) (h:Ah s=true):WEx (.mk 2 0 0 s [])
 |one (o:Int) (x:Ex) (ho:o=17∨o=18∨o=19) (hx:WEx x):WEx (.mk 3 o 0 [] [x])
 |two (o:Int) (x y:Ex) (ho:0<Bi o) (hx:WEx x) (hy:WEx y):WEx (.mk 4 o 0 [] [x,y])
 |call (s:Bs) (l:List Ex) (h:Ah s=true) (hl:l.length≤6) (hx:∀x,x∈l→WEx x):WEx (.mk 5 0 0 s l)
 |idx (s:Bs) (x:Ex) (h:Ah s=true) (hx:WEx x):WEx (.mk 6 0 0 s [x])
 |read:WEx (.mk 7 0 0 [] [])
theorem kF:∀(e:Ex),Bm e=true→WEx e
 |.mk k o n nm args,h=>by
  rw[Il]at h;simp only[Zb,Zk]at h;obtain⟨hw,ha⟩:=h;have ih:∀x,x∈args→WEx x:=fun x hx=>kF x (ha x hx)
  clear ha;unfold Bn at hw;simp only[Zb,beq_iff_eq]at hw;obtain⟨⟨⟨⟨h1,h2⟩,h3⟩,h4⟩,h5⟩:=hw;unfold Ec at h1;unfold Bv at h2;unfold Fo at h3;unfold Hv at h4;unfold Db at h5;simp only[Ex.kind,Ex.op,Ex.n,Ex.name,Ex.args]at h1 h2 h3 h4 h5
  by_cases k1:k=1
  ·subst k1
   simp at h1 h2 h3 h4 h5;subst h2 h3 h5;exact .num n (of_decide_eq_true h1)
  by_cases k2:k=2
  ·subst k2
   simp at h1 h2 h3 h4 h5;subst h2 h3 h4;exact .var nm h1
  by_cases k3:k=3
  ·subst k3
   simp at h1 h2 h3 h4 h5;obtain⟨x,rfl⟩:=Zu.1 (by omega:args.length=1);subst h4 h5;exact .one o x (of_decide_eq_true h1) (ih x (by simp))
  by_cases k4:k=4
  ·subst k4
   simp at h1 h2 h3 h4 h5;obtain⟨x,y,rfl⟩:∃x y,args=[x,y]:=by
    match args,h2 with
    |[x,y],_=>exact⟨x,y,rfl⟩
   subst h4 h5;exact .two o x y (of_decide_eq_true h1) (ih x (by simp)) (ih y (by simp))
  by_cases k5:k=5
  ·subst k5
   simp at h1 h2 h3 h4 h5;subst h3 h4;exact .call nm args h1.1 (by have:=of_decide_eq_true h1.2;omega) ih
  by_cases k6:k=6
  ·subst k6
   simp at h1 h2 h3 h4 h5;obtain⟨x,rfl⟩:=Zu.1 (by omega:args.length=1);subst h3 h4;exact .idx nm x h1 (ih x (by simp))
  ·simp [k1,k2,k3,k4,k5,k6]at h1 h2 h3 h4 h5
   have h1:=of_decide_eq_true h1;subst h1 h2 h3 h4 h5;exact .read
termination_by e=>SizeOf.sizeOf e
decreasing_by
 exact Ex.size_lt (e:=.mk k o n nm args) hx
theorem Wz(x:Ex)(l:List Ex):Ji ((x::l).map Cr)=Cr x++l.flatMap (fun y=>[sg [44],.g [32]]++Cr y):=by
 show Cr x++(l.map Cr).flatMap (fun y=>[sg [44],.g [32]]++y)=_
 rw[List.flatMap_map]
def Dv(t:Nat)(l:List Pc):List Pc:=[.g (Hh t)]++l++[.g [10]]
def Sx(l:List Ex)(i:Nat):List Pc:=Cr (Bh l i)
def Du(t:Nat)(k:Int)(nm:Bs)(args:List Ex)(noEls:Bool)(T E:List Pc):List Pc:=
 if k=1 then Dv t ([nmp nm,.g [32],sg [61],.g [32]]++Sx args 0++[sg [59]])
 else if k=2 then Dv t ([nmp nm,sg [91]]++Sx args 0++[sg [93],.g [32],sg [61],.g [32]]++Sx args 1++[sg [59]])
 else if k=3 then Dv t ([wd [105,102],.g [32],sg [40]]++Sx args 0++[sg [41],.g [32],sg [123]])++(T++((if noEls then []else Dv t [sg [125],.g [32],wd [101,108,115,101],.g [32],sg [123]]++E)++Dv t [sg [125]]))
 else if k=4 then Dv t ([wd [119,104,105,108,101],.g [32],sg [40]]++Sx args 0++[sg [41],.g [32],sg [123]])++(T++Dv t [sg [125]])
 else if k=5 then Dv t [wd [98,114,101,97,107],sg [59]]
 else if k=6 then Dv t [wd [99,111,110,116,105,110,117,101],sg [59]]
 else if k=7 then Dv t ([wd [114,101,116,117,114,110],.g [32]]++Sx args 0++[sg [59]])
 else if k=8 then Dv t ([wd [112,114,105,110,116],sg [40]]++Sx args 0++[sg [41],sg [59]])
 else if k=9 then Dv t ([wd [116,114,97,112],sg [40]]++Sx args 0++[sg [41],sg [59]])
 else if k=10 then Dv t (Sx args 0++[sg [59]])else []
mutual
def Hc(t:Nat):St→List Pc
 |.mk k nm args thn els=>Du t k nm args els.isEmpty (Gk (t+1) thn) (Gk (t+1) els)
def Gk(t:Nat):List St→List Pc
 |[]=>[]
 |x::l=>Hc t x++Gk t l
end
theorem Ep(t:Nat)(l:List Pc)(m:List Bs)(h:Ao l=m.flatten):Ao (Dv t l)=ln t m:=by
 unfold Dv ln;rw[Aj,Aj,h];show(Hh t++[])++m.flatten++([10]++[])=_
 rw[Zo,Zo]
theorem Ia(l:List Ex)(i:Nat):Ao (Sx l i)=Ae (Bh l i):=Uc _
theorem Uj(t:Nat)(k:Int)(nm:Bs)(args:List Ex)(ne:Bool)(T E:List Pc):Ao (Du t k nm args ne T E)=Bu t k nm args ne (Ao T) (Ao E):=by
 unfold Du Bu
 by_cases h1:k=1
 ·rw[if_pos h1,if_pos h1]
  refine Ep _ _ _ ?_;simp only[Aj,Ia];simp [Ao,Pc.text]
 rw[if_neg h1,if_neg h1]
 by_cases h2:k=2
 ·rw[if_pos h2,if_pos h2]
  refine Ep _ _ _ ?_;simp only[Aj,Ia];simp [Ao,Pc.text]
 rw[if_neg h2,if_neg h2]
 by_cases h3:k=3
 ·rw[if_pos h3,if_pos h3]
  rw[Aj,Aj,Aj];refine congr (congrArg _ (Ep _ _ _ ?_)) (congrArg _ (congr (congrArg _ ?_) (Ep _ _ _ ?_)))
  ·simp only[Aj,Ia];simp [Ao,Pc.text]
  ·cases ne with
   |true=>rfl
   |false=>
    show Ao (Dv t _++E)=ln t _++Ao E
    rw[Aj];refine congrArg (· ++_) (Ep _ _ _ ?_);simp [Ao,Pc.text]
  ·simp [Ao,Pc.text]
 rw[if_neg h3,if_neg h3]
 by_cases h4:k=4
 ·rw[if_pos h4,if_pos h4]
  rw[Aj,Aj];refine congr (congrArg _ (Ep _ _ _ ?_)) (congrArg _ (Ep _ _ _ ?_))
  ·simp only[Aj,Ia];simp [Ao,Pc.text]
  ·simp [Ao,Pc.text]
 rw[if_neg h4,if_neg h4]
 by_cases h5:k=5
 ·rw[if_pos h5,if_pos h5]
  refine Ep _ _ _ ?_;simp [Ao,Pc.text]
 rw[if_neg h5,if_neg h5]
 by_cases h6:k=6
 ·rw[if_pos h6,if_pos h6]
  refine Ep _ _ _ ?_;simp [Ao,Pc.text]
 rw[if_neg h6,if_neg h6]
 by_cases h7:k=7
 ·rw[if_pos h7,if_pos h7]
  refine Ep _ _ _ ?_;simp only[Aj,Ia];simp [Ao,Pc.text]
 rw[if_neg h7,if_neg h7]
 by_cases h8:k=8
 ·rw[if_pos h8,if_pos h8]
  refine Ep _ _ _ ?_;simp only[Aj,Ia];simp [Ao,Pc.text]
 rw[if_neg h8,if_neg h8]
 by_cases h9:k=9
 ·rw[if_pos h9,if_pos h9]
  refine Ep _ _ _ ?_;simp only[Aj,Ia];simp [Ao,Pc.text]
 rw[if_neg h9,if_neg h9]
 by_cases h10:k=10
 ·rw[if_pos h10,if_pos h10]
  refine Ep _ _ _ ?_;simp only[Aj,Ia];simp [Ao,Pc.text]
 rw[if_neg h10,if_neg h10];rfl
mutual
theorem dA(t:Nat):∀x:St,Ao (Hc t x)=Bt t x
 |.mk k nm args thn els=>by rw[Hc,Bt,Uj,Kd (t+1) thn,Kd (t+1) els]
theorem Kd(t:Nat):∀l:List St,Ao (Gk t l)=Bf t l
 |[]=>rfl
 |x::l=>by rw[Gk,Bf,Aj,dA t x,Kd t l]
end
inductive WSt:St→Prop
 |set (s:Bs) (x:Ex) (h:Ah s=true) (hx:WEx x):WSt (.mk 1 s [x] [] [])
 |store (s:Bs) (x y:Ex) (h:Ah s=true) (hx:WEx x) (hy:WEx y):WSt (.mk 2 s [x,y] [] [])
 |cond (x:Ex) (a b:List St) (hx:WEx x) (ha:∀y,y∈a→WSt y) (hb:∀y,y∈b→WSt y):WSt (.mk 3 [] [x] a b)
 |loop (x:Ex) (a:List St) (hx:WEx x) (ha:∀y,y∈a→WSt y):WSt (.mk 4 [] [x] a [])
 |brk:WSt (.mk 5 [] [] [] [])
 |cont:WSt (.mk 6 [] [] [] [])
 |ret (x:Ex) (hx:WEx x):WSt (.mk 7 [] [x] [] [])
 |print (x:Ex) (hx:WEx x):WSt (.mk 8 [] [x] [] [])
 |trap (x:Ex) (hx:WEx x):WSt (.mk 9 [] [x] [] [])
 |call (s:Bs) (l:List Ex) (hx:WEx (.mk 5 0 0 s l)):WSt (.mk 10 [] [.mk 5 0 0 s l] [] [])
theorem Yi:∀(m:Nat) (x:St),Cu m x=true→WSt x
 |0,x,h=>by simp [Cu]at h
 |m+1,.mk k nm args thn els,h=>by
  unfold Cu at h;simp only[Zb,Zk,Bool.not_eq_true']at h;obtain⟨⟨⟨⟨h1,h2⟩,ha⟩,ht⟩,he⟩:=h;replace ha:∀x,x∈args→WEx x:=fun x hx=>kF x (by have:=ha x hx;unfold Ce at this;simp at this;exact this.2)
  replace ht:∀x,x∈thn→WSt x:=fun x hx=>Yi m x (ht x hx)
  replace he:∀x,x∈els→WSt x:=fun x hx=>Yi m x (he x hx)
  unfold Gd at h1;unfold Ki at h2;simp only[St.kind,St.name,St.args,St.thn,St.els,Bool.or_eq_false_iff,Bool.and_eq_false_iff,Bool.not_eq_false']at h1 h2;obtain⟨⟨⟨⟨q1,q2⟩,q3⟩,q4⟩,q5⟩:=h1;obtain⟨⟨p1,p2⟩,p3⟩:=h2;have one:∀n:Int,Cv k=1→∃x,args=[x]:=by
   intro _ e;rw[e]at q3;simp at q3;exact Zu.1 (by omega)
  have k10:1≤k∧k≤10:=by unfold fOk at q1;exact of_decide_eq_true q1
  have kk:k=1∨k=2∨k=3∨k=4∨k=5∨k=6∨k=7∨k=8∨k=9∨k=10:=by omega
  rcases kk with rfl|rfl|rfl|rfl|rfl|rfl|rfl|rfl|rfl|rfl
  all_goals simp [Cp,Fz,Fy]at p1 p2 q4 q5
  ·obtain⟨x,rfl⟩:=one 0 rfl
   subst q4 q5;exact .set nm x (by simpa using p1) (ha x (by simp))
  ·obtain⟨x,y,rfl⟩:∃x y,args=[x,y]:=by
    have:args.length=2:=by simp [Cv]at q3;omega
    match args,this with
    |[x,y],_=>exact⟨x,y,rfl⟩
   subst q4 q5;exact .store nm x y (by simpa using p1) (ha x (by simp)) (ha y (by simp))
  ·obtain⟨x,rfl⟩:=one 0 rfl
   subst p2;exact .cond x thn els (ha x (by simp)) ht he
  ·obtain⟨x,rfl⟩:=one 0 rfl
   subst p2 q5;exact .loop x thn (ha x (by simp)) ht
  ·obtain rfl:args=[]:=by simp [Cv]at q3;exact q3
   subst p2 q4 q5;exact .brk
  ·obtain rfl:args=[]:=by simp [Cv]at q3;exact q3
   subst p2 q4 q5;exact .cont
  ·obtain⟨x,rfl⟩:=one 0 rfl
   subst p2 q4 q5;exact .ret x (ha x (by simp))
  ·obtain⟨x,rfl⟩:=one 0 rfl
   subst p2 q4 q5;exact .print x (ha x (by simp))
  ·obtain⟨x,rfl⟩:=one 0 rfl
   subst p2 q4 q5;exact .trap x (ha x (by simp))
  ·obtain⟨x,rfl⟩:=one 0 rfl
   subst p2 q4 q5;have hx:=ha x (by simp);have h5:x.kind=5:=by simpa using p3
   cases hx with
   |call s l h hl hy=>exact .call s l (.call s l h hl hy)
   |_=>exact absurd h5 (by simp [Ex.kind])
theorem stp1(t:Nat)(s:Bs)(x:Ex):Hc t (.mk 1 s [x] [] [])=Dv t (nmp s:: .g [32]::sg [61]:: .g [32]::(Cr x++[sg [59]])):=by
 rw[Hc];unfold Du;rw[if_pos rfl];simp only[Zd,Zh,Zl];rfl
theorem stp2(t:Nat)(s:Bs)(x y:Ex):Hc t (.mk 2 s [x,y] [] [])=Dv t (nmp s::sg [91]::(Cr x++sg [93]:: .g [32]::sg [61]:: .g [32]::(Cr y++[sg [59]]))):=by
 rw[Hc];unfold Du;rw[if_neg (by decide),if_pos rfl];simp only[Zd,Zh,Zl];rfl
theorem stp3(t:Nat)(x:Ex)(a b:List St):Hc t (.mk 3 [] [x] a b)=Dv t (wd [105,102]:: .g [32]::sg [40]::(Cr x++[sg [41],.g [32],sg [123]]))++(Gk (t+1) a++((if b.isEmpty then []else Dv t [sg [125],.g [32],wd [101,108,115,101],.g [32],sg [123]]++Gk (t+1) b)++Dv t [sg [125]])):=by
 rw[Hc];unfold Du;rw[if_neg (by decide),if_neg (by decide),if_pos rfl];simp only[Zd,Zh,Zl];rfl
theorem stp4(t:Nat)(x:Ex)(a:List St):Hc t (.mk 4 [] [x] a [])=Dv t (wd [119,104,105,108,101]:: .g [32]::sg [40]::(Cr x++[sg [41],.g [32],sg [123]]))++(Gk (t+1) a++Dv t [sg [125]]):=by
 rw[Hc];unfold Du;rw[if_neg (by decide),if_neg (by decide),if_neg (by decide),if_pos rfl];simp only[Zd,Zh,Zl];rfl
theorem stp5(t:Nat):Hc t (.mk 5 [] [] [] [])=Dv t [wd [98,114,101,97,107],sg [59]]:=by
 rw[Hc];unfold Du;rw[if_neg (by decide),if_neg (by decide),if_neg (by decide),if_neg (by decide),if_pos rfl]
theorem stp6(t:Nat):Hc t (.mk 6 [] [] [] [])=Dv t [wd [99,111,110,116,105,110,117,101],sg [59]]:=by
 rw[Hc];unfold Du;rw[if_neg (by decide),if_neg (by decide),if_neg (by decide),if_neg (by decide),if_neg (by decide),if_pos rfl]
theorem stp7(t:Nat)(x:Ex):Hc t (.mk 7 [] [x] [] [])=Dv t (wd [114,101,116,117,114,110]:: .g [32]::(Cr x++[sg [59]])):=by
 rw[Hc];unfold Du;rw[if_neg (by decide),if_neg (by decide),if_neg (by decide),if_neg (by decide),if_neg (by decide),if_neg (by decide),if_pos rfl];simp only[Zd,Zh,Zl];rfl
theorem stp8(t:Nat)(x:Ex):Hc t (.mk 8 [] [x] [] [])=Dv t (wd [112,114,105,110,116]::sg [40]::(Cr x++[sg [41],sg [59]])):=by
 rw[Hc];unfold Du;rw[if_neg (by decide),if_neg (by decide),if_neg (by decide),if_neg (by decide),if_neg (by decide),if_neg (by decide),if_neg (by decide),if_pos rfl];simp only[Zd,Zh,Zl];rfl
theorem stp9(t:Nat)(x:Ex):Hc t (.mk 9 [] [x] [] [])=Dv t (wd [116,114,97,112]::sg [40]::(Cr x++[sg [41],sg [59]])):=by
 rw[Hc];unfold Du;rw[if_neg (by decide),if_neg (by decide),if_neg (by decide),if_neg (by decide),if_neg (by decide),if_neg (by decide),if_neg (by decide),if_neg (by decide),if_pos rfl];simp only[Zd,Zh,Zl];rfl
theorem stp10(t:Nat)(s:Bs)(l:List Ex):Hc t (.mk 10 [] [.mk 5 0 0 s l] [] [])=Dv t (nmp s::sg [40]::(Ji (l.map Cr)++[sg [41],sg [59]])):=by
 rw[Hc];unfold Du;rw[if_neg (by decide),if_neg (by decide),if_neg (by decide),if_neg (by decide),if_neg (by decide),if_neg (by decide),if_neg (by decide),if_neg (by decide),if_neg (by decide),if_pos rfl];show Dv t (Cr (.mk 5 0 0 s l)++[sg [59]])=_
 rw[Og];simp only[Zd,Zh,Zl]
def Iw(x:Bs):List Pc:=[wd [105,110,116],.g [32],nmp x]
def Qb(x:Bs):List Pc:=Dv 1 [wd [105,110,116],.g [32],nmp x,sg [59]]
def fZ(f:Fu):List Pc:=Ji (f.params.map Iw)++([sg [41],.g [32],sg [123],.g [10]]++(f.locals.flatMap Qb++(Gk 1 f.body++Dv 0 [sg [125]])))
def Up(f:Fu):List Pc:=wd [105,110,116]:: .g [32]::nmp f.name::sg [40]::fZ f
def aH(a:Ar):List Pc:=Dv 0 [wd [105,110,116],.g [32],nmp a.name,sg [91],nu a.size,sg [93],sg [59]]
def Mg(p:Pr):List Pc:=p.arrays.flatMap aH++p.funcs.flatMap Up
theorem Lv {α:Type}(f:α→List Pc)(g:α→Bs)(h:∀x,Ao (f x)=g x):∀l:List α,Ao (l.flatMap f)=l.flatMap g
 |[]=>rfl
 |x::l=>by rw[Zq,Zq,Aj,h,Lv f g h l]
theorem dP(f:Fu):Ao (Up f)=Fg f:=by
 unfold Up fZ Fg De;rw[show wd [105,110,116]::Pc.g [32]::nmp f.name::sg [40]::(Ji (f.params.map Iw)++([sg [41],.g [32],sg [123],.g [10]]++(f.locals.flatMap Qb++(Gk 1 f.body++Dv 0 [sg [125]]))))=[wd [105,110,116],Pc.g [32],nmp f.name,sg [40]]++(Ji (f.params.map Iw)++([sg [41],.g [32],sg [123],.g [10]]++(f.locals.flatMap Qb++(Gk 1 f.body++Dv 0 [sg [125]]))))from rfl];rw[Aj,Aj,Aj,Aj,Aj,Xj,Kd,List.map_map];rw[Lv Qb (fun x=>ln 1 [[105,110,116,32],x,[59]]) (fun x=>Ep _ _ _ (by simp [Ao,Pc.text]))];rw[Ep 0 [sg [125]] [[125]] rfl];rw[show(Ao∘Iw)=Hd from funext fun x=>by simp [Iw,Ao,Pc.text,Hd]];simp [Ao,Pc.text]
theorem fA(a:Ar):Ao (aH a)=Jk a:=Ep _ _ _ (by simp [Ao,Pc.text])
theorem Tw(p:Pr):Ao (Mg p)=Bz p:=by
 unfold Mg Bz Cq Df;rw[Aj,Lv aH Jk fA,Lv Up Fg dP]
def WFu(f:Fu):Prop:=Ah f.name=true∧(∀x,x∈f.params→Ah x=true)∧(∀x,x∈f.locals→Ah x=true)∧∀x,x∈f.body→WSt x
theorem wfu_of {f:Fu}(h:Dd f=true):WFu f:=by
 unfold Dd at h;simp only[Zb,Zk]at h;obtain⟨⟨⟨⟨h1,h2⟩,h3⟩,h4⟩,h5⟩:=h;exact⟨h1,h2,h3,fun x hx=>Yi 40 x (h5 x hx)⟩
theorem Vd:I64 0:=⟨by decide,by decide⟩
theorem gZ:Rk [] []:=⟨fun c hc=>(by cases hc),fun p hp=>(by cases hp)⟩
def scanned(line:Nat)(li:List It):List Tk:=fF line li++[⟨5,[],0,Wn line li⟩]
theorem iT(b0:Bs)(l0:List (Bs ×Bs))(hg:Rk b0 l0)(li:List It)(hi:bR [] li)(hlen:(Ay b0 l0++Dy li).length≤20000)(w:World)(hl:Kn w):
  Calls Tryz.prog 23 #[.string (Aa (Ay b0 l0++Dy li))] w fun e w'=>Below w.heap.size w w'∧∃v,e=.returned (.tuple #[v,.int .i64 0,.int .i64 0])∧Gg w' w.heap.size (scanned (1+Az (Ay b0 l0)) li) v:=by
 have h:=jK (Ay b0 l0++Dy li) hlen w hl;rw[Ty li b0 l0 1 _ hg hi (Nat.lt_succ_self _)]at h;exact h
def Ou(x:Bs):Bool:=(match x with|c::_=>Bg c|[]=>false) && x.all (fun c=>decide (c.toNat<128) && Mr (c.toNat:Nat))
theorem dT {x:Bs}(h:Ou x=true):∃c t,x=c::t∧Bg c=true∧∀c,c∈x→c.toNat<128∧Mr (c.toNat:Nat)=true:=by
 cases x with
 |nil=>cases h
 |cons c t=>
  unfold Ou at h;obtain⟨h1,h2⟩:=(Zb _ _).mp h;refine⟨c,t,rfl,h1,fun d hd=>?_⟩;have:=Zk.1 h2 d hd;simpa using this
theorem cI {x:Bs}(hk:Ge x=true)(h:Ou x=true):Jr x 2 0:=by
 obtain⟨c,t,hc,hl,ha⟩:=dT h;exact .word x hk c t hc hl ha
theorem pc_sign {x:Bs}(h:Eb x=true):Jr x 4 0:=by
 rcases Gq h with rfl|rfl|rfl|rfl|rfl|rfl|rfl|rfl|rfl|rfl|rfl|rfl|rfl|rfl|rfl|rfl|rfl|rfl|rfl|rfl|rfl|rfl|rfl|rfl|rfl|rfl|rfl<;>exact .sign _ h _ _ rfl (by decide) (by decide)
def Eg(S:Int→Bs→Bool):List Pc→Bs→Prop
 |[],_=>True
 |.g _::l,z=>Eg S l z
 |.t x::l,z=>S x.kind (Ao l++z)=true∧Eg S l z
theorem Eg.app {S:Int→Bs→Bool}:∀ {a b:List Pc} {z:Bs},Eg S a (Ao b++z)→Eg S b z→Eg S (a++b) z
 |[],b,z,_,h=>h
 |.g x::a,b,z,h1,h2=>Eg.app (a:=a) h1 h2
 |.t x::a,b,z,h1,h2=>⟨by rw[List.append_eq,Aj,Zd];exact h1.1,Eg.app (a:=a) h1.2 h2⟩
def Vu(c:UInt8):Bool:=c==32||c==41||c==93||c==44||c==59||c==10
def Wg(c:UInt8):Bool:=Bg c||Bc c||c==40||c==45||c==33||c==126
def Rf(z:Bs):Prop:=z=[]∨∃c r,z=c::r∧Vu c=true
def Kk(z:Bs):Prop:= ∃c r,z=c::r∧Wg c=true
structure Km (S:Int→Bs→Bool):Prop where
 nil:∀k,S k []=true
 soft:∀k c r,Vu c=true→S k (c::r)=true
 head:∀c r,Wg c=true→S 4 (c::r)=true
 opens:∀k r,k≠3→S k (40::r)=true∧S k (91::r)=true
theorem Km.ofSoft {S:Int→Bs→Bool}(h:Km S){z:Bs}(hz:Rf z)(k:Int):S k z=true:=by
 rcases hz with rfl|⟨c,r,rfl,hc⟩
 ·exact h.nil k
 ·exact h.soft k c r hc
theorem Km.ofHead {S:Int→Bs→Bool}(h:Km S){z:Bs}(hz:Kk z):S 4 z=true:=by
 obtain⟨c,r,rfl,hc⟩:=hz;exact h.head c r hc
theorem Kk.app {a b:Bs}(h:Kk a):Kk (a++b):=by
 obtain⟨c,r,rfl,hc⟩:=h;exact⟨c,r++b,rfl,hc⟩
theorem Eo {c:UInt8}{r:Bs}(h:Vu c=true):Rf (c::r):=.inr ⟨c,r,rfl,h⟩
theorem Oq {s:Bs}(h:Ah s=true):Kk s:=by
 cases s with
 |nil=>exact absurd h (by decide)
 |cons c r=>
  refine⟨c,r,rfl,?_⟩;have:Bg c=true:=by
   simp only[Ah,Dj,Zb,Bool.or_eq_true,Bool.not_true,Bool.false_and,Bool.or_false]at h
   first|exact h.1.1|exact h.1.1.1|exact h.2.1|(simp at h;exact h.1)|(simp at h;exact h.1.1)|(simp at h;exact h.2.1)
  unfold Wg;rw[this];rfl
def Sn:Prop:= ∀u,(∀c,c∈Zg u→Bc c=true)∧Zg u≠[]
theorem Wf {n:Int}(h:0≤n)(hd:Sn):Kk (Zi n):=by
 unfold Zi;rw[if_neg (by omega)];rcases hq:Zg n.toNat with _|⟨c,r⟩
 ·exact absurd hq (hd n.toNat).2
 ·refine⟨c,r,rfl,?_⟩
  have:=(hd n.toNat).1 c (by rw[hq];exact Za);unfold Wg;rw[this];simp
theorem Kz(x:Pc)(l:List Pc):Ao (x::l)=x.text++Ao l:=rfl
theorem Th {e:Ex}{lv:Int}(h:Kk (Ao (Cr e))):Kk (Ao (Kg e lv)):=by
 unfold Kg Ke;split
 ·exact⟨40,_,rfl,by decide⟩
 ·exact h
theorem Hr(hd:Sn){e:Ex}(h:WEx e):Kk (Ao (Cr e)):=by
 induction h with
 |num n h=>rw[aZ];exact(Wf h hd).app
 |var s h=>rw[aM];exact(Oq h).app
 |one o x ho hx ih=>rw[Ym];rcases ho with rfl|rfl|rfl<;>exact⟨_,_,rfl,by decide⟩
 |two o x y ho hx hy ihx ihy=>rw[bH,Aj];exact(Th ihx).app
 |call s l h hl hx ih=>rw[Og,Kz];exact(Oq h).app
 |idx s x h hx ih=>rw[bC,Kz];exact(Oq h).app
 |read=>rw[aN];exact⟨_,_,rfl,by decide⟩
theorem Qv {S:Int→Bs→Bool}(hS:Km S){e:Ex}(hh:Kk (Ao (Cr e)))(h:∀z,Rf z→Eg S (Cr e) z)(lv:Int)(z:Bs)(hz:Rf z):Eg S (Kg e lv) z:=by
 unfold Kg Ke;split
 ·rw[Zd]
  refine⟨?_,?_⟩
  ·show S 4 (Ao (Cr e++[sg [41]])++z)=true
   rw[Aj,Zd];exact hS.ofHead hh.app
  ·show Eg S (Cr e++[sg [41]]) z
   exact Eg.app (h _ (Eo (by decide))) ⟨hS.ofSoft hz 4,trivial⟩
 ·exact h z hz
theorem Xb {S:Int→Bs→Bool}(hS:Km S)(z:Bs):∀(l:List Ex),(∀y,y∈l→∀z,Rf z→Eg S (Cr y) z)→Eg S (l.flatMap (fun y=>[sg [44],.g [32]]++Cr y)) (41::z)∧Rf (Ao (l.flatMap (fun y=>[sg [44],.g [32]]++Cr y))++41::z)
 |[],h=>⟨trivial,Eo (by decide)⟩
 |y::l,h=>by
  obtain⟨h1,h2⟩:=Xb hS z l (fun x hx=>h x (Zc _ hx));rw[Zq];refine⟨?_,?_⟩
  ·refine Eg.app (a:=[sg [44],.g [32]]++Cr y) ?_ h1
   exact⟨hS.soft 4 32 _ (by decide),h y Za _ h2⟩
  ·exact Eo (by decide)
theorem ex_sep {S:Int→Bs→Bool}(hS:Km S)(hd:Sn){e:Ex}(h:WEx e):∀z,Rf z→Eg S (Cr e) z:=by
 induction h with
 |num n h=>intro z hz;rw[aZ];exact⟨hS.ofSoft hz 3,trivial⟩
 |var s h=>intro z hz;rw[aM];exact⟨hS.ofSoft hz 1,trivial⟩
 |one o x ho hx ih=>
  intro z hz;rw[Ym];exact⟨hS.ofHead (Th (Hr hd hx)).app,Qv hS (Hr hd hx) ih 9 z hz⟩
 |two o x y ho hx hy ihx ihy=>
  intro z hz;rw[bH];refine Eg.app (Qv hS (Hr hd hx) ihx _ _ (Eo (by decide))) ?_;exact⟨hS.soft 4 32 _ (by decide),Qv hS (Hr hd hy) ihy _ z hz⟩
 |call s l h hl hx ih=>
  intro z hz;rw[Og];have hclose:Eg S [sg [41]] z:=⟨hS.ofSoft hz 4,trivial⟩
  cases l with
  |nil=>
   exact⟨(hS.opens 1 _ (by decide)).1,hS.soft 4 41 _ (by decide),hclose⟩
  |cons x l=>
   have hx0:=hx x Za;obtain⟨h1,h2⟩:=Xb hS z l (fun y hy=>ih y (Zc _ hy));rw[Wz];refine⟨(hS.opens 1 _ (by decide)).1,?_,?_⟩
   ·rw[Aj,Aj,Zd,Zd]
    exact hS.ofHead (Hr hd hx0).app
   ·rw[Zd]
    refine Eg.app (ih x Za _ ?_) (Eg.app h1 hclose);rw[Aj,Zd];exact h2
 |idx s x h hx ih=>
  intro z hz;rw[bC];refine⟨(hS.opens 1 _ (by decide)).2,?_,Eg.app (ih _ (Eo (by decide))) ⟨hS.ofSoft hz 4,trivial⟩⟩;rw[Aj,Zd];exact hS.ofHead (Hr hd hx).app
 |read=>
  intro z hz;rw[aN];exact⟨(hS.opens 2 _ (by decide)).1,hS.soft 4 41 _ (by decide),hS.ofSoft hz 4,trivial⟩
def Dr:List Pc→Bs
 |.g b::l=>b++Dr l
 |_=>[]
def Gj:List Pc→List It
 |[]=>[]
 |.g _::l=>Gj l
 |.t x::l=>⟨x.text,x.kind,x.num,Dr l,[]⟩::Gj l
theorem Nd:∀l:List Pc,Dr l++Dy (Gj l)=Ao l
 |[]=>rfl
 |.g b::l=>by
  show(b++Dr l)++Dy (Gj l)=b++Ao l
  rw[Zd,Nd l]
 |.t x::l=>by
  show []++Dy (_::Gj l)=x.text++Ao l
  rw[Ps,Zl];show x.text++(Ay (Dr l) []++Dy (Gj l))=_
  rw[show Ay (Dr l) []=Dr l by unfold Ay;simp,Nd l]
def Me(x:T3):Prop:=Jr x.text x.kind x.num∧(x.kind=3→∀r,x.text≠39::r)∧I64 x.num
def As(l:List Pc):Prop:= ∀p,p∈l→match p with|.t x=>Me x|.g b=> ∀c,c∈b→Av c=true
theorem Mf:∀(l:List Pc),As l→∀c,c∈Dr l→Av c=true
 |[],h,c,hc=>by cases hc
 |.t x::l,h,c,hc=>by cases hc
 |.g b::l,h,c,hc=>by
  rcases List.mem_append.1 (show c∈b++Dr l from hc)with hc|hc
  ·exact h (.g b) Za c hc
  ·exact Mf l (fun p hp=>h p (Zc _ hp)) c hc
theorem Xt(z:Bs):∀(l:List Pc),As l→Eg Lf l z→bR z (Gj l)∧∀i,i∈Gj l→I64 i.n
 |[],h,hs=>⟨trivial,fun i hi=>by cases hi⟩
 |.g b::l,h,hs=>Xt z l (fun p hp=>h p (Zc _ hp)) hs
 |.t x::l,h,hs=>by
  have hl:As l:=fun p hp=>h p (Zc _ hp)
  obtain⟨i1,i2⟩:=Xt z l hl hs.2;obtain⟨h1,h2,h3⟩:Me x:=h (.t x) Za;have hg:Ay (Dr l) []=Dr l:=by unfold Ay;simp
  refine⟨⟨fY h1 h2 ?_,⟨Mf l hl,fun p hp=>by cases hp⟩,i1⟩,fun i hi=>?_⟩
  ·show Lf x.kind (Ay (Dr l) []++(Dy (Gj l)++z))=true
   rw[hg,←Zd,Nd];exact hs.1
  ·rcases List.mem_cons.1 hi with rfl|hi
   ·exact h3
   ·exact i2 i hi
theorem Op {c:UInt8}{r:Bs}(h7:c.toNat<128)(h:c≠61∧c≠60∧c≠62∧c≠47):Lf 4 (c::r)=true:=by
 obtain⟨h1,h2,h3,h4⟩:=h;simp [Lf,h7,h1,h2,h3,h4]
theorem sepR:Km Lf:=by
 refine⟨fun k=>rfl,fun k c r h=>?_,fun c r h=>?_,fun k r h=>?_⟩
 ·have hc:c=32∨c=41∨c=93∨c=44∨c=59∨c=10:=by simpa [Vu,or_assoc]using h
  by_cases h4:k=4
  ·subst h4;rcases hc with rfl|rfl|rfl|rfl|rfl|rfl<;>exact Op (by decide) (by decide)
  ·by_cases h3:k=3
   ·subst h3;rcases hc with rfl|rfl|rfl|rfl|rfl|rfl<;>(unfold Lf;dsimp only;rw[if_neg (by decide),if_pos rfl];decide)
   ·unfold Lf
    rcases hc with rfl|rfl|rfl|rfl|rfl|rfl<;>(dsimp only;rw[if_neg h4,if_neg h3];decide)
 ·unfold Wg at h
  by_cases hl:Bg c=true
  ·have:=Ll hl
   exact Op (Ti hl) ⟨by rintro rfl;exact absurd this (by decide),by rintro rfl;exact absurd this (by decide),by rintro rfl;exact absurd this (by decide),by rintro rfl;exact absurd this (by decide)⟩
  ·by_cases hd:Bc c=true
   ·have h1:=Wa hd
    have h2:=Rm hd;exact Op h2 ⟨by rintro rfl;exact absurd hd (by decide),by rintro rfl;exact absurd hd (by decide),by rintro rfl;exact absurd hd (by decide),by rintro rfl;exact absurd hd (by decide)⟩
   ·have hc:c=40∨c=45∨c=33∨c=126:=by simpa [hl,hd,or_assoc]using h
    rcases hc with rfl|rfl|rfl|rfl<;>exact Op (by decide) (by decide)
 ·by_cases h4:k=4
  ·subst h4;exact⟨Op (by decide) (by decide),Op (by decide) (by decide)⟩
  ·refine⟨?_,?_⟩<;>(unfold Lf;dsimp only;rw[if_neg h4,if_neg h];decide)
theorem digL:Sn:=fun u=>⟨Hn u,On u⟩
theorem Um(u:Nat)(h:u<10000000000000000000):Zp u≤19:=by
 by_cases h0:u<10
 ·rw[Zp,dif_pos h0];decide
 ·have step:∀(n u:Nat),(¬u<10→Zp (u / 10)≤n)→Zp u≤n+1:=fun n u h=>by
   rw[Zp];split
   ·omega
   ·rename_i hh;have:=h hh;omega
  have pw:∀(n u:Nat),u<10 ^ (n+1)→Zp u≤n+1:=by
   intro n
   induction n with
   |zero=>intro u hu;rw[Zp,dif_pos (by omega)];omega
   |succ n ih=>intro u hu;exact step (n+1) u (fun _=>ih (u / 10) (by rw[Nat.pow_succ]at hu;omega))
  exact pw 18 u (by omega)
theorem kA {n:Int}(h0:0≤n)(h1:I64 n):Me ⟨3,Zi n,n⟩:=by
 have e:Zi n=Zg n.toNat:=by unfold Zi;rw[if_neg (by omega)]
 have hu:(n.toNat:Int)=n:=by omega
 have hb:n.toNat≤9223372036854775807:=by have:=h1.2;omega
 refine⟨?_,fun _ r hr=>?_,h1⟩
 ·show Jr (Zi n) 3 n
  rw[e];rcases hq:Zg n.toNat with _|⟨c,t⟩
  ·exact absurd hq (On _)
  ·have hlen:(Zg n.toNat).length≤19:=by
    rw[Lib.decDigits_length];exact Um _ (by omega)
   have:=Jr.num n.toNat hlen hb c t hq (Hn _ c (by rw[hq];exact Za));rw[hu]at this;rw[←hq];exact this
 ·have hr:Zi n=39::r:=hr
  rw[e]at hr;have:=Hn n.toNat 39 (by rw[hr];exact Za);exact absurd this (by decide)
theorem Rd:∀(f:Bool) (x:Bs),Dj f x=true→∀c,c∈x→c.toNat<128∧Mr (c.toNat:Nat)=true
 |_,[],_,c,hc=>by cases hc
 |f,d::l,h,c,hc=>by
  rw[Dj]at h;obtain⟨h1,h2⟩:=(Zb _ _).mp h;rcases List.mem_cons.1 hc with rfl|hc
  ·unfold Mr
   rw[Io,Ik];rcases(Bool.or_eq_true _ _).mp h1 with h3|h3
   ·exact⟨Ti h3,by rw[h3];rfl⟩
   ·have h4:=((Zb _ _).mp h3).2
    exact⟨Rm h4,by rw[h4];simp⟩
  ·exact Rd false l h2 c hc
theorem Qk {s:Bs}(h:Ah s=true):Me ⟨1,s,0⟩:=by
 have h':=h;unfold Ah at h';simp only[Zb]at h';obtain⟨⟨⟨h1,h2⟩,h3⟩,h4⟩:=h';refine⟨?_,fun e=>absurd (show(1:Int)=3 from e) (by decide),Vd⟩
 cases s with
 |nil=>exact absurd h1 (by decide)
 |cons c t=>
  have hl:Bg c=true:=by
   rw[Dj]at h4;have:=((Zb _ _).mp h4).1;simpa using this
  exact .name (c::t) h (by simpa using h3) c t rfl hl (Rd true _ h4)
theorem Gl {x:Bs}(h:Eb x=true):Me ⟨4,x,0⟩:=⟨pc_sign h,fun e=>absurd (show(4:Int)=3 from e) (by decide),Vd⟩
theorem bY {o:Int}(h:0<Bi o∨o=17∨o=18∨o=19):Eb (Cj o)=true:=by
 rcases h with h|rfl|rfl|rfl
 ·obtain⟨i,rfl⟩:=iF h
  exact(by decide:∀i:Fin 16,Eb (Cj ((i.val:Int)+1))=true) i
 ·decide
 ·decide
 ·decide
inductive N64:Ex→Prop
 |mk (k o n:Int) (nm:Bs) (args:List Ex) (h:I64 n) (ha:∀x,x∈args→N64 x):N64 (.mk k o n nm args)
theorem As.app {a b:List Pc}(h1:As a)(h2:As b):As (a++b):=fun p hp=>by
 rcases List.mem_append.1 hp with h|h
 ·exact h1 p h
 ·exact h2 p h
theorem As.cons {p:Pc}{l:List Pc}(h1:match p with|.t x=>Me x|.g b=> ∀c,c∈b→Av c=true)(h2:As l):As (p::l):=fun q hq=>by
 rcases List.mem_cons.1 hq with rfl|h
 ·exact h1
 ·exact h2 q h
theorem As.nil:As []:=fun p hp=>by cases hp
theorem Un {e:Ex}{lv:Int}(h:As (Cr e)):As (Kg e lv):=by
 unfold Kg Ke;split
 ·exact As.app (As.app (As.cons (Gl (by decide)) As.nil) h) (As.cons (Gl (by decide)) As.nil)
 ·exact h
theorem Ih {e:Ex}(h:WEx e)(hn:N64 e):As (Cr e):=by
 induction h with
 |num n h=>cases hn with|mk _ _ _ _ _ h1 ha=>rw[aZ];exact As.cons (kA h h1) As.nil
 |var s h=>rw[aM];exact As.cons (Qk h) As.nil
 |one o x ho hx ih=>cases hn with|mk _ _ _ _ _ h1 ha=>rw[Ym];exact As.cons (Gl (bY (.inr ho))) (Un (ih (ha x Za)))
 |two o x y ho hx hy ihx ihy=>
  cases hn with
  |mk _ _ _ _ _ h1 ha=>
   rw[bH];refine As.app (Un (ihx (ha x Za))) (As.cons (by show ∀c,c∈[32]→_;decide) (As.cons (Gl (bY (.inl ho))) (As.cons (by show ∀c,c∈[32]→_;decide) (Un (ihy (ha y (by simp)))))))
 |call s l h hl hx ih=>
  cases hn with
  |mk _ _ _ _ _ h1 ha=>
   rw[Og];refine As.cons (Qk h) (As.cons (Gl (by decide)) (As.app ?_ (As.cons (Gl (by decide)) As.nil)));have hm:∀(l:List Ex),(∀x,x∈l→As (Cr x))→As (l.flatMap (fun y=>[sg [44],.g [32]]++Cr y)):=by
    intro l hl p hp;obtain⟨y,hy,hp⟩:=List.mem_flatMap.1 hp;exact As.app (As.cons (Gl (by decide)) (As.cons (by show ∀c,c∈[32]→_;decide) As.nil)) (hl y hy) p hp
   cases l with
   |nil=>exact As.nil
   |cons x l=>
    rw[Wz];exact As.app (ih x Za (ha x Za)) (hm l (fun y hy=>ih y (Zc _ hy) (ha y (Zc _ hy))))
 |idx s x h hx ih=>
  cases hn with
  |mk _ _ _ _ _ h1 ha=>rw[bC];exact As.cons (Qk h) (As.cons (Gl (by decide)) (As.app (ih (ha x Za)) (As.cons (Gl (by decide)) As.nil)))
 |read=>rw[aN];exact As.cons ⟨cI (by decide) (by decide),fun e=>absurd (show(2:Int)=3 from e) (by decide),Vd⟩ (As.cons (Gl (by decide)) (As.cons (Gl (by decide)) As.nil))
theorem Ai.n64 {D:Nat→Prop}{w:World}{l:List Ex}{v:Value}(h:Ai D w l v):∀x,x∈l→N64 x:=by
 induction h with
 |mk l a cap b off sv hcap hfit ha h0 h1 h2 h3 h4 hs hn ih=>
  intro x hx;obtain⟨i,hi,rfl⟩:=List.getElem_of_mem hx;have e:Bh l i=l[i]:=by simp [Bh,Zv hi]
  have h1:=ih i hi;have h2:=hn i hi;rw[e]at h1 h2;generalize l[i]=y at h1 h2;obtain⟨k,o,n,nm,args⟩:=y;exact .mk k o n nm args h2 h1
theorem tok_ne {x:T3}(h:Me x):x.text≠[]:=h.1.ne
theorem Uw:∀l:List Pc,As l→(Gj l).length≤(Ao l).length
 |[],h=>Nat.le_refl _
 |.g b::l,h=>by
  have:=Uw l (fun p hp=>h p (Zc _ hp));show(Gj l).length≤(b++Ao l).length
  rw[Ze];omega
 |.t x::l,h=>by
  have:=Uw l (fun p hp=>h p (Zc _ hp));have h1:x.text≠[]:=tok_ne (h (.t x) Za);have h2:0<x.text.length:=List.length_pos_iff.2 h1;show(Gj l).length+1≤(x.text++Ao l).length
  rw[Ze];omega
theorem aR {x:T3}(h:Me x):Az x.text=0:=by
 refine Mw _ (fun hm=>?_);obtain⟨h1,h2,_⟩:=h;obtain⟨k,t,n⟩:=x;dsimp only at h1 h2 hm
 cases h1 with
 |name x hx hk c t hc hl ha=>exact absurd (ha 10 hm).2 (by decide)
 |word x hk c t hc hl ha=>exact absurd (ha 10 hm).2 (by decide)
 |num u hu hi c t hc hd=>exact absurd (Hn u 10 hm) (by decide)
 |quote r x=>exact absurd rfl (h2 rfl _)
 |sign x hs c t hc h7 hn=>
  rcases Gq hs with rfl|rfl|rfl|rfl|rfl|rfl|rfl|rfl|rfl|rfl|rfl|rfl|rfl|rfl|rfl|rfl|rfl|rfl|rfl|rfl|rfl|rfl|rfl|rfl|rfl|rfl|rfl<;>exact absurd hm (by decide)
end Go.Proofs.YtfhbinbjkpfedaaGreatDoor

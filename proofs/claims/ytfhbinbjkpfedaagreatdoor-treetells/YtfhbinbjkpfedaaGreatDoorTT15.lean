/-
  Small trees in memory, put together; awake: the example. Conditions: the library's table of powers is there.
-/
import Derived.Test.YtfhbinbjkpfedaaGreatDoorTT14
import Derived.Test.YtfhbinbjkpfedaaGreatDoorTT04
set_option linter.unusedVariables false
set_option linter.unusedSimpArgs false
namespace Go.Proofs.YtfhbinbjkpfedaaGreatDoor
open Go.RowKit Go.Proofs.Tryz
set_option maxHeartbeats 20000000
set_option maxRecDepth 100000
open Go.Lib renaming hid→Za,decDigits→Zo
open List renaming length_append→Zb,length_cons→Zc,length_nil→Zd,mem_cons_self→Ze,mem_cons_of_mem→Zf,flatten_cons→Zi,flatten_nil→Zj,all_eq_true→Zp,getElem?_eq_getElem→Zs,mem_singleton→Zt,mem_cons→Zu,map_cons→Zv,append_assoc→Zw,sizeOf_lt_of_mem→Zx,not_mem_nil→Zy
open Bool renaming and_eq_true→Zg
open Nat renaming zero_le→Zh,le_refl→Zk,add_mul→Zm,mul_le_mul_right→Zn,le_trans→Zq
open SFr renaming of_below→Zl
open Go.RowKit.Below renaming refl→Zr
theorem Cl {l:Bs}(h:An l=true):l.length≤20:=by
 unfold An at h;simp only[Zg,decide_eq_true_eq]at h;exact h.1.1.2
theorem Vi(L:Nat):∀l:List Bs,(∀x,x∈l→x.length≤L)→(Ba l).length≤l.length*(L+2)
 |[],_=>by simp [Ba]
 |x::l,h=>by
  have more:∀m:List Bs,(∀x,x∈m→x.length≤L)→(m.flatMap (fun y=>[44,32]++y)).length≤m.length*(L+2):=by
   intro m
   induction m with
   |nil=>intro _;simp
   |cons y m ih=>
    intro hm;have h1:=hm y Ze;have h2:=ih (fun z hz=>hm z (Zf _ hz));simp only[List.flatMap_cons,Zb,Zc,Zd]at h2 ⊢;rw[Zm];omega
  have h1:=h x Ze;have h2:=more l (fun z hz=>h z (Zf _ hz));rw[Ba,Zb,Zc,Zm];omega
theorem Ka(e:Ex)(lev:Int)(t:Bs):(Cn e lev t).length≤t.length+2:=by
 unfold Cn;split
 ·simp
 ·omega
theorem Uf:∀i:Fin 20,(Ck i.val).length≤2:=by decide+kernel
theorem Nq(o:Int):(Ck o).length≤2:=by
 by_cases h:0≤o∧o≤19
 ·have e1:((o.toNat:Nat):Int)=o:=Int.toNat_of_nonneg (by omega)
  have:=Uf ⟨o.toNat,by omega⟩;simp only[e1]at this;exact this
 ·unfold Ck
  rw[if_neg (by omega),if_neg (by omega),if_neg (by omega),if_neg (by omega),if_neg (by omega),if_neg (by omega),if_neg (by omega),if_neg (by omega),if_neg (by omega),if_neg (by omega),if_neg (by omega),if_neg (by omega),if_neg (by omega),if_neg (by omega),if_neg (by omega),if_neg (by omega),if_neg (by omega),if_neg (by omega),if_neg (by omega)];exact Zh _
theorem dA(n:Int)(h:0≤n∧n≤9223372036854775807)(o:Int)(nm:Bs)(l:List Ex):(Ae (.mk 1 o n nm l)).length≤21:=by
 rw[Lc];exact Lib.itoa_length_le n (by omega) h.2
theorem Xb {L:Nat}{nm:Bs}{l:List Ex}(hn:nm.length≤20)(h6:l.length≤6)(hl:∀x,x∈l→(Ae x).length≤L):(Ae (.mk 5 0 0 nm l)).length≤6*L+64:=by
 rw[Iu];have:=Vi L (l.map Ae) (fun x hx=>by
  obtain⟨y,hy,rfl⟩:=List.mem_map.1 hx;exact hl y hy)
 simp only[List.length_map,Zb,Zc,Zd]at this ⊢;have:l.length*(L+2)≤6*(L+2):=Zn _ h6;omega
theorem Tt {sc:Sc}(hs:sc.Ok)(raw:List Int)(g:Nat→Ex ×Nat)(L:Nat)(hg:∀a,(Ae (g a).1).length≤L)(a:Nat):(Ae (Gw sc raw g a).1).length≤6*L+64:=by
 unfold Gw;split
 ·have h7:=Ak raw (Ad raw a 312).2 7 (by decide)
  exact Xb (Cl (Hu _)) (by rw[Gt];omega) (Hs g (fun x=>(Ae x).length≤L) hg _ _)
 ·rename_i hn
  have hl:=Wa hn;have hr:=Ak raw a sc.funcs.length (by omega);have hf:An (Bc sc.funcs (Ad raw a sc.funcs.length).1.toNat).name=true∧(Bc sc.funcs (Ad raw a sc.funcs.length).1.toNat).params.length≤6:=hs.funcs _ (iD (d:=Fu.nil) (i:=(Ad raw a sc.funcs.length).1.toNat) (by omega));dsimp only;generalize Bc sc.funcs (Ad raw a sc.funcs.length).1.toNat=f at hf ⊢;exact Xb (Cl hf.1) (by rw[Gt];exact hf.2) (Hs g (fun x=>(Ae x).length≤L) hg _ _)
theorem Tz {sc:Sc}(hs:sc.Ok)(raw:List Int)(g:Nat→Ex ×Nat)(L:Nat)(hg:∀a,(Ae (g a).1).length≤L)(k:Int)(a:Nat):(Ae (Eg sc raw g k a).1).length≤6*L+64:=by
 unfold Eg;split
 ·have:=Cl (Mw hs raw a)
  dsimp only;rw[Jr];omega
 split
 ·dsimp only;rw[Ju];simp
 split
 ·have h1:=Ak raw (if k=3 then(Ad raw a 3).2 else a) 1000 (by decide)
  have h2:=Kz _ (Ad raw (Ad raw (if k=3 then(Ad raw a 3).2 else a) 1000).2 8).1 h1;have:=dA _ h2 0 [] [];dsimp only;omega
 split
 ·have:=hg (Ad raw a 3).2
  dsimp only;rw[Jc _ _ _ _ (by simp)];have h2:=Nq (17+(Ad raw a 3).1);have h3:=Ka (g (Ad raw a 3).2).1 9 (Ae (g (Ad raw a 3).2).1);show(Ck _++Cn (g (Ad raw a 3).2).1 9 (Ae (g (Ad raw a 3).2).1)).length≤_
  rw[Zb];omega
 split
 ·have h1:=Cl (Mb hs raw a)
  have h2:=hg (Cr sc.free sc.arrays raw a).2;dsimp only;rw[Iv _ _ _ _ (by simp)];show(_++[91]++Ae (g (Cr sc.free sc.arrays raw a).2).1++[93]).length≤_
  simp only[Zb,Zc,Zd];omega
 split
 ·exact Tt hs raw g L hg a
 ·dsimp only;rw[Ja _ _ _ _ (by simp)]
  have h1:=hg (Ad raw a 16).2;have h2:=hg (g (Ad raw a 16).2).2;have h3:=Nq (1+(Ad raw a 16).1);have h4:=Ka (g (Ad raw a 16).2).1 (Au (1+(Ad raw a 16).1)) (Ae (g (Ad raw a 16).2).1);have h5:=Ka (g (g (Ad raw a 16).2).2).1 (Au (1+(Ad raw a 16).1)+1) (Ae (g (g (Ad raw a 16).2).2).1);show(Cn (g (Ad raw a 16).2).1 (Au (1+(Ad raw a 16).1)) (Ae (g (Ad raw a 16).2).1)++([32]++(Ck _++[32]))++Cn (g (g (Ad raw a 16).2).2).1 (Au (1+(Ad raw a 16).1)+1) (Ae (g (g (Ad raw a 16).2).2).1)).length≤_
  simp only[Zb,Zc,Zd];omega
def exB:Nat→Nat
 |0=>64
 |d+1=>6*exB d+64
theorem Ip {sc:Sc}(hs:sc.Ok)(raw:List Int):∀d a,(Ae (Az sc raw d a).1).length≤exB d
 |0,a=>by
  rw[Az];unfold Pg;have:=Tz hs raw (fun a=>(Ex.nil,a)) 0 (fun a=>by show(Ae (.mk 0 0 0 [] [])).length≤0;rw[Gq];decide) (gK raw 0 a) (Ad raw a 12).2;simp only[exB];omega
 |d+1,a=>by
  rw[Az];unfold Pg;exact Tz hs raw _ (exB d) (Ip hs raw d) _ _
theorem jE(t:Nat):(Am t).length=t:=List.length_replicate
theorem Gb(t:Nat)(l:List Bs):(ln t l).length=t+l.flatten.length+1:=by unfold ln;rw[Zb,Zb,jE];rfl
theorem Ys {t N L T E:Nat}{k:Int}{nm:Bs}{args:List Ex}{thn els:List St}(hn:nm.length≤N)(ha:∀x,x∈args→(Ae x).length≤L)(hT:(Ag (t+1) thn).length≤T)(hE:(Ag (t+1) els).length≤E):(Br t (.mk k nm args thn els)).length≤3*t+N+2*L+T+E+40:=by
 have hx:∀i,(Ae (Ao args i)).length≤L:=fun i=>by
  unfold Ao;rcases Nat.lt_or_ge i args.length with h|h
  ·rw[List.getD_eq_getElem?_getD,Zs h];exact ha _ (List.getElem_mem h)
  ·rw[List.getD_eq_getElem?_getD,List.getElem?_eq_none h]
   show(Ae (.mk 0 0 0 [] [])).length≤L
   rw[Gq];exact Zh _
 have h0:=hx 0;have h1:=hx 1;rw[Cj];unfold Cf
 repeat' split
 all_goals
  try simp only[Gb,Zb,Zi,Zj,Zc,Zd]
  try omega
theorem Up {t B:Nat}:∀l:List St,(∀x,x∈l→(Br t x).length≤B)→(Ag t l).length≤l.length*B
 |[],_=>by simp [Ag]
 |x::l,h=>by
  have h1:=h x Ze;have h2:=Up l (fun z hz=>h z (Zf _ hz));rw[Ag,Zb,Zc,Zm];omega
theorem Vz {sc:Sc}(hs:sc.Ok)(raw:List Int)(gs gl:Nat→List St ×Nat)(T:Nat)(t:Nat)(hgs:∀a,(Ag (t+1) (gs a).1).length≤T)(hgl:∀a,(Ag (t+1) (gl a).1).length≤T)(k:Int)(a:Nat):
  ∃k' nm args thn els,(Cb sc raw gs gl k a).1=.mk k' nm args thn els∧nm.length≤20∧(∀x,x∈args→(Ae x).length≤exB 3)∧(Ag (t+1) thn).length≤T∧(Ag (t+1) els).length≤T:=by
 have z:(Ag (t+1) []).length≤T:=Zh _;have nn:∀x:Ex,x∈([]:List Ex)→(Ae x).length≤exB 3:=fun x hx=>by cases hx
 have n0:([]:Bs).length≤20:=Zh _;have ee:∀a,∀x,x∈[(Az sc raw 3 a).1]→(Ae x).length≤exB 3:=fun a x hx=>by rw[Zt.1 hx];exact Ip hs raw 3 a
 unfold Cb;split
 ·exact⟨_,_,_,_,_,rfl,Cl (Mw hs raw a),nn,z,z⟩
 split
 ·exact⟨_,_,_,_,_,rfl,Cl (Mb hs raw a),ee _,z,z⟩
 split
 ·exact⟨_,_,_,_,_,rfl,n0,fun x hx=>by rw[Zt.1 hx];exact Tt hs raw _ (exB 2) (Ip hs raw 2) a,z,z⟩
 split
 ·exact⟨_,_,_,_,_,rfl,n0,nn,z,z⟩
 split
 ·exact⟨_,_,_,_,_,rfl,n0,ee _,hgs _,hgs _⟩
 split
 ·exact⟨_,_,_,_,_,rfl,n0,ee _,hgl _,z⟩
 split
 ·exact⟨_,_,_,_,_,rfl,n0,nn,z,z⟩
 ·exact⟨_,_,_,_,_,rfl,n0,nn,z,z⟩
theorem cY {sc:Sc}(hs:sc.Ok)(raw:List Int)(gs gl:Nat→List St ×Nat)(T:Nat)(t d:Nat)(hgs:∀a,(Ag (t+1) (gs a).1).length≤T)(hgl:∀a,(Ag (t+1) (gl a).1).length≤T)(a:Nat):(Br t (gSt sc raw gs gl d a).1).length≤3*t+2*exB 4+2*T+60:=by
 unfold gSt;dsimp only;obtain⟨k,nm,args,thn,els,h,h1,h2,h3,h4⟩:=Vz hs raw gs gl T t hgs hgl (Oo raw d a) (Ad raw a 14).2;generalize (Cb sc raw gs gl (Oo raw d a) (Ad raw a 14).2).2=b;rw[h];have h2:∀x,x∈args→(Ae x).length≤exB 4:=fun x hx=>Zq (h2 x hx) (by decide)
 unfold Ib;split
 ·have:=Ys (k:=k) (N:=20) (L:=exB 4) h1 (args:=args++[(Az sc raw 4 b).1]) (fun x hx=>by
   rcases List.mem_append.1 hx with hx|hx
   ·exact h2 x hx
   ·rw[Zt.1 hx];exact Ip hs raw 4 b) h3 h4
  show(Br t (.mk k nm (args++[(Az sc raw 4 b).1]) thn els)).length≤_
  omega
 ·have:=Ys (k:=k) (N:=20) (L:=exB 4) h1 h2 h3 h4
  show(Br t (.mk k nm args thn els)).length≤_
  omega
def stB:Nat→Nat
 |0=>4*(2*exB 4+100)
 |d+1=>4*(2*exB 4+2*stB d+100)
theorem Rn(one:Nat→St ×Nat)(P:St→Prop)(hg:∀a,P (one a).1)(c a:Nat):∀x,x∈(Gy one c a).1→P x:=Lx one P hg c a
theorem five(raw:List Int)(a:Nat):(Ad raw a 5).1.toNat≤4:=by have:=Ak raw a 5 (by decide);omega
theorem Mp(raw:List Int):∀(d t:Nat) (sc:Sc),sc.Ok→t+d≤10→∀a,(Ag t (Fi raw d sc a).1).length≤stB d
 |0,t,sc,hs,ht,a=>by
  rw[Fi];have h1:=Up (t:=t) (B:=2*exB 4+100) _ (Rn _ (fun x=>(Br t x).length≤2*exB 4+100) (fun b=>Zq (cY hs raw (fun a=>([],a)) (fun a=>([],a)) 0 t 0 (fun _=>Zk _) (fun _=>Zk _) b) (by omega)) (Ad raw a 5).1.toNat (Ad raw a 5).2);rw[Jt]at h1;exact Zq h1 (Zn _ (five raw a))
 |d+1,t,sc,hs,ht,a=>by
  rw[Fi];have h1:=Up (t:=t) (B:=2*exB 4+2*stB d+100) _ (Rn _ (fun x=>(Br t x).length≤2*exB 4+2*stB d+100) (fun b=>Zq (cY hs raw (Fi raw d sc) (Fi raw d sc.inLoop) (stB d) t (d+1) (Mp raw d (t+1) sc hs (by omega)) (Mp raw d (t+1) sc.inLoop hs.inLoop (by omega)) b) (by omega)) (Ad raw a 5).1.toNat (Ad raw a 5).2);rw[Jt]at h1;exact Zq h1 (Zn _ (five raw a))
def Free(p:UInt8→Bool)(r:Bs):Prop:= ∀c l,r=c::l→p c=false
theorem Vf {l:Bs}(h:An l=true):l≠[]∧Fd l=false∧Cw true l=true:=by
 unfold An at h;simp only[Zg,Bool.not_eq_true']at h;exact⟨by intro e;subst e;simp at h,h.1.2,h.2⟩
theorem Vy {l:Bs}(h:An l=true):∃c m,l=c::m∧Ce c=true:=by
 obtain⟨h1,h2,h3⟩:=Vf h
 cases l with
 |nil=>exact absurd rfl h1
 |cons c m=>
  refine⟨c,m,rfl,?_⟩;rw[Cw,Zg]at h3;simpa using h3.1
theorem aH(u:Nat):(∀x,x∈Zo u→Dn x=true)∧Zo u≠[]:=by
 induction u using Nat.strongRecOn with
 |_ u ih=>
  have dig:∀i:Fin 10,Dn (UInt8.ofNat (48+i.val))=true:=by decide+kernel
  by_cases h:u<10
  ·rw[Zo,dif_pos h]
   exact⟨fun x hx=>by rw[Zt.1 hx];exact dig ⟨u,h⟩,by simp⟩
  ·rw[Zo,dif_neg h]
   refine⟨fun x hx=>?_,by simp⟩;rcases List.mem_append.1 hx with hx|hx
   ·exact(ih (u / 10) (by omega)).1 x hx
   ·rw[Zt.1 hx];exact dig ⟨u % 10,by omega⟩
theorem gQ {n:Int}(h:0≤n):Lib.itoa n=Zo n.toNat:=by unfold Lib.itoa;rw[if_neg (by omega)]
def Stop(r:Bs):Prop:= ∀c l,r=c::l→c=41∨c=93∨c=44∨c=59∨c=32
def cls(c:UInt8):Nat:=if c=40 then 1 else if Dn c then 2 else if Ce c then 3 else if c=45∨c=33∨c=126 then 4 else 0
theorem eG {c:UInt8}(h:Dn c=true):cls c=2:=by
 unfold cls;rw[if_neg (by rintro rfl;revert h;decide),if_pos h]
theorem cC {c:UInt8}(h:Ce c=true):cls c=3:=by
 have hd:¬Dn c=true:=by
  intro h2;unfold Ce at h;unfold Dn at h2;simp only[Bool.or_eq_true,Zg,decide_eq_true_eq,beq_iff_eq,UInt8.le_iff_toNat_le]at h h2;rcases h with(rfl|h)|h
  ·revert h2;decide
  ·have:=h.1;have:=h2.2;simp at*;omega
  ·have:=h.1;have:=h2.2;simp at*;omega
 unfold cls;rw[if_neg (by rintro rfl;revert h;decide),if_neg hd,if_pos h]
def Ha(u:Bool ×Ex):Bs:=if u.1 then [40]++Ae u.2++[41]else Ae u.2
def Ff:List (Int ×Bool ×Ex)→Bs
 |[]=>[]
 |x::l=>[32]++Ck x.1++[32]++Ha x.2++Ff l
theorem Pl:∀l m,Ff (l++m)=Ff l++Ff m
 |[],m=>rfl
 |x::l,m=>by rw[List.cons_append,Ff,Ff,Pl l m];simp
inductive Fl:Int→Ex→(Bool ×Ex)→List (Int ×Bool ×Ex)→Prop
 |paren (lev:Int) (e:Ex) (h:e.kind=4) (hl:Au e.op<lev):Fl lev e (true,e) []
 |unit (lev:Int) (e:Ex) (h:e.kind≠4):Fl lev e (false,e) []
 |two (lev o:Int) (x y:Ex) (u v:Bool ×Ex) (l m:List (Int ×Bool ×Ex)) (h:lev≤Au o) (hx:Fl (Au o) x u l) (hy:Fl (Au o+1) y v m):Fl lev (.mk 4 o 0 [] [x,y]) u (l++(o,v)::m)
theorem Vk {e:Ex}{lev:Int}{t:Bs}(h:e.kind=4)(h2:Au e.op<lev):Cn e lev t=[40]++t++[41]:=if_pos ⟨h,h2⟩
theorem Ps {e:Ex}{lev:Int}{t:Bs}(h:¬(e.kind=4∧Au e.op<lev)):Cn e lev t=t:=if_neg h
theorem Vl {e:Ex}(hw:Bb e=true)(lev:Int):∃u l,Fl lev e u l∧Bh e lev=Ha u++Ff l:=by
 by_cases hp:e.kind=4∧Au e.op<lev
 ·exact⟨_,_,.paren lev e hp.1 hp.2,by unfold Bh;rw[Vk hp.1 hp.2];simp [Ha,Ff]⟩
 ·unfold Bh
  rw[Ps hp];have hc:=Td hw
  cases hc with
  |two o x y h hx hy=>
   have hlev:lev≤Au o:=by
    have:¬Au o<lev:=fun h=>hp ⟨rfl,h⟩
    omega
   obtain⟨u,l,h1,t1⟩:=Vl hx (Au o);obtain⟨v,m,h2,t2⟩:=Vl hy (Au o+1);refine⟨_,_,.two lev o x y u v l m hlev h1 h2,?_⟩;rw[Ja _ _ _ _ (by simp)];show Bh x (Au o)++([32]++(Ck o++[32]))++Bh y (Au o+1)=_
   rw[t1,t2,Pl,Ff];simp
  |num=>exact⟨_,_,.unit lev _ (by show(1:Int)≠4;decide),by simp [Ha,Ff]⟩
  |var=>exact⟨_,_,.unit lev _ (by show(2:Int)≠4;decide),by simp [Ha,Ff]⟩
  |one=>exact⟨_,_,.unit lev _ (by show(3:Int)≠4;decide),by simp [Ha,Ff]⟩
  |call=>exact⟨_,_,.unit lev _ (by show(5:Int)≠4;decide),by simp [Ha,Ff]⟩
  |index=>exact⟨_,_,.unit lev _ (by show(6:Int)≠4;decide),by simp [Ha,Ff]⟩
  |read=>exact⟨_,_,.unit lev _ (by show(7:Int)≠4;decide),by simp [Ha,Ff]⟩
termination_by SizeOf.sizeOf e
decreasing_by all_goals(subst_vars;simp+arith)
def iY(u:Bool ×Ex):Prop:=Bb u.2=true∧(u.1=true↔u.2.kind=4)
theorem Fl.parts {lev:Int}{e:Ex}{u:Bool ×Ex}{l:List (Int ×Bool ×Ex)}(h:Fl lev e u l)(hw:Bb e=true):(iY u∧SizeOf.sizeOf u.2≤SizeOf.sizeOf e)∧∀p,p∈l→iY p.2∧SizeOf.sizeOf p.2.2<SizeOf.sizeOf e∧0<Au p.1:=by
 induction h with
 |paren lev e h hl=>exact⟨⟨⟨hw,fun _=>h,fun _=>rfl⟩,Zk _⟩,fun p hp=>by cases hp⟩
 |unit lev e h=>exact⟨⟨⟨hw,fun e=>(by cases e),fun e=>absurd e h⟩,Zk _⟩,fun p hp=>by cases hp⟩
 |two lev o x y u v l m h hx hy ih1 ih2=>
  have hc:=Td hw
  cases hc with
  |two _ _ _ h0 wx wy=>
   obtain⟨⟨a1,a2⟩,a3⟩:=ih1 wx;obtain⟨⟨b1,b2⟩,b3⟩:=ih2 wy;have sx:SizeOf.sizeOf x<SizeOf.sizeOf (Ex.mk 4 o 0 [] [x,y]):=by simp+arith
   have sy:SizeOf.sizeOf y<SizeOf.sizeOf (Ex.mk 4 o 0 [] [x,y]):=by simp+arith
   refine⟨⟨a1,by omega⟩,fun p hp=>?_⟩;rcases List.mem_append.1 hp with hp|hp
   ·have:=a3 p hp;exact⟨this.1,by omega,this.2.2⟩
   ·rcases Zu.1 hp with rfl|hp
    ·exact⟨b1,by show SizeOf.sizeOf v.2<_;omega,h0⟩
    ·have:=b3 p hp;exact⟨this.1,by omega,this.2.2⟩
theorem dI {e:Ex}(hw:Bb e=true):Bh e 0=Ae e:=by
 unfold Bh;refine Ps (fun h=>?_);have hc:=Td hw
 cases hc with
 |two o _ _ h0 _ _=>have:Au o<0:=h.2;omega
 |_=>exact absurd h.1 (by intro h;cases h)
def hcls(u:Bool ×Ex):Nat:=if u.1 then 1 else if u.2.kind=1 then 2 else if u.2.kind=3 then 4 else 3
theorem eI {u:Bool ×Ex}(h:iY u):∃c l,Ha u=c::l∧cls c=hcls u:=by
 obtain⟨b,e⟩:=u;obtain⟨hw,hb⟩:=h
 cases b with
 |true=>exact⟨40,Ae e++[41],rfl,rfl⟩
 |false=>
  have hc:=Td hw;have nm:∀ {nm:Bs} (t:Bs),An nm=true→∃c l,nm++t=c::l∧cls c=3:=fun {nm} t h=>by
   obtain⟨c,m,rfl,hl⟩:=Vy h;exact⟨c,m++t,rfl,cC hl⟩
  cases hc with
  |num n hn=>
   obtain⟨h1,h2⟩:=aH n.toNat;show ∃c l,Ae _=c::l∧_
   rw[Lc,gQ hn]
   cases hd:Zo n.toNat with
   |nil=>exact absurd hd h2
   |cons c l=>exact⟨c,l,rfl,eG (h1 c (by rw[hd];exact Ze))⟩
  |var x hx=>
   show ∃c l,Ae _=c::l∧_
   rw[Jr];have:=nm [] hx;rw[List.append_nil]at this;exact this
  |one o x ho hx=>
   show ∃c l,Ae _=c::l∧_
   rw[Jc _ _ _ _ (by simp)];rcases ho with rfl|rfl|rfl
   ·exact⟨45,_,rfl,rfl⟩
   ·exact⟨33,_,rfl,rfl⟩
   ·exact⟨126,_,rfl,rfl⟩
  |two=>exact absurd (hb.2 rfl) (by simp)
  |call x l hx hn hl=>
   show ∃c l,Ae _=c::l∧_
   rw[Iu,Zw,Zw];exact nm _ hx
  |index x y hx hy=>
   show ∃c l,Ae _=c::l∧_
   rw[Iv _ _ _ _ (by simp),Zw,Zw];exact nm _ hx
  |read=>
   show ∃c l,Ae _=c::l∧_
   rw[Ju];exact⟨114,_,rfl,by decide⟩
theorem Ur {e:Ex}(h:Bb e=true):∃c l,Ae e=c::l∧cls c≠0:=by
 obtain⟨u,l,h1,t1⟩:=Vl h 0;rw[dI h]at t1;obtain⟨c,m,hc,hcl⟩:=eI (h1.parts h).1.1;refine⟨c,m++Ff l,by rw[t1,hc];rfl,?_⟩;rw[hcl];unfold hcls;repeat' split
 all_goals decide
theorem eK:∀l:List Ex,(∀x,x∈l→Bj x≤(Ae x).length)→Ah l≤(Ba (l.map Ae)).length
 |[],_=>Zh _
 |x::l,h=>by
  have more:∀m:List Ex,(∀x,x∈m→Bj x≤(Ae x).length)→Ah m≤((m.map Ae).flatMap (fun y=>[44,32]++y)).length:=by
   intro m
   induction m with
   |nil=>intro _;exact Zh _
   |cons y m ih=>
    intro hm;have h1:=hm y Ze;have h2:=ih (fun z hz=>hm z (Zf _ hz));simp only[Ah,Zv,List.flatMap_cons,Zb,Zc,Zd]at h2 ⊢;omega
  have h1:=h x Ze;have h2:=more l (fun z hz=>h z (Zf _ hz));rw[Zv,Ba,Zb,Ah];omega
theorem Ut(e:Ex)(lev:Int)(t:Bs):t.length≤(Cn e lev t).length:=by
 unfold Cn;split
 ·simp;omega
 ·omega
theorem He:∀(n:Nat) (e:Ex),SizeOf.sizeOf e≤n→Bb e=true→Bj e≤(Ae e).length
 |0,e,hn,_=>by cases e;simp at hn
 |n+1,e,hn,hw=>by
  have hc:=Td hw
  cases hc with
  |num k hk=>
   obtain⟨c,l,h,_⟩:=Ur hw;rw[h];simp [Bj,Ah]
  |var nm h=>
   obtain⟨c,l,h,_⟩:=Ur hw;rw[h];simp [Bj,Ah]
  |read=>
   obtain⟨c,l,h,_⟩:=Ur hw;rw[h];simp [Bj,Ah]
  |one o x h hx=>
   have ih:=He n x (by simp+arith at hn;omega) hx;rw[Jc _ _ _ _ (by simp)];have h1:1≤(Ck o).length:=by rcases h with rfl|rfl|rfl<;>decide
   have h2:(Ae x).length≤(Bh x 9).length:=Ut _ _ _;show Bj _≤(Ck o++Bh x 9).length
   simp only[Bj,Ah,Zb];omega
  |two o x y h hx hy=>
   have ih1:=He n x (by simp+arith at hn;omega) hx;have ih2:=He n y (by simp+arith at hn;omega) hy;rw[Ja _ _ _ _ (by simp)];have h1:(Ae x).length≤(Bh x (Au o)).length:=Ut _ _ _;have h2:(Ae y).length≤(Bh y (Au o+1)).length:=Ut _ _ _;show Bj _≤(Bh x (Au o)++([32]++(Ck o++[32]))++Bh y (Au o+1)).length
   simp only[Bj,Ah,Zb,Zc,Zd];omega
  |call nm l h hlen hl=>
   have:=eK l (fun x hx=>He n x (by have:=Zx hx;simp+arith at hn;omega) (hl x hx));rw[Iu];simp only[Bj,Zb,Zc,Zd];omega
  |index nm x h hx=>
   have ih:=He n x (by simp+arith at hn;omega) hx;rw[Iv _ _ _ _ (by simp)];show Bj _≤(nm++[91]++Ae x++[93]).length
   simp only[Bj,Ah,Zb,Zc,Zd];omega
theorem Fa {e:Ex}(hw:Bb e=true):Bj e≤(Ae e).length:=He _ e (Zk _) hw
theorem If(t:Nat):∀l:List St,(∀x,x∈l→Dh x≤(Br t x).length)→Ai l≤(Ag t l).length
 |[],_=>Zh _
 |x::l,h=>by
  have h1:=h x Ze;have h2:=If t l (fun z hz=>h z (Zf _ hz));rw[Ag,Zb,Ai];omega
theorem Jh:∀(n:Nat) (x:St),SizeOf.sizeOf x≤n→SOk x→∀t,Dh x≤(Br t x).length
 |0,x,hn,_=>by cases x;simp at hn
 |n+1,x,hn,hX=>by
  intro t;have hc:=canonS hX
  cases hc with
  |set nm x h hx=>
   have:=Fa hx;rw[Cj,Ox,Gb];show 1+Ah [x]+Ai []+Ai []≤t+[nm,[32,61,32],Ae x,[59]].flatten.length+1
   simp only[Ah,Ai,Zi,Zj,Zb,Zc,Zd];omega
  |store nm x y h hx hy=>
   have h1:=Fa hx;have h2:=Fa hy;rw[Cj,Pa,Gb];show 1+Ah [x,y]+Ai []+Ai []≤t+[nm,[91],Ae x,[93,32,61,32],Ae y,[59]].flatten.length+1
   simp only[Ah,Ai,Zi,Zj,Zb,Zc,Zd];omega
  |iff x a b hx ha hb=>
   have h1:=Fa hx;have h2:=If (t+1) a (fun y hy=>Jh n y (by have:=Zx hy;simp+arith at hn;omega) (ha y hy) (t+1));have h3:=If (t+1) b (fun y hy=>Jh n y (by have:=Zx hy;simp+arith at hn;omega) (hb y hy) (t+1));rw[Cj,Lr];show 1+Ah [x]+Ai a+Ai b≤(ln t [[105,102,32,40],Ae x,[41,32,123]]++(Ag (t+1) a++((if b.isEmpty then []else ln t [[125,32,101,108,115,101,32,123]]++Ag (t+1) b)++ln t [[125]]))).length
   cases b with
   |nil=>simp only[Ah,Ai,Gb,List.isEmpty_nil,if_true,Zi,Zj,Zb,Zc,Zd];omega
   |cons y b=>
    generalize hB:y::b=B at*;have:B.isEmpty=false:=by rw[←hB];rfl
    rw[this];simp only[Ah,Gb,Bool.false_eq_true,if_false,Zi,Zj,Zb,Zc,Zd];omega
  |loop x a hx ha=>
   have h1:=Fa hx;have h2:=If (t+1) a (fun y hy=>Jh n y (by have:=Zx hy;simp+arith at hn;omega) (ha y hy) (t+1));rw[Cj,Ot];show 1+Ah [x]+Ai a+Ai []≤(ln t [[119,104,105,108,101,32,40],Ae x,[41,32,123]]++(Ag (t+1) a++ln t [[125]])).length
   simp only[Ah,Ai,Gb,Zi,Zj,Zb,Zc,Zd];omega
  |brk=>rw[Cj,Om,Gb];simp [Dh,Ah,Ai]
  |cont=>rw[Cj,Oz,Gb];simp [Dh,Ah,Ai]
  |ret x hx=>
   have:=Fa hx;rw[Cj,On,Gb];show 1+Ah [x]+Ai []+Ai []≤t+[[114,101,116,117,114,110,32],Ae x,[59]].flatten.length+1
   simp only[Ah,Ai,Zi,Zj,Zb,Zc,Zd];omega
  |prt x hx=>
   have:=Fa hx;rw[Cj,Ol,Gb];show 1+Ah [x]+Ai []+Ai []≤t+[[112,114,105,110,116,40],Ae x,[41,59]].flatten.length+1
   simp only[Ah,Ai,Zi,Zj,Zb,Zc,Zd];omega
  |trp x hx=>
   have:=Fa hx;rw[Cj,Ow,Gb];show 1+Ah [x]+Ai []+Ai []≤t+[[116,114,97,112,40],Ae x,[41,59]].flatten.length+1
   simp only[Ah,Ai,Zi,Zj,Zb,Zc,Zd];omega
  |call nm l h hlen hl=>
   have hw:Bb (.mk 5 0 0 nm l)=true:=by
    have hc:=hX;obtain⟨m,hm⟩:=hc
    cases m with
    |zero=>cases hm
    |succ m=>
     simp only[De,St.args,List.all_cons,List.all_nil,Zg]at hm;exact Qz hm.1.1.2.1
   have:=Fa hw;rw[Cj,Mo,Gb];show 1+Ah [.mk 5 0 0 nm l]+Ai []+Ai []≤t+[Ae (.mk 5 0 0 nm l),[59]].flatten.length+1
   simp only[Ah,Ai,Zi,Zj,Zb,Zc,Zd];omega
theorem cP(b off j:Nat):(⟨b,off,none⟩:Addr).add j=⟨b,off+j,none⟩:=by unfold Addr.add;split<;>simp_all
theorem dL(x:Ex)(a:Option Addr)(n c:Nat):∀u,u∈Aq x (.slice a n c)→u.oneCell'=true:=by
 intro u hu;simp only[Aq,Zu,Zy,or_false]at hu;rcases hu with rfl|rfl|rfl|rfl|rfl<;>rfl
theorem jT {D:Nat→Prop}{w:World}{l:List Ex}{a:Option Addr}{n cap:Nat}(h:Aj D w l (.slice a n cap))(hl:0<l.length):∃(b off:Nat) (ps:List (Ex ×Value)),a=some ⟨b,off,none⟩∧D b∧ps.map (·.1)=l∧(∀j u,(Dk ps)[j]? =some u→w.cell? ((⟨b,off,none⟩:Addr).add j)=some u)∧
  (∀p,p∈ps→Aj D w p.1.args p.2∧I64 p.1.n)∧(∀u,u∈Dk ps→u.oneCell'=true):=by
 cases h with
 |mk _ _ _ b off sv hcap hfit ha h0 h1 h2 h3 h4 hs hn=>
  have hab:a=some ⟨b,off,none⟩∧D b:=by rcases ha with h|h;omega;exact h
  have hps:∀p,p∈(List.range l.length).map (fun i=>(Ao l i,sv i))→∃i,i<l.length∧p=(Ao l i,sv i):=fun p hp=>by
   obtain⟨i,hi,rfl⟩:=List.mem_map.1 hp;exact⟨i,List.mem_range.1 hi,rfl⟩
  refine⟨b,off,(List.range l.length).map (fun i=>(Ao l i,sv i)),hab.1,hab.2,?_,?_,?_,?_⟩
  ·apply List.ext_getElem
   ·simp
   ·intro i h1 h2
    simp [Ao,Zs h2]
  ·intro j u hu
   have hj:j<l.length*5:=by
    have:=(List.getElem?_eq_some_iff.1 hu).1;rw[Mr]at this;simpa using this
   have hi:j / 5<l.length:=by omega
   have hq:j % 5<5:=Nat.mod_lt _ (by decide);have hg:((List.range l.length).map (fun i=>(Ao l i,sv i)))[j / 5]? =some (Ao l (j / 5),sv (j / 5)):=by simp [List.getElem?_map,List.getElem?_range hi]
   have he:=Oi _ (j / 5) (j % 5) _ hg hq;rw[show j / 5*5+j % 5=j by omega]at he;rw[he]at hu;rw[cP,show off+j=off+j / 5*5+j % 5 by omega];have c0:=h0 _ hi;have c1:=h1 _ hi;have c2:=h2 _ hi;have c3:=h3 _ hi;have c4:=h4 _ hi;generalize j % 5=q at*;generalize j / 5=i at*;have hq5:q=0∨q=1∨q=2∨q=3∨q=4:=by omega
   rcases hq5 with rfl|rfl|rfl|rfl|rfl
   ·cases hu;exact c0
   ·cases hu;exact c1
   ·cases hu;exact c2
   ·cases hu;exact c3
   ·cases hu;exact c4
  ·intro p hp
   obtain⟨i,hi,rfl⟩:=hps p hp;exact⟨hs i hi,hn i hi⟩
  ·intro u hu
   unfold Dk at hu;obtain⟨p,hp,hu⟩:=List.mem_flatMap.1 hu;obtain⟨i,hi,rfl⟩:=hps p hp;obtain⟨x1,x2,hx⟩:=(hs i hi).shape;rw[show(Ao l i,sv i).2=sv i from rfl,hx]at hu;exact dL _ _ _ _ u hu
theorem jX {w w8:World}{base N g cap:Nat}{e0:Ex}{xv:Value}{ps:List (Ex ×Value)}(D0:Nat→Prop)(hD0:∀b,D0 b→base≤b∧b<N)(hk:Fe D0 w w8)(hgN:N≤g)(h0:Aj D0 w e0.args xv)(hn:I64 e0.n)(hp:∀p,p∈ps→Aj D0 w p.1.args p.2∧I64 p.1.n)(hf:Ci (1+ps.length))
  (hown:w8.ownsRow base 31 5 (.slice (some ⟨g,0,none⟩) (1+ps.length) cap) (1+ps.length) (Aq e0 xv++Dk ps)):
  Aj (base≤ ·) w8 (e0::ps.map (·.1)) (.slice (some ⟨g,0,none⟩) (1+ps.length) cap):=by
 have keep:∀(l:List Ex) (u:Value),Aj D0 w l u→Aj (fun b=>base≤b∧(Value.slice (some ⟨g,0,none⟩) (1+ps.length) cap).ownBlock≠some b) w8 l u:=by
  intro l u hu;refine(hu.keep hk).mono (fun b hb=>⟨(hD0 b hb).1,fun e=>?_⟩);have e:some g=some b:=e
  cases e
  have:=(hD0 _ hb).2;omega
 have hl:((e0,xv)::ps).length=1+ps.length:=by simp;omega
 have ho:Dt w8 base ((e0,xv)::ps) (.slice (some ⟨g,0,none⟩) (1+ps.length) cap):=by
  refine⟨?_,fun p hp'=>?_⟩
  ·rw[hl];exact hown
  ·rcases Zu.1 hp' with rfl|hp'
   ·exact⟨keep _ _ h0,hn⟩
   ·exact⟨keep _ _ (hp p hp').1,(hp p hp').2⟩
 have:=ho.exs (by rw[hl];exact hf);exact this
theorem Og {sc:Sc}(hs:sc.Ok)(raw:List Int)(d a:Nat)(hd:d≤40):Bj (Az sc raw d a).1≤exB d:=
 Zq (Fa (by have:=Ii hs raw d a hd;unfold Be at this;rw[Zg]at this;exact this.2)) (Ip hs raw d a)
def gC(w:World)(s:Nat)(raw:List Int)(r:Ending)(w':World):Prop:= ∃(e:Ex) (v:Value) (a':Nat),r=.returned (exV e v)∧As w' s raw a'∧SFr s w w'∧Aj (w.heap.size≤ ·) w' e.args v∧I64 e.n∧Bj e≤20000
def WMid(w:World)(s:Nat)(raw:List Int)(X:Nat)(wx:World):Prop:= ∃(e:Ex) (va:Option Addr) (vc a':Nat),Al wx X [.int .i64 e.kind,.int .i64 e.op,.int .i64 e.n,.string (Aa e.name),.slice va e.args.length vc] 31∧
 Al wx (w.heap.size+1) [.int .i64 0,.int .i64 0,.int .i64 0,.string ⟨#[]⟩,.slice none 0 0] 31∧As wx s raw a'∧SFr s w wx∧Aj (w.heap.size+2≤ ·) wx e.args (.slice va e.args.length vc)∧I64 e.n∧Bj e≤20000
theorem bF {w w':World}{s N:Nat}{raw:List Int}{a:Nat}(h:As w s raw a)(hg:w.grownBy w' (some N))(hN:s<N):As w' s raw a:=by
 have hl:=h.lt;obtain⟨v,hb,hi,ha⟩:=h;refine⟨v,(hg.block s hl (fun e=>by cases e;exact Nat.lt_irrefl _ hN)).trans hb,hi.keep (fun b off x hd hx=>?_),ha⟩;have hd:b<s:=hd;exact hg.cell hx (fun e=>by have e2:b=N:=Option.some.inj e;omega)
theorem Rs {w w':World}{b N:Nat}{cs:List Value}{T:TypeId}(h:Al w b cs T)(hg:w.grownBy w' (some N))(hN:b≠N):Al w' b cs T:=(hg.block b h.lt (fun e=>hN (by cases e;rfl))).trans h
theorem Of {P:Program}(w:World){ops:Array Oper}{o:Oper}{a:Act}{K:Act→World→Prop}{Q:Exit→Act→World→Prop}{E:Prop}(hgd:o.guard=none)(s x:Operand)(t:TypeId)
  (ho:o.op=.call {callee:=.builtin .append,args:= #[s,x],argTypes:= #[t,t]}) (e:TypeId) (i:TypeInfo) (ht:P.underlying t=some (.slice e)) (hi:P.info? e=some i)
  (b:Option Addr) (n c:Nat) (hle:n≤c) (hs:a.eval s=.slice b n c) (xa:Option Addr) (xc:Nat) (hx:a.eval x=.slice xa 0 xc) (h:K (a.put o.dst (.slice b n c)) w):
  if Region.wanted o (yielded ops a.tmps)=true then Oper.wp P o a w K Q else E:=by
 have hw:Region.wanted o (yielded ops a.tmps)=true:=by simp [Region.wanted,hgd]
 rw[if_pos hw];have hr:(Builtin.append_ #[t,t] o.type #[.slice b n c,.slice xa 0 xc]).run P w=.ok (.slice b n c) w:=by
  cases b<;>cases xa<;>simp [Builtin.append_,run_underlying ht,sizeOf,typeInfo,hi,Builtin.lenOf,Builtin.firstCells,hle,storeCells,loadCells,loadCellsFrom]
 unfold Oper.wp execOp;simp only[ho,resolve,invoke,builtin,Sem.run_bind,Sem.run_pure,Result.andThen_ok,List.map_toArray,Zv,List.map_nil,hs,hx,hr];exact h
theorem Qf {w w5:World}{s:Nat}{raw:List Int}{X aj:Nat}{e:Ex}{e1:Option Addr}{e2:Nat}(hR:Al w5 (w.heap.size+1) [.int .i64 0,.int .i64 0,.int .i64 0,.string ⟨#[]⟩,.slice none 0 0] 31)(hS:As w5 s raw aj)(hF:SFr s w w5)
  (hE:Aj (fun b=>w.heap.size+2≤b∧b<X) w5 e.args (.slice e1 e.args.length e2)) (hX:w.heap.size+2≤X) (hs:s<w.heap.size) (hc:Bj e≤16576) (k o n:Int) (nm:Bs) (hn:I64 n) (i:Nat) (v:Value)
  (hO:Al (w5.setCell ⟨X,i,none⟩ v) X [.int .i64 k,.int .i64 o,.int .i64 n,.string (Aa nm),.slice e1 e.args.length e2] 31):WMid w s raw X (w5.setCell ⟨X,i,none⟩ v):=
 ⟨.mk k o n nm e.args,e1,e2,aj,hO,hR.other (by omega) i v,hS.other (by omega) i v,hF.setNew (by omega) i v,(hE.keep (Cq w5 (fun h=>Nat.lt_irrefl _ h.2) i v)).mono (fun b hb=>hb.1),hn,by rw[Hc]at*;show 1+Ah e.args≤_;omega⟩
theorem Xi(sc:Sc)(hok:sc.Ok)(s:Nat)(raw:List Int)(a:Nat)(vv av fv:Value)(w:World)(hs:As w s raw a)(hsc:Ec s w sc vv av fv):
  Calls Tryz.prog 26 #[scV sc vv av fv,.pointer (some ⟨s,0,none⟩)] w (gC w s raw):=by
 obtain⟨v1,v2,rfl⟩:=hsc.vars.shape;obtain⟨a1,a2,rfl⟩:=hsc.arrays.shape;obtain⟨f1,f2,rfl⟩:=hsc.funcs.shape;have hsl:=hs.lt;have hbA:Below w.heap.size w ((w.alloc (.cells #[.slice v1 sc.vars.length v2,.slice a1 sc.arrays.length a2,.slice f1 sc.funcs.length f2,.bool sc.free,.bool sc.loop] 62)).alloc (.cells #[.int .i64 0,.int .i64 0,.int .i64 0,.string ⟨#[]⟩,.slice none 0 0] 31)):=(bA).alloc (by simp) _;have GC1:=Za ((Al.new w [.slice v1 sc.vars.length v2,.slice a1 sc.arrays.length a2,.slice f1 sc.funcs.length f2,.bool sc.free,.bool sc.loop] 62).alloc (.cells #[.int .i64 0,.int .i64 0,.int .i64 0,.string ⟨#[]⟩,.slice none 0 0] 31));have hR1:=Al.new (w.alloc (.cells #[.slice v1 sc.vars.length v2,.slice a1 sc.arrays.length a2,.slice f1 sc.funcs.length f2,.bool sc.free,.bool sc.loop] 62)) [.int .i64 0,.int .i64 0,.int .i64 0,.string ⟨#[]⟩,.slice none 0 0] 31;rw[show(w.alloc (.cells #[.slice v1 sc.vars.length v2,.slice a1 sc.arrays.length a2,.slice f1 sc.funcs.length f2,.bool sc.free,.bool sc.loop] 62)).heap.size=w.heap.size+1 by simp]at hR1;have GR1:=Za hR1;have GS1:=Za (hs.old hbA);have GF1:=Za (Zl (s:=s) hbA);have GV1:=Za (hsc.sfr (Zl (s:=s) hbA));have hz1:((w.alloc (.cells #[.slice v1 sc.vars.length v2,.slice a1 sc.arrays.length a2,.slice f1 sc.funcs.length f2,.bool sc.free,.bool sc.loop] 62)).alloc (.cells #[.int .i64 0,.int .i64 0,.int .i64 0,.string ⟨#[]⟩,.slice none 0 0] 31)).heap.size=w.heap.size+2:=by simp
 have HOK:=Za hok;have H3:=Za (Gm 3 (by omega));have H2:=Za (Gm 2 (by omega));have HN0:Hid (w.heap.size≠s):=by show _≠_;omega
 have HN1:Hid (w.heap.size+1≠s):=by show _≠_;omega
 clear hbA hR1 hs hsc hok;go_enter func26,ntmps26
 go_upto_region 1 with(fail)
 generalize (w.alloc (.cells #[.slice v1 sc.vars.length v2,.slice a1 sc.arrays.length a2,.slice f1 sc.funcs.length f2,.bool sc.free,.bool sc.loop] 62)).alloc (.cells #[.int .i64 0,.int .i64 0,.int .i64 0,.string ⟨#[]⟩,.slice none 0 0] 31)=W1 at*;have q0:=GC1.out.at 0 _ rfl;have q1:=GC1.out.at 1 _ rfl;have q2:=GC1.out.at 2 _ rfl;have q3:=GC1.out.at 3 _ rfl;have q4:=GC1.out.at 4 _ rfl;have HC3:=Og HOK.o raw 3 a (by omega);have HX:=Za (H3.o s raw a sc _ _ _ W1 GS1.out GV1.out);generalize Az sc raw 3 a=g at*;obtain⟨e,ae⟩:=g;have he3:Bj e≤16576:=HC3;clear HC3 H3;go_wp2_with fail
 refine HX.o.mono ?_;rintro r w2 ⟨v,rfl,hs2,hf2,he2,hn2⟩;obtain⟨e1,e2,rfl⟩:=he2.shape;have hsz2:w.heap.size+2≤w2.heap.size:=by have:=hf2.size;omega
 have he2':=he2.strong.mono (D':=fun b=>w.heap.size+2≤b∧b<w2.heap.size) (fun b hb=>⟨by have:W1.heap.size≤b:=hb.1;omega,hb.2⟩);have hbB:Below w2.heap.size w2 (w2.alloc (.cells #[.int .i64 e.kind,.int .i64 e.op,.int .i64 e.n,.string (Aa e.name),.slice e1 e.args.length e2] 31)):=bA;have GX3:=Za (Al.new w2 [.int .i64 e.kind,.int .i64 e.op,.int .i64 e.n,.string (Aa e.name),.slice e1 e.args.length e2] 31);have GC3:=Za ((GC1.out.sfr hf2 HN0.o).old hbB);have GR3:=Za ((GR1.out.sfr hf2 HN1.o).old hbB);have GS3:=Za (hs2.old hbB);have GF3:=Za ((GF1.out.trans hf2).trans (Zl hbB));have GV3:=Za ((GV1.out.sfr hf2).sfr (Zl hbB));have GE3:=Za (he2'.old hbB);have HNN:=Za hn2;clear hs2 hf2 he2 he2' hn2 hbB HX q0 q1 q2 q3 q4 GC1 GR1 GS1 GF1 GV1 hz1;go_upto_region 2 with(fail)
 generalize w2.alloc (.cells #[.int .i64 e.kind,.int .i64 e.op,.int .i64 e.n,.string (Aa e.name),.slice e1 e.args.length e2] 31)=W3 at*;have hX:w.heap.size+2≤w2.heap.size:=hsz2;generalize w2.heap.size=X at*;have HX0:Hid (X≠s):=by show _≠_;omega
 have hgn:=Ak raw ae 6 (by decide);have HN:=Za (Bn s raw ae 6 W3 GS3.out (by decide) (by decide));generalize Ad raw ae 6=g at*;obtain⟨kk,ak⟩:=g;have hk0:0≤kk:=hgn.1;have hk6:kk<6:=hgn.2;clear hgn;go_wp2_with fail
 refine HN.o.mono ?_;rintro r w4 ⟨rfl,hs4,hf4⟩;have GX4:=Za (GX3.out.sfr hf4 HX0.o);have GC4:=Za (GC3.out.sfr hf4 HN0.o);have GR4:=Za (GR3.out.sfr hf4 HN1.o);have GS4:=Za hs4;have GF4:=Za (GF3.out.trans hf4);have GV4:=Za (GV3.out.sfr hf4);have GE4:=Za (GE3.out.keep (hf4.keepsD (fun b hb=>by have:=hb.1;omega)));clear hs4 hf4 HN GX3 GC3 GR3 GS3 GF3 GV3 GE3;dsimp only
 go_upto_block 0 with(fail)
 go_cut [] (fun wx=>WMid w s raw X wx)
 case first=>
  rcases(by omega:kk=0∨kk=1∨kk=2∨kk=3∨kk=4∨kk=5)with rfl|rfl|rfl|rfl|rfl|rfl
  ·have hgj:=Ak raw ak 10 (by decide)
   have HJ:=Za (Bn s raw ak 10 w4 GS4.out (by decide) (by decide));generalize Ad raw ak 10=g at*;obtain⟨j,aj⟩:=g;have j0:0≤j:=hgj.1;have j1:j<10:=hgj.2;have S1:IntKind.i64.wrap (j-1)=j-1:=IntWalk.i64_in _ (by omega);clear hgj;go_wp2_with fail
   refine HJ.o.mono ?_;rintro r w5 ⟨rfl,hs5,hf5⟩;have GX5:=Za (GX4.out.sfr hf5 HX0.o);have GR5:=Za (GR4.out.sfr hf5 HN1.o);have GS5:=Za hs5;have GF5:=Za (GF4.out.trans hf5);have GE5:=Za (GE4.out.keep (hf5.keepsD (fun b hb=>by have:=hb.1;omega)));clear hs5 hf5 HJ GX4 GC4 GR4 GS4 GF4 GV4 GE4;have x0:=GX5.out.at 0 _ rfl;have f0:=GX5.out.fz 0;go_wp2_with fail
   go_meet;exact Qf GR5.out GS5.out GF5.out GE5.out hX hsl he3 (j-1) e.op e.n e.name HNN.o 0 _ (GX5.out.set 0 (.int .i64 (j-1)))
  ·have hgj:=Ak raw ak 22 (by decide)
   have HJ:=Za (Bn s raw ak 22 w4 GS4.out (by decide) (by decide));generalize Ad raw ak 22=g at*;obtain⟨j,aj⟩:=g;have j0:0≤j:=hgj.1;have j1:j<22:=hgj.2;have S1:IntKind.i64.wrap (j-1)=j-1:=IntWalk.i64_in _ (by omega);clear hgj;go_wp2_with fail
   refine HJ.o.mono ?_;rintro r w5 ⟨rfl,hs5,hf5⟩;have GX5:=Za (GX4.out.sfr hf5 HX0.o);have GR5:=Za (GR4.out.sfr hf5 HN1.o);have GS5:=Za hs5;have GF5:=Za (GF4.out.trans hf5);have GE5:=Za (GE4.out.keep (hf5.keepsD (fun b hb=>by have:=hb.1;omega)));clear hs5 hf5 HJ GX4 GC4 GR4 GS4 GF4 GV4 GE4;have x0:=GX5.out.at 1 _ rfl;have f0:=GX5.out.fz 1;go_wp2_with fail
   go_meet;exact Qf GR5.out GS5.out GF5.out GE5.out hX hsl he3 e.kind (j-1) e.n e.name HNN.o 1 _ (GX5.out.set 1 (.int .i64 (j-1)))
  ·have hgj:=Ak raw ak 9 (by decide)
   have HJ:=Za (Bn s raw ak 9 w4 GS4.out (by decide) (by decide));generalize Ad raw ak 9=g at*;obtain⟨j,aj⟩:=g;have j0:0≤j:=hgj.1;have j1:j<9:=hgj.2;have S1:IntKind.i64.wrap (j-4)=j-4:=IntWalk.i64_in _ (by omega);clear hgj;go_wp2_with fail
   refine HJ.o.mono ?_;rintro r w5 ⟨rfl,hs5,hf5⟩;have GX5:=Za (GX4.out.sfr hf5 HX0.o);have GR5:=Za (GR4.out.sfr hf5 HN1.o);have GS5:=Za hs5;have GF5:=Za (GF4.out.trans hf5);have GE5:=Za (GE4.out.keep (hf5.keepsD (fun b hb=>by have:=hb.1;omega)));clear hs5 hf5 HJ GX4 GC4 GR4 GS4 GF4 GV4 GE4;have x0:=GX5.out.at 2 _ rfl;have f0:=GX5.out.fz 2;go_wp2_with fail
   go_meet;exact Qf GR5.out GS5.out GF5.out GE5.out hX hsl he3 e.kind e.op (j-4) e.name ⟨by omega,by omega⟩ 2 _ (GX5.out.set 2 (.int .i64 (j-4)))
  ·have HJ:=Za (Lq s raw ak w4 GS4.out)
   go_wp2_with fail
   refine HJ.o.mono ?_;rintro r w5 ⟨nm,aj,rfl,hs5,hf5⟩;have GX5:=Za (GX4.out.sfr hf5 HX0.o);have GR5:=Za (GR4.out.sfr hf5 HN1.o);have GS5:=Za hs5;have GF5:=Za (GF4.out.trans hf5);have GE5:=Za (GE4.out.keep (hf5.keepsD (fun b hb=>by have:=hb.1;omega)));clear hs5 hf5 HJ GX4 GC4 GR4 GS4 GF4 GV4 GE4;have x0:=GX5.out.at 3 _ rfl;have f0:=GX5.out.fz 3;go_wp2_with fail
   go_meet;exact Qf GR5.out GS5.out GF5.out GE5.out hX hsl he3 e.kind e.op e.n nm HNN.o 3 _ (GX5.out.set 3 (.string (Aa nm)))
  ·obtain⟨i0,hi0,hz0,hz1,hz2⟩:=info_parts Lh
   have hdr:Below w4.heap.size w4 w4.drew:=(Zr _ _).drew;have GXd:=Za (GX4.out.old hdr);have GRd:=Za (GR4.out.old hdr);have GSd:=Za (GS4.out.old hdr);have GFd:=Za (GF4.out.trans (Zl hdr));have GVd:=Za (GV4.out.sfr (Zl hdr));have GEd:=Za (GE4.out.old hdr);clear hdr;have x4:=GX4.out.at 4 _ rfl;have c0:=GC4.out.at 0 _ rfl;have c1:=GC4.out.at 1 _ rfl;have c2:=GC4.out.at 2 _ rfl;have c3:=GC4.out.at 3 _ rfl;have c4:=GC4.out.at 4 _ rfl;have fx4:=GX4.out.fz 4;have hX4:=GX4.out.lt;have hC4:=GC4.out.lt;have hcx:Bj (Az sc raw 2 ak).1≤2752:=Og HOK.o raw 2 ak (by omega);have HE2:=Za (H2.o s raw ak sc _ _ _ w4.drew GSd.out GVd.out);generalize Az sc raw 2 ak=g at*;obtain⟨x,ax⟩:=g;have hcx:Bj x≤2752:=hcx;clear H2 GV4 GVd GC4
   by_cases hz:e.args.length=0
   ·have HZ:=Za hz
    rw[hz]at GX4 GXd GE4 GEd x4;clear hz;go_wp2_with fail
    go_region_law (first
     |((try go_simp);go_at_call 27;refine HE2.o.mono ?_;rintro r w5 ⟨xv,he,hs5,hf5,hx5,hn5⟩;obtain⟨xs,xc,hxv⟩:=hx5.shape;subst hxv;subst he;have hc:∀b o,b<_→b≠s→w5.cell? ⟨b,o,none⟩=_:=fun b o h hn=>World.cell?_of_block (a:=⟨b,o,none⟩) (hf5.block b h hn);have hz5:w4.heap.size≤w5.heap.size:=hf5.size;have GX5:=Za (GXd.out.sfr hf5 HX0.o);have GR5:=Za (GRd.out.sfr hf5 HN1.o);have GS5:=Za hs5;have GF5:=Za (GFd.out.trans hf5);have GE5:=Za (GEd.out.keep (hf5.keepsD (fun b hb=>by have:=hb.1;omega)));have u4:=GX5.out.at 4 _ rfl;have fu4:=GX5.out.fz 4;have hX5:=GX5.out.lt;have Gx5:=Za (hx5.strong.mono (D':=fun b=>w4.heap.size≤b∧b<w5.heap.size) (fun b hb=>hb));have Hn5:=Za hn5;clear hs5 hf5 hx5 hn5;have hw6:Below w5.heap.size w5 (w5.alloc (.cells #[.int .i64 x.kind,.int .i64 x.op,.int .i64 x.n,.string (Aa x.name),.slice xs x.args.length xc] 31)):=bA;have GX6:=Za (GX5.out.old hw6);have GR6:=Za (GR5.out.old hw6);have GS6:=Za (GS5.out.old hw6);have GF6:=Za (GF5.out.trans (Zl hw6));have GE6:=Za (GE5.out.old hw6);have Gx6:=Za (Gx5.out.old hw6);have GN6:=Za (Bx.new w5 (Aq x (.slice xs x.args.length xc)) 31);clear hw6)
     |(refine Of _ rfl _ _ 29 rfl 31 i0 underlying29 hi0 (some ⟨w5.heap.size,0,none⟩) 1 1 (Zk _) rfl e1 e2 rfl ?_))
    all_goals
     obtain⟨v,hv⟩:∃v,Value.slice (some ⟨w5.heap.size,0,none⟩) 1 1=v:=⟨_,rfl⟩;have HV:=Za hv;have hXw:X<w4.heap.size:=hX4;have hszv:(w5.setCell ⟨X,4,none⟩ v).heap.size=w5.heap.size:=by simp [World.setCell]
     have GNv:=Bx.new (w5.setCell ⟨X,4,none⟩ v) (Aq x (.slice xs x.args.length xc)) 31;rw[hszv]at GNv;have hxv:=((Gx5.out.keep (Cq w5 (fun h=>Nat.lt_irrefl _ (Nat.lt_of_lt_of_le hXw h.1)) 4 v)).mono (D':=(w.heap.size+2≤ ·)) (fun b hb=>by have:=hb.1;omega)).old ((Zr _ _).alloc (Zk _) (.cells (Aq x (.slice xs x.args.length xc)).toArray 31));have hone:=Aj.one x (.slice xs x.args.length xc) (D:=(w.heap.size+2≤ ·)) (show w.heap.size+2≤w5.heap.size by omega) GNv hxv Hn5.out;have hcc:Bj (Ex.mk e.kind e.op e.n e.name [x])≤20000:=by rw[Bj,Ah,Ah];omega
     have HM:Hid (WMid w s raw X ((w5.setCell ⟨X,4,none⟩ v).alloc (.cells (Aq x (.slice xs x.args.length xc)).toArray 31))):=
      ⟨.mk e.kind e.op e.n e.name [x],some ⟨w5.heap.size,0,none⟩,1,ax,by rw[show Value.slice (some ⟨w5.heap.size,0,none⟩) (Ex.mk e.kind e.op e.n e.name [x]).args.length 1=v from HV.o];exact(GX5.out.set 4 v).alloc _,(GR5.out.other (by omega) 4 v).alloc _,(GS5.out.other (by omega) 4 v).alloc _,(GF5.out.setNew (by omega) 4 v).trans (SFr.alloc _),hone,HNN.o,hcc⟩
     rw[←HV.o]at HM;clear hv GNv hxv hone hcc hszv;go_wp2_with fail
     go_meet;exact HM.o
   ·have hal:e.args.length≤16576:=by
     have h1:=he3;rw[Hc]at h1;have h2:∀l:List Ex,l.length≤Ah l:=fun l=>by
      induction l with
      |nil=>exact Zh _
      |cons y l ih=>rw[Ah,Hc,Zc];omega
     have:=h2 e.args;omega
    obtain⟨eb,eo,ps,rfl,hDb,hmap,hcells,hparts,hones⟩:=jT GEd.out (by omega);have hpl:ps.length=e.args.length:=by rw[←hmap,List.length_map]
    have HMAP:=Za hmap;have HCELLS:=Za hcells;have HPARTS:=Za hparts;have HONES:=Za hones;have HPL:=Za hpl;have HAL:=Za hal;have hfl:(Dk ps).length=e.args.length*5:=by rw[Mr,hpl]
    have HFL:=Za hfl;have hep:0<e.args.length:=by omega
    have hebX:eb<X:=hDb.2;have hebW:w.heap.size+2≤eb:=hDb.1;clear hmap hcells hparts hones hpl hfl hDb hal hz;go_wp2_with fail
    go_region_law (first
     |((try go_simp);go_at_call 27;refine HE2.o.mono ?_;rintro r w5 ⟨xv,he,hs5,hf5,hx5,hn5⟩;obtain⟨xs,xc,hxv⟩:=hx5.shape;subst hxv;subst he;have hc:∀b o,b<_→b≠s→w5.cell? ⟨b,o,none⟩=_:=fun b o h hn=>World.cell?_of_block (a:=⟨b,o,none⟩) (hf5.block b h hn);have hz5:w4.heap.size≤w5.heap.size:=hf5.size;have GX5:=Za (GXd.out.sfr hf5 HX0.o);have GR5:=Za (GRd.out.sfr hf5 HN1.o);have GS5:=Za hs5;have GF5:=Za (GFd.out.trans hf5);have HF5:=Za hf5;have GE5:=Za (GEd.out.keep (hf5.keepsD (fun b hb=>by have:=hb.1;omega)));have u4:=GX5.out.at 4 _ rfl;have fu4:=GX5.out.fz 4;have hX5:=GX5.out.lt;have Gx5:=Za (hx5.strong.mono (D':=fun b=>w4.heap.size≤b∧b<w5.heap.size) (fun b hb=>hb));have Hn5:=Za hn5;clear hs5 hf5 hx5 hn5;have hw6:Below w5.heap.size w5 (w5.alloc (.cells #[.int .i64 x.kind,.int .i64 x.op,.int .i64 x.n,.string (Aa x.name),.slice xs x.args.length xc] 31)):=bA;have GX6:=Za (GX5.out.old hw6);have GR6:=Za (GR5.out.old hw6);have GS6:=Za (GS5.out.old hw6);have GF6:=Za (GF5.out.trans (Zl hw6));have GE6:=Za (GE5.out.old hw6);have Gx6:=Za (Gx5.out.old hw6);have GN6:=Za (Bx.new w5 (Aq x (.slice xs x.args.length xc)) 31);have HCN:Hid (∀j u,(Dk ps)[j]? =some u→(w5.alloc (.cells #[.int .i64 x.kind,.int .i64 x.op,.int .i64 x.n,.string (Aa x.name),.slice xs x.args.length xc] 31)).cell? ((⟨eb,eo,none⟩:Addr).add j)=some u):=fun j u hu=>Ac hw6 (by have h1:=HCELLS.o j u hu;rw[cP]at h1 ⊢;exact HF5.o.cell (by omega) h1);clear hw6)
     |(have hw6:Below w5.heap.size w5 (w5.alloc (.cells #[.int .i64 x.kind,.int .i64 x.op,.int .i64 x.n,.string (Aa x.name),.slice xs x.args.length xc] 31)):=bA;have hlit:=World.ownsRow_lit (base:=w.heap.size+2) (e:=31) (size:=5) w5 (Aq x (.slice xs x.args.length xc)).toArray 1 (by omega) (by decide) rfl;refine step_append_lies (P:=Tryz.prog) _ rfl _ _ 29 rfl (w.heap.size+2) 31 i0 _ 5 64 underlying29 hi0 hz0 hz1 hz2 rfl (by decide) (.slice (some ⟨w5.heap.size,0,none⟩) 1 1) 1 (Aq x (.slice xs x.args.length xc)) rfl hlit ⟨eb,eo,none⟩ e.args.length e2 (Dk ps) rfl HFL.o (HCN.o) HONES.o hep (by unfold maxLen;have:=HAL.o;omega) (by have:=HAL.o;omega) (by simp;omega) _ rfl ?_;intro g cap w8 hown hgrow hat hlt8;clear hlit;have hgrow:(w5.alloc (.cells #[.int .i64 x.kind,.int .i64 x.op,.int .i64 x.n,.string (Aa x.name),.slice xs x.args.length xc] 31)).grownBy w8 (some w5.heap.size):=hgrow;have GX8:=Za (Rs GX6.out hgrow (by omega));have GR8:=Za (Rs GR6.out hgrow (by omega));have GS8:=Za (bF GS6.out hgrow (by omega));have GF8:=Za (GF6.out.grow hgrow (fun k e=>by cases e;omega));have HOW:=Za hown;have HGR:=Za hgrow;have HAT:=Za hat;have y4:=GX8.out.at 4 _ rfl;have fy4:=GX8.out.fz 4;have hX8:=GX8.out.lt;clear hown hgrow hat hw6))
    all_goals
     have hXw:X<w4.heap.size:=hX4;have hgN:w5.heap.size≤g:=by
      rcases HAT.o with h|h
      ·have h:(some w5.heap.size:Option Nat)=some g:=h
       cases h;exact Zk _
      ·simp at h;omega
     obtain⟨v,hv⟩:∃v,Value.slice (some ⟨g,0,none⟩) (1+e.args.length) cap=v:=⟨_,rfl⟩;have HV:=Za hv;have hD0:∀b,(w.heap.size+2≤b∧b<w5.heap.size∧b≠X)→w.heap.size+2≤b∧b<w5.heap.size:=fun b h=>⟨h.1,h.2.1⟩
     have hk:Fe (fun b=>w.heap.size+2≤b∧b<w5.heap.size∧b≠X) (w5.alloc (.cells #[.int .i64 x.kind,.int .i64 x.op,.int .i64 x.n,.string (Aa x.name),.slice xs x.args.length xc] 31)) (w8.setCell ⟨X,4,none⟩ v):=fun b off y hb hy=>
      Cq (D:=(· ≠X)) w8 (fun h=>h rfl) 4 v b off y hb.2.2 (HGR.o.cell hy (fun e=>by have e2:b=w5.heap.size:=Option.some.inj e;have:=hb.2.1;omega))
     have hown:=Bz HOW.o (D:=(· ≠X)) (fun k e=>by have e2:g=k:=Option.some.inj e;omega) (Ax.set w8 (fun h=>h rfl) 4 v);rw[←HPL.o]at hown;have hex:=jX (fun b=>w.heap.size+2≤b∧b<w5.heap.size∧b≠X) hD0 hk hgN (Gx6.out.mono (fun b hb=>⟨by have:=hb.1;omega,hb.2,by have:=hb.1;omega⟩)) Hn5.out
      (fun p hp=>⟨((((HPARTS.o p hp).1.keep (HF5.o.keepsD (fun b hb=>by have:=hb.1;omega))).old ((Zr w5.heap.size w5).alloc (Zk _) (.cells #[.int .i64 x.kind,.int .i64 x.op,.int .i64 x.n,.string (Aa x.name),.slice xs x.args.length xc] 31)))).mono (fun b hb=>⟨hb.1,by have:=hb.2;omega,by have:=hb.2;omega⟩),(HPARTS.o p hp).2⟩)
      (by have h1:=HPL.o;have h2:=HAL.o;show _≤_;omega) hown
     rw[HMAP.o,HPL.o]at hex;have hcc:Bj (Ex.mk e.kind e.op e.n e.name (x::e.args))≤20000:=by rw[Bj,Ah];have:=he3;rw[Hc]at this;omega
     have hll:(Ex.mk e.kind e.op e.n e.name (x::e.args)).args.length=1+e.args.length:=by show(x::e.args).length=_;rw[Zc];omega
     have HM:Hid (WMid w s raw X (w8.setCell ⟨X,4,none⟩ v)):=
      ⟨.mk e.kind e.op e.n e.name (x::e.args),some ⟨g,0,none⟩,cap,ax,by rw[hll,HV.o];exact GX8.out.set 4 v,GR8.out.other (by omega) 4 v,GS8.out.other (by omega) 4 v,GF8.out.setNew (by omega) 4 v,by rw[hll];exact hex,HNN.o,hcc⟩
     rw[←HV.o]at HM;clear hv hD0 hk hown hex hcc hll;go_wp2_with fail
     go_meet;exact HM.o
  ·go_wp2_with fail
   go_meet;exact⟨e,e1,e2,ak,GX4.out,GR4.out,GS4.out,GF4.out,GE4.out.mono (fun b hb=>hb.1),HNN.o,by omega⟩
 case rest=>
  obtain⟨x,va,vc,a',hX6,hR6,hS6,hF6,hE6,hn6,hc6⟩:=hcut;have HX6:=Za hX6;have HR6:=Za hR6;have HS6:=Za hS6;have HF6:=Za hF6;have HE6:=Za hE6;have HN6:=Za hn6;have HC6:=Za hc6;clear hX6 hR6 hS6 hF6 hE6 hn6 hc6 GX4 GC4 GR4 GS4 GF4 GV4 GE4 HNN H2 HOK;have x0:=HX6.o.at 0 _ rfl;have x1:=HX6.o.at 1 _ rfl;have x2:=HX6.o.at 2 _ rfl;have x3:=HX6.o.at 3 _ rfl;have x4:=HX6.o.at 4 _ rfl;have y0:=HR6.o.at 0 _ rfl;have y1:=HR6.o.at 1 _ rfl;have y2:=HR6.o.at 2 _ rfl;have y3:=HR6.o.at 3 _ rfl;have y4:=HR6.o.at 4 _ rfl;have f0:=HR6.o.fz 0;have f1:=HR6.o.fz 1;have f2:=HR6.o.fz 2;have f3:=HR6.o.fz 3;have f4:=HR6.o.fz 4;have hRl:=HR6.o.lt;have HS:=Za (((((HR6.o.set 0 (.int .i64 x.kind)).set 1 (.int .i64 x.op)).set 2 (.int .i64 x.n)).set 3 (.string (Aa x.name))).set 4 (.slice va x.args.length vc));have hsB:s<w.heap.size+1:=by omega
  have HSS:=Za (((((HS6.o.other hsB 0 (.int .i64 x.kind)).other hsB 1 (.int .i64 x.op)).other hsB 2 (.int .i64 x.n)).other hsB 3 (.string (Aa x.name))).other hsB 4 (.slice va x.args.length vc));have hgB:w.heap.size≤w.heap.size+1:=by omega
  have HSF:=Za (((((HF6.o.setNew hgB 0 (.int .i64 x.kind)).setNew hgB 1 (.int .i64 x.op)).setNew hgB 2 (.int .i64 x.n)).setNew hgB 3 (.string (Aa x.name))).setNew hgB 4 (.slice va x.args.length vc));have kp:∀(v:World) (i:Nat) (u:Value),Fe (w.heap.size+2≤ ·) v (v.setCell ⟨w.heap.size+1,i,none⟩ u):=fun v i u=>Bi v (Nat.lt_succ_self _) i u
  have HSE:=Za ((((((HE6.o.keep (kp _ 0 (.int .i64 x.kind))).keep (kp _ 1 (.int .i64 x.op))).keep (kp _ 2 (.int .i64 x.n))).keep (kp _ 3 (.string (Aa x.name)))).keep (kp _ 4 (.slice va x.args.length vc))).mono (D':=(w.heap.size≤ ·)) (fun b hb=>by have:w.heap.size+2≤b:=hb;show _≤_;omega));clear kp;go_wp2_with fail
  have d0:=HS.o.at 0 _ rfl;have d1:=HS.o.at 1 _ rfl;have d2:=HS.o.at 2 _ rfl;have d3:=HS.o.at 3 _ rfl;have d4:=HS.o.at 4 _ rfl;exact bodyPost_ret (v:=exV x (.slice va x.args.length vc)) (by simp [results,results26,go_sem,d0,d1,d2,d3,d4]) rfl ⟨x,_,a',rfl,HSS.o,HSF.o,HSE.o,HN6.o,HC6.o⟩
def PreE(w:World)(raw:List Int)(wx:World):Prop:=As wx (w.heap.size+1) raw 0∧Below w.heap.size w wx∧Al wx w.heap.size [.int .i64 0,.int .i64 0,.int .i64 0,.string ⟨#[]⟩,.slice none 0 0] 31
theorem Qe(w:World)(raw:List Int)(v:Value)(h:Ez (· <w.heap.size) w raw v):PreE w raw ((w.alloc (.cells #[.int .i64 0,.int .i64 0,.int .i64 0,.string ⟨#[]⟩,.slice none 0 0] 31)).alloc (.cells #[v,.int .i64 0] 59)):=by
 have hb:Below w.heap.size w ((w.alloc (.cells #[.int .i64 0,.int .i64 0,.int .i64 0,.string ⟨#[]⟩,.slice none 0 0] 31)).alloc (.cells #[v,.int .i64 0] 59)):=(bA).alloc (by simp) _;have hs:=Al.new (w.alloc (.cells #[.int .i64 0,.int .i64 0,.int .i64 0,.string ⟨#[]⟩,.slice none 0 0] 31)) [v,.int .i64 0] 59;rw[show(w.alloc (.cells #[.int .i64 0,.int .i64 0,.int .i64 0,.string ⟨#[]⟩,.slice none 0 0] 31)).heap.size=w.heap.size+1 by simp]at hs;refine⟨⟨v,hs,?_,Zh _⟩,hb,(Al.new w [.int .i64 0,.int .i64 0,.int .i64 0,.string ⟨#[]⟩,.slice none 0 0] 31).alloc _⟩;have h2:=h.keep (Dp hb);obtain⟨a',cap',b,off,hv,h1,h2,h3,h4,h5⟩:=h2;exact⟨a',cap',b,off,hv,h1,h2,h3.imp id (fun q=>⟨q.1,by have:=q.2;omega⟩),h4,h5⟩
def Xu(w:World)(e:Ex)(r:Ending)(w':World):Prop:= ∃v,r=.returned (exV e v)∧Below w.heap.size w w'∧Aj (w.heap.size≤ ·) w' e.args v∧I64 e.n
theorem dP(raw0:List Int)(rv:Value)(w:World)(hr:Fj (· <w.heap.size) w raw0 rv):Calls Tryz.prog 17 #[rv] w (Xu w (Ih raw0)):=by
 obtain⟨ra,rc,rfl⟩:=hr.shape;have HR:=Za hr;obtain⟨raw,hraw⟩:∃raw,raw=raw0.take 100:=⟨_,rfl⟩;have HRAW:=Za hraw;have HX:=Za (fun wx (h:As wx (w.heap.size+1) raw 0)=>Gm 6 (by omega) (w.heap.size+1) raw 0 ⟨[],[],[],true,false⟩ (.slice none 0 0) (.slice none 0 0) (.slice none 0 0) wx h ⟨Ay.zero,Bp.zero,Bk.zero,Zh _,Zh _,Zh _,fun f hf=>(by cases hf)⟩);have hg:Ih raw0=(Az ⟨[],[],[],true,false⟩ raw 6 0).1:=by rw[hraw];rfl
 rw[hg];generalize Az ⟨[],[],[],true,false⟩ raw 6 0=X at*;obtain⟨e,ae⟩:=X;clear hg hraw hr;go_enter func17,ntmps17
 go_upto_if 9 with(fail)
 go_cut [] (fun wx=>PreE w raw wx)
 case first=>
  by_cases h100:100<raw0.length
  ·have hlt:(100:Int)<(raw0.length:Int):=by omega
   have hle:(100:Int)≤(rc:Int):=by
    obtain⟨a',cap',b,off,hv,h1,_⟩:=HR.o
    cases hv;omega
   go_wp2_with fail
   go_meet;have hq:=HR.o.take 100 (by omega) (by decide);rw[←HRAW.o]at hq;have h1:raw.length=100:=by rw[HRAW.o,List.length_take];omega
   exact Qe w raw _ hq
  ·have hlt:(raw0.length:Int)≤100:=by omega
   have HQ:Hid (Ez (· <w.heap.size) w raw (.slice ra raw0.length rc)):=by
    have e:raw=raw0:=by rw[HRAW.o];exact List.take_of_length_le (by omega)
    show Ez _ _ _ _
    rw[e];have:=HR.o.take raw0.length (Zk _) (by omega);rwa[List.take_length]at this
   go_wp2_with fail
   go_meet;exact Qe w raw _ HQ.o
 case rest=>
 have HP0:=Za hcut;clear hcut HR HRAW;go_wp2_with fail
 refine(HX.o _ HP0.o.1).mono ?_;rintro r w2 ⟨v,rfl,hs2,hf2,he2,hn2⟩;obtain⟨v1,v2,rfl⟩:=he2.shape;have HO:=Za (HP0.o.2.2.sfr hf2 (by omega));have HB:=Za (HP0.o.2.1.trans ((hf2.below (Nat.le_of_lt HP0.o.1.lt)).mono (by omega)));have hsz:w.heap.size+1<w2.heap.size:=hs2.lt;have hx0:w.heap.size+1<_:=HP0.o.1.lt;have HE:=Za (he2.mono (D':=(w.heap.size+1≤ ·)) (fun b hb=>by have:_≤b:=hb;omega));have HN:=Za hn2;clear hs2 hf2 he2 hn2 HP0 HX hx0;obtain⟨k,o,n,nm,us⟩:=e;have c0:=HO.o.fz 0;have c1:=HO.o.fz 1;have hlt:=HO.o.lt;have x0:=HO.o.at 0 _ rfl;have x1:=HO.o.at 1 _ rfl;have x2:=HO.o.at 2 _ rfl;have x3:=HO.o.at 3 _ rfl;have x4:=HO.o.at 4 _ rfl;have f2:=HO.o.fz 2;have f3:=HO.o.fz 3;have f4:=HO.o.fz 4;go_wp2_with fail
 have HS:=Za (((((HO.o.set 0 (.int .i64 (Ex.mk k o n nm us).kind)).set 1 (.int .i64 (Ex.mk k o n nm us).op)).set 2 (.int .i64 (Ex.mk k o n nm us).n)).set 3 (.string (Aa (Ex.mk k o n nm us).name))).set 4 (.slice v1 (Ex.mk k o n nm us).args.length v2));have d0:=HS.o.at 0 _ rfl;have d1:=HS.o.at 1 _ rfl;have d2:=HS.o.at 2 _ rfl;have d3:=HS.o.at 3 _ rfl;have d4:=HS.o.at 4 _ rfl;have st:∀(v:World) (i:Nat) (x:Value),Below w.heap.size v (v.setCell ⟨w.heap.size,i,none⟩ x):=fun v i x=>(Zr _ _).setCell (p:=⟨w.heap.size,i,none⟩) (Zk _) x
 have kp:∀(v:World) (i:Nat) (x:Value),Fe (w.heap.size+1≤ ·) v (v.setCell ⟨w.heap.size,i,none⟩ x):=fun v i x=>Bi v (Nat.lt_succ_self _) i x
 exact bodyPost_ret (v:=exV (Ex.mk k o n nm us) (.slice v1 (Ex.mk k o n nm us).args.length v2)) (by simp [results,results17,go_sem,d0,d1,d2,d3,d4]) rfl ⟨_,rfl,((((HB.o.trans (st _ _ _)).trans (st _ _ _)).trans (st _ _ _)).trans (st _ _ _)).trans (st _ _ _),(((((HE.o.keep (kp _ _ _)).keep (kp _ _ _)).keep (kp _ _ _)).keep (kp _ _ _)).keep (kp _ _ _)).mono (fun b hb=>by have:w.heap.size+1≤b:=hb;omega),HN.o⟩
def Xg(w:World)(raw:List Int)(X c:Nat)(wx:World):Prop:= ∃(e:Ex) (va:Option Addr) (vc a':Nat),Al wx X [.int .i64 e.kind,.int .i64 e.op,.int .i64 e.n,.string (Aa e.name),.slice va e.args.length vc] 31∧
 Al wx w.heap.size [.int .i64 0,.int .i64 0,.int .i64 0,.string ⟨#[]⟩,.slice none 0 0] 31∧As wx (w.heap.size+1) raw a'∧Below w.heap.size w wx∧Aj (fun b=>w.heap.size+2≤b∧b≠X) wx e.args (.slice va e.args.length vc)∧I64 e.n∧Bj e≤c
theorem Sv {w wx:World}{raw:List Int}{X c a':Nat}{e:Ex}{va:Option Addr}{vc:Nat}(hX:w.heap.size+2≤X)(hO:Al wx X [.int .i64 e.kind,.int .i64 e.op,.int .i64 e.n,.string (Aa e.name),.slice va e.args.length vc] 31)
  (hR:Al wx w.heap.size [.int .i64 0,.int .i64 0,.int .i64 0,.string ⟨#[]⟩,.slice none 0 0] 31) (hS:As wx (w.heap.size+1) raw a') (hB:Below w.heap.size w wx) (hE:Aj (fun b=>w.heap.size+2≤b∧b≠X) wx e.args (.slice va e.args.length vc)) (hn:I64 e.n) (hc:Bj e≤c) (o:Int):
  Xg w raw X (c+1) ((((((wx.setCell ⟨X,0,none⟩ (.int .i64 3)).setCell ⟨X,1,none⟩ (.int .i64 o)).setCell ⟨X,2,none⟩ (.int .i64 0)).setCell ⟨X,3,none⟩ (.string ⟨#[]⟩)).setCell ⟨X,4,none⟩ (.slice (some ⟨wx.heap.size,0,none⟩) 1 1)).alloc (.cells #[.int .i64 e.kind,.int .i64 e.op,.int .i64 e.n,.string (Aa e.name),.slice va e.args.length vc] 31)):=by
 have hXl:=hO.lt;have st:∀(v:World) (i:Nat) (u:Value),w.heap.size≤X→Below w.heap.size v (v.setCell ⟨X,i,none⟩ u):=fun v i u h=>(Zr _ _).setCell (p:=⟨X,i,none⟩) h u
 have kp:∀(v:World) (i:Nat) (u:Value),Fe (fun b=>w.heap.size+2≤b∧b≠X) v (v.setCell ⟨X,i,none⟩ u):=fun v i u=>Cq v (fun h=>h.2 rfl) i u
 have hOs:=((((hO.set 0 (.int .i64 3)).set 1 (.int .i64 o)).set 2 (.int .i64 0)).set 3 (.string ⟨#[]⟩)).set 4 (.slice (some ⟨wx.heap.size,0,none⟩) 1 1);have hne:w.heap.size≠X:=by omega
 have hRs:=((((hR.other hne 0 (.int .i64 3)).other hne 1 (.int .i64 o)).other hne 2 (.int .i64 0)).other hne 3 (.string ⟨#[]⟩)).other hne 4 (.slice (some ⟨wx.heap.size,0,none⟩) 1 1);have hsX:w.heap.size+1<X:=by omega
 have hSs:=((((hS.other hsX 0 (.int .i64 3)).other hsX 1 (.int .i64 o)).other hsX 2 (.int .i64 0)).other hsX 3 (.string ⟨#[]⟩)).other hsX 4 (.slice (some ⟨wx.heap.size,0,none⟩) 1 1);have hwX:w.heap.size≤X:=by omega
 have hBs:=((((hB.trans (st _ 0 (.int .i64 3) hwX)).trans (st _ 1 (.int .i64 o) hwX)).trans (st _ 2 (.int .i64 0) hwX)).trans (st _ 3 (.string ⟨#[]⟩) hwX)).trans (st _ 4 (.slice (some ⟨wx.heap.size,0,none⟩) 1 1) hwX);have hEs:=((((hE.keep (kp _ 0 (.int .i64 3))).keep (kp _ 1 (.int .i64 o))).keep (kp _ 2 (.int .i64 0))).keep (kp _ 3 (.string ⟨#[]⟩))).keep (kp _ 4 (.slice (some ⟨wx.heap.size,0,none⟩) 1 1));have hsz:(((((wx.setCell ⟨X,0,none⟩ (.int .i64 3)).setCell ⟨X,1,none⟩ (.int .i64 o)).setCell ⟨X,2,none⟩ (.int .i64 0)).setCell ⟨X,3,none⟩ (.string ⟨#[]⟩)).setCell ⟨X,4,none⟩ (.slice (some ⟨wx.heap.size,0,none⟩) 1 1)).heap.size=wx.heap.size:=by simp [World.setCell]
 generalize ((((wx.setCell ⟨X,0,none⟩ (.int .i64 3)).setCell ⟨X,1,none⟩ (.int .i64 o)).setCell ⟨X,2,none⟩ (.int .i64 0)).setCell ⟨X,3,none⟩ (.string ⟨#[]⟩)).setCell ⟨X,4,none⟩ (.slice (some ⟨wx.heap.size,0,none⟩) 1 1)=v at*;have hal:Below v.heap.size v (v.alloc (.cells #[.int .i64 e.kind,.int .i64 e.op,.int .i64 e.n,.string (Aa e.name),.slice va e.args.length vc] 31)):=bA;have hrow:=Bx.new v (Aq e (.slice va e.args.length vc)) 31;rw[hsz]at hrow;have hwz:=hB.size;exact⟨.mk 3 o 0 [] [e],some ⟨wx.heap.size,0,none⟩,1,a',hOs.alloc _,hRs.alloc _,hSs.alloc _,hBs.trans (hal.mono (by rw[hsz];exact hwz)),
  Aj.one e _ ⟨by omega,by omega⟩ hrow (hEs.old hal) hn,⟨by show _≤(0:Int);decide,by show(0:Int)≤_;decide⟩,by rw[Bj,Ah,Ah];omega⟩
theorem Xy {w wx w':World}{raw:List Int}{X c a':Nat}(h:Xg w raw X c wx)(hX:w.heap.size+2≤X)(hf:SFr (w.heap.size+1) wx w')(hs:As w' (w.heap.size+1) raw a'):Xg w raw X c w':=by
 obtain⟨e,va,vc,a0,hO,hR,hS,hB,hE,hn,hc⟩:=h;have hl:=hS.lt;exact⟨e,va,vc,a',hO.sfr hf (by omega),hR.sfr hf (by omega),hs,hB.trans ((hf.below (Nat.le_of_lt hl)).mono (by omega)),hE.keep (hf.keepsD (fun b hb=>by have:=hb.1;omega)),hn,hc⟩
theorem Wh {w wx:World}{raw:List Int}{X c:Nat}(h:Xg w raw X c wx):∃a',As wx (w.heap.size+1) raw a':=by
 obtain⟨e,va,vc,a0,hO,hR,hS,hB,hE,hn,hc⟩:=h;exact⟨a0,hS⟩
def Wq(w:World)(r:Ending)(w':World):Prop:= ∃(e:Ex) (v:Value),r=.returned (exV e v)∧Below w.heap.size w w'∧Aj (w.heap.size≤ ·) w' e.args v∧I64 e.n∧Bj e≤30000
theorem jV(raw0:List Int)(rv:Value)(w:World)(hr:Fj (· <w.heap.size) w raw0 rv):Calls Tryz.prog 7 #[rv] w (Wq w):=by
 obtain⟨ra,rc,rfl⟩:=hr.shape;have HR:=Za hr;obtain⟨raw,hraw⟩:∃raw,raw=raw0.take 100:=⟨_,rfl⟩;have HRAW:=Za hraw;have HX:=Za (fun wx (h:As wx (w.heap.size+1) raw 0)=>Xi ⟨[],[],[],true,false⟩ ⟨fun _ hx=>(Zy hx).elim,fun _ hx=>(Zy hx).elim,fun _ hx=>(Zy hx).elim⟩ (w.heap.size+1) raw 0 (.slice none 0 0) (.slice none 0 0) (.slice none 0 0) wx h ⟨Ay.zero,Bp.zero,Bk.zero,Zh _,Zh _,Zh _,fun f hf=>by cases hf⟩);clear hraw hr;go_enter func7,ntmps7
 go_upto_if 11 with(fail)
 go_cut [] (fun wx=>PreE w raw wx)
 case first=>
  by_cases h100:100<raw0.length
  ·have hlt:(100:Int)<(raw0.length:Int):=by omega
   have hle:(100:Int)≤(rc:Int):=by
    obtain⟨a',cap',b,off,hv,h1,_⟩:=HR.o
    cases hv;omega
   go_wp2_with fail
   go_meet;have hq:=HR.o.take 100 (by omega) (by decide);rw[←HRAW.o]at hq;have h1:raw.length=100:=by rw[HRAW.o,List.length_take];omega
   exact Qe w raw _ hq
  ·have hlt:(raw0.length:Int)≤100:=by omega
   have HQ:Hid (Ez (· <w.heap.size) w raw (.slice ra raw0.length rc)):=by
    have e:raw=raw0:=by rw[HRAW.o];exact List.take_of_length_le (by omega)
    show Ez _ _ _ _
    rw[e];have:=HR.o.take raw0.length (Zk _) (by omega);rwa[List.take_length]at this
   go_wp2_with fail
   go_meet;exact Qe w raw _ HQ.o
 case rest=>
 have HP0:=Za hcut;clear hcut HR HRAW;go_wp2_with fail
 refine(HX.o _ HP0.o.1).mono ?_;rintro r w2 ⟨e,v,a2,rfl,hs2,hf2,he2,hn2,hc2⟩;obtain⟨v1,v2,rfl⟩:=he2.shape;have hO2:=HP0.o.2.2.sfr hf2 (by omega);have hx0:w.heap.size+1<_:=HP0.o.1.lt;have hB2:=HP0.o.2.1.trans ((hf2.below (Nat.le_of_lt HP0.o.1.lt)).mono (by omega));have hz2:=hf2.size;have he2':=he2.strong.mono (D':=fun b=>w.heap.size+2≤b∧b≠w2.heap.size) (fun b hb=>⟨by have h1:_≤b:=hb.1;omega,by have:=hb.2;omega⟩);have hal:Below w2.heap.size w2 (w2.alloc (.cells #[.int .i64 e.kind,.int .i64 e.op,.int .i64 e.n,.string (Aa e.name),.slice v1 e.args.length v2] 31)):=bA;have HX3:Hid (w.heap.size+2≤w2.heap.size):=by show _≤_;omega
 have HM:Hid (Xg w raw w2.heap.size 20000 (w2.alloc (.cells #[.int .i64 e.kind,.int .i64 e.op,.int .i64 e.n,.string (Aa e.name),.slice v1 e.args.length v2] 31))):=
  ⟨e,v1,v2,a2,Al.new w2 [.int .i64 e.kind,.int .i64 e.op,.int .i64 e.n,.string (Aa e.name),.slice v1 e.args.length v2] 31,hO2.old hal,hs2.old hal,hB2.trans (hal.mono (by omega)),he2'.old hal,hn2,hc2⟩
 clear hs2 hf2 he2 hn2 hc2 HP0 HX hx0 hO2 hB2 hz2 he2' hal;go_upto_region 5 with(fail)
 generalize w2.alloc (.cells #[.int .i64 e.kind,.int .i64 e.op,.int .i64 e.n,.string (Aa e.name),.slice v1 e.args.length v2] 31)=W3 at*;generalize w2.heap.size=X at*;obtain⟨a3,hs3⟩:=Wh HM.o;have hgn:=Ak raw a3 2 (by decide);have HN:=Za (Bn _ raw a3 2 W3 hs3 (by decide) (by decide));generalize Ad raw a3 2=g at*;obtain⟨j,a4⟩:=g;have j0:0≤j:=hgn.1;have j1:j<2:=hgn.2;clear hgn hs3;go_wp2_with fail
 refine HN.o.mono ?_;rintro r w4 ⟨rfl,hs4,hf4⟩;have HM4:=Za (Xy HM.o HX3.o hf4 hs4);clear hs4 hf4 HN HM
 go_upto_if 22 with(fail)
 go_cut [] (fun wx=>Xg w raw X 20001 wx)
 case first=>
  obtain⟨x,va,vc,a5,hO,hR,hS,hB,hE,hn,hc⟩:=HM4.o;have HW:=Za (Sv HX3.o hO hR hS hB hE hn hc 17);have HO:=Za hO;have HM5:Hid (Xg w raw X 20001 w4):=⟨x,va,vc,a5,hO,hR,hS,hB,hE,hn,by omega⟩;clear hO hR hS hB hE hn hc HM4;rcases(by omega:j=0∨j=1)with rfl|rfl
  ·go_wp2_with fail
   go_meet;exact HM5.o
  ·have x0:=HO.o.at 0 _ rfl
   have x1:=HO.o.at 1 _ rfl;have x2:=HO.o.at 2 _ rfl;have x3:=HO.o.at 3 _ rfl;have x4:=HO.o.at 4 _ rfl;have f0:=HO.o.fz 0;have f1:=HO.o.fz 1;have f2:=HO.o.fz 2;have f3:=HO.o.fz 3;have f4:=HO.o.fz 4;have hXl:=HO.o.lt;go_wp2_with fail
   go_meet;exact HW.o
 case rest=>
 clear HM4;have HC5:=Za hcut;clear hcut;obtain⟨a6,hs6⟩:=Wh HC5.o;have hgn:=Ak raw a6 60 (by decide);have HN:=Za (Bn _ raw a6 60 wc hs6 (by decide) (by decide));generalize Ad raw a6 60=g at*;obtain⟨j6,a7⟩:=g;obtain⟨n6,rfl⟩:∃n:Nat,j6=(n:Int):=⟨j6.toNat,by have:0≤j6:=hgn.1;omega⟩;have j60:n6<60:=by have:(n6:Int)<60:=hgn.2;omega
 clear hgn hs6;go_wp2_with fail
 refine HN.o.mono ?_;rintro r w7 ⟨rfl,hs7,hf7⟩;have HM7:=Za (Xy HC5.o HX3.o hf7 hs7);clear hs7 hf7 HN HC5;go_wp2_with fail
 go_loopw [5] (fun s5 wr=> ∃(n c:Nat),s5=.int .i64 n∧n<60∧c+n≤20100∧Hid (Xg w raw X c wr)) (fun s5 _=>(intOf s5).toNat)
 case atStart=>exact⟨n6,20001,rfl,j60,by omega,HM7⟩
 case round=>
  clear HM7;obtain⟨n,c,rfl,hn60,hcn,HM⟩:=hrel;obtain⟨x,va,vc,a5,hO,hR,hS,hB,hE,hn,hc⟩:=HM.o;have HO:=Za hO;have x0:=HO.o.at 0 _ rfl;have x1:=HO.o.at 1 _ rfl;have x2:=HO.o.at 2 _ rfl;have x3:=HO.o.at 3 _ rfl;have x4:=HO.o.at 4 _ rfl
  by_cases h20:(n:Int)>20
  ·have h20':(20:Int)<(n:Int):=h20
   have HW:=Za (Sv HX3.o hO hR hS hB hE hn hc 19);clear hO hR hS hB hE hn hc HM;have f0:=HO.o.fz 0;have f1:=HO.o.fz 1;have f2:=HO.o.fz 2;have f3:=HO.o.fz 3;have f4:=HO.o.fz 4;have hXl:=HO.o.lt;have S1:IntKind.i64.wrap ((n:Int)-1)=((n-1:Nat):Int):=by rw[show((n-1:Nat):Int)=(n:Int)-1 by omega];exact IntWalk.i64_in _ (by omega)
   go_wp2_with fail
   go_roundw
   case rel=>exact⟨n-1,c+1,by go_num,by omega,by omega,HW⟩
   case measure=>simp [intOf];omega
  ·have h20':¬(20:Int)<(n:Int):=h20
   have HR6:=Za hR;have HB6:=Za hB;have HE6:=Za hE;have HN6:=Za hn;have HC6:Hid (Bj x≤30000):=by show _≤_;omega
   clear hO hR hS hB hE hn hc HM;have y0:=HR6.o.at 0 _ rfl;have y1:=HR6.o.at 1 _ rfl;have y2:=HR6.o.at 2 _ rfl;have y3:=HR6.o.at 3 _ rfl;have y4:=HR6.o.at 4 _ rfl;have f0:=HR6.o.fz 0;have f1:=HR6.o.fz 1;have f2:=HR6.o.fz 2;have f3:=HR6.o.fz 3;have f4:=HR6.o.fz 4;have hRl:=HR6.o.lt;have HS:=Za (((((HR6.o.set 0 (.int .i64 x.kind)).set 1 (.int .i64 x.op)).set 2 (.int .i64 x.n)).set 3 (.string (Aa x.name))).set 4 (.slice va x.args.length vc));have st:∀(v:World) (i:Nat) (u:Value),Below w.heap.size v (v.setCell ⟨w.heap.size,i,none⟩ u):=fun v i u=>(Zr _ _).setCell (p:=⟨w.heap.size,i,none⟩) (Zk _) u
   have HSB:=Za (((((HB6.o.trans (st _ 0 (.int .i64 x.kind))).trans (st _ 1 (.int .i64 x.op))).trans (st _ 2 (.int .i64 x.n))).trans (st _ 3 (.string (Aa x.name)))).trans (st _ 4 (.slice va x.args.length vc)));have kp:∀(v:World) (i:Nat) (u:Value),Fe (fun b=>w.heap.size+2≤b∧b≠X) v (v.setCell ⟨w.heap.size,i,none⟩ u):=fun v i u=>Cq v (fun h=>by have:=h.1;omega) i u
   have HSE:=Za ((((((HE6.o.keep (kp _ 0 (.int .i64 x.kind))).keep (kp _ 1 (.int .i64 x.op))).keep (kp _ 2 (.int .i64 x.n))).keep (kp _ 3 (.string (Aa x.name)))).keep (kp _ 4 (.slice va x.args.length vc))).mono (D':=(w.heap.size≤ ·)) (fun b hb=>by have:=hb.1;show _≤_;omega));clear kp st;go_wp2_with fail
   have d0:=HS.o.at 0 _ rfl;have d1:=HS.o.at 1 _ rfl;have d2:=HS.o.at 2 _ rfl;have d3:=HS.o.at 3 _ rfl;have d4:=HS.o.at 4 _ rfl;exact bodyPost_ret (v:=exV x (.slice va x.args.length vc)) (by simp [results,results7,go_sem,d0,d1,d2,d3,d4]) rfl ⟨x,_,rfl,HSB.o,HSE.o,HN6.o,HC6.o⟩
inductive N64:Ex→Prop
 |mk (k o n:Int) (nm:Bs) (args:List Ex) (h:I64 n) (ha:∀x,x∈args→N64 x):N64 (.mk k o n nm args)
theorem Aj.n64 {D:Nat→Prop}{w:World}{l:List Ex}{v:Value}(h:Aj D w l v):∀x,x∈l→N64 x:=by
 induction h with
 |mk l a cap b off sv hcap hfit ha h0 h1 h2 h3 h4 hs hn ih=>
  intro x hx;obtain⟨i,hi,rfl⟩:=List.getElem_of_mem hx;have e:Ao l i=l[i]:=by simp [Ao,Zs hi]
  have h1:=ih i hi;have h2:=hn i hi;rw[e]at h1 h2;generalize l[i]=y at h1 h2;obtain⟨k,o,n,nm,args⟩:=y;exact .mk k o n nm args h2 h1
inductive Uu:St→Prop
 |mk (k:Int) (nm:Bs) (args:List Ex) (thn els:List St) (ha:∀x,x∈args→N64 x) (ht:∀y,y∈thn→Uu y) (he:∀y,y∈els→Uu y):Uu (.mk k nm args thn els)
theorem sts_n64 {D:Nat→Prop}{w:World}{l:List St}{v:Value}(h:Ap D w l v):∀x,x∈l→Uu x:=by
 induction h with
 |mk l a cap b off sa st se hcap hfit ha h0 h1 h2 h3 h4 ea et ee ih1 ih2=>
  intro x hx;obtain⟨i,hi,rfl⟩:=List.getElem_of_mem hx;have e:Db l i=l[i]:=by simp [Db,Zs hi]
  have k1:=(ea i hi).n64;have k2:=ih1 i hi;have k3:=ih2 i hi;rw[e]at k1 k2 k3;generalize l[i]=y at k1 k2 k3;obtain⟨k,nm,args,thn,els⟩:=y;exact .mk k nm args thn els k1 k2 k3
theorem fus_n64 {D:Nat→Prop}{w:World}{l:List Fu}{v:Value}(h:Bk D w l v):∀g,g∈l→∀x,x∈g.body→Uu x:=by
 obtain⟨a,cap,b,off,pv,lv,bv,hv,h1,h2,h3,h4⟩:=h;intro g hg;obtain⟨i,hi,rfl⟩:=List.getElem_of_mem hg;have e:Bc l i=l[i]:=by simp [Bc,Zs hi]
 have:=sts_n64 (h4 i hi).2.2.2;rw[e]at this;exact this
def fuN(x:Fu):Nat:=1+x.params.length+x.locals.length+Ai x.body
def Rc:List Fu→Nat
 |[]=>0
 |x::l=>fuN x+Rc l
def prN(p:Pr):Nat:=p.arrays.length+Rc p.funcs
theorem gT(k o n:Int)(s:Bs)(a:List Ex):Bj (.mk k o n s a)=1+Ah a:=by rw[Bj]
theorem Vc(k:Int)(s:Bs)(us:List Ex)(a b:List St):Dh (.mk k s us a b)=1+Ah us+Ai a+Ai b:=by rw[Dh]
theorem exs1(x:Ex):Ah [x]=Bj x:=by rw[Ah,Ah];rfl
theorem exs2(x y:Ex):Ah [x,y]=Bj x+Bj y:=by rw[Ah,exs1]
theorem sep_sum(f:Ex→Nat):∀l:List Ex,(∀x,x∈l→(Ae x).length+2≤64*Bj x)→(Ba (l.map Ae)).length≤64*Ah l
 |[],_=>Zh _
 |x::l,h=>by
  have more:∀m:List Ex,(∀x,x∈m→(Ae x).length+2≤64*Bj x)→((m.map Ae).flatMap (fun y=>[44,32]++y)).length≤64*Ah m:=by
   intro m
   induction m with
   |nil=>intro _;simp
   |cons y m ih=>
    intro hm;have h1:=hm y Ze;have h2:=ih (fun z hz=>hm z (Zf _ hz));rw[Ah];simp only[Zv,List.flatMap_cons,Zb,Zc,Zd]at h2 ⊢;omega
  have h1:=h x Ze;have h2:=more l (fun z hz=>h z (Zf _ hz));rw[Zv,Ba,Zb,Ah];omega
theorem Wu {l:List Ex}(h:l.length=1):∃a,l=[a]:=by
 match l,h with
 |[a],_=>exact⟨a,rfl⟩
theorem iS {l:List Ex}(h:l.length=2):∃a b,l=[a,b]:=by
 match l,h with
 |[a,b],_=>exact⟨a,b,rfl⟩
theorem bQ(x:Ex)(hw:Bb x=true)(hn:N64 x):(Ae x).length+2≤64*Bj x:=by
 have hp:=Cc hw;have ih:∀a,a∈x.args→(Ae a).length+2≤64*Bj a:=fun a ha=>bQ a (hp.2 a ha) (by
  cases hn with
  |mk k o n nm args h hall=>exact hall a ha)
 have hk:=Kd hp.1;have hh:=hp.1
 cases hn with
 |mk k o n nm args h64 hall=>
 clear hw hp hall;unfold Bw at hh;simp only[Zg]at hh;obtain⟨⟨⟨⟨hok,hargs⟩, -⟩, -⟩, -⟩:=hh;simp only[Ex.kind,Ex.args]at hk ih hargs;rw[gT];rcases hk with rfl|rfl|rfl|rfl|rfl|rfl|rfl
 ·have h0:0≤n:=of_decide_eq_true (show decide (0≤n)=true from hok)
  have:=dA n ⟨h0,by have:=h64.2;omega⟩ o nm args;omega
 ·have:=Cl (show An nm=true from hok)
  rw[Jr];omega
 ·have hl:(args.length:Int)=1:=by simpa [Ca,Ex.kind]using hargs
  obtain⟨a,rfl⟩:=Wu (l:=args) (by omega);have h1:=ih a Ze;have h2:=Nq o;have h3:=Ka a 9 (Ae a);rw[Jc _ _ _ _ (by simp),exs1];show(Ck o++Cn a 9 (Ae a)).length+2≤_
  rw[Zb];omega
 ·have hl:(args.length:Int)=2:=by simpa [Ca,Ex.kind]using hargs
  obtain⟨a,b,rfl⟩:=iS (l:=args) (by omega);have h1:=ih a Ze;have h1':=ih b (Zf _ Ze);have h2:=Nq o;have h3:=Ka a (Au o) (Ae a);have h4:=Ka b (Au o+1) (Ae b);rw[Ja _ _ _ _ (by simp),exs2];show(Cn a (Au o) (Ae a)++([32]++(Ck o++[32]))++Cn b (Au o+1) (Ae b)).length+2≤_
  simp only[Zb,Zc,Zd];omega
 ·have h0:An nm=true:=((Zg _ _).mp (show(An nm && decide ((args.length:Int)≤6))=true from hok)).1
  have h1:=Cl h0;have h2:=sep_sum (fun _=>0) args ih;rw[Iu];simp only[Zb,Zc,Zd];omega
 ·have hl:(args.length:Int)=1:=by simpa [Ca,Ex.kind]using hargs
  obtain⟨a,rfl⟩:=Wu (l:=args) (by omega);have h0:=Cl (show An nm=true from hok);have h1:=ih a Ze;rw[Iv _ _ _ _ (by simp),exs1];show(nm++[91]++Ae a++[93]).length+2≤_
  simp only[Zb,Zc,Zd];omega
 ·rw[Ju];simp only[Zc,Zd];omega
termination_by SizeOf.sizeOf x
decreasing_by exact Ex.size_lt ha
theorem exs_le {l:List Ex}{x:Ex}(h:x∈l):Bj x≤Ah l:=by
 induction l with
 |nil=>cases h
 |cons y l ih=>
  rw[Ah];rcases Zu.1 h with rfl|h
  ·omega
  ·have:=ih h;omega
theorem Qh(t:Nat):∀l:List St,(∀x,x∈l→(Br t x).length≤300*Dh x)→(Ag t l).length≤300*Ai l
 |[],_=>by simp [Ag]
 |x::l,h=>by
  have h1:=h x Ze;have h2:=Qh t l (fun z hz=>h z (Zf _ hz));rw[Ag,Zb,Ai];omega
theorem Uv:∀(m t:Nat) (x:St),t+m≤41→De m x=true→Uu x→(Br t x).length≤300*Dh x
 |0,t,x,_,h,_=>by rw[De]at h;cases h
 |m+1,t,x,ht,h,hn=>by
  rw[De]at h;simp only[Zg,Zp]at h;obtain⟨⟨⟨⟨h1,h2⟩,h3⟩,h4⟩,h5⟩:=h
  cases hn with
  |mk k nm args thn els na nt ne=>
  simp only[St.args,St.thn,St.els]at h3 h4 h5;have hnm:nm.length≤20:=by
   unfold In at h2;simp only[St.kind,St.name,St.args]at h2
   cases hf:Dq k with
   |true=>
    cases hi:An nm with
    |true=>exact Cl hi
    |false=>rw[hf,hi]at h2;simp at h2
   |false=>
    cases hi:An nm with
    |true=>exact Cl hi
    |false=>
     rw[hf,hi]at h2;simp at h2;rw[h2.1];exact Zh _
  have ha:∀x,x∈args→(Ae x).length≤64*Ah args:=fun x hx=>by
   have hr:=h3 x hx;unfold Be at hr;have:=bQ x ((Zg _ _).mp hr).2 (na x hx);have:=exs_le hx;omega
  have k1:=Qh (t+1) thn (fun x hx=>Uv m (t+1) x (by omega) (h4 x hx) (nt x hx));have k2:=Qh (t+1) els (fun x hx=>Uv m (t+1) x (by omega) (h5 x hx) (ne x hx));have:=Ys (t:=t) (k:=k) hnm ha k1 k2;rw[Vc];omega
theorem Wm:∀l:List Bs,(∀x,x∈l→An x=true)→(Cm l).length≤l.length*40
 |[],_=>by simp [Cm]
 |x::l,h=>by
  have h1:=Cl (h x Ze);have h2:=Wm l (fun y hy=>h y (Zf _ hy));show(ln 1 [[105,110,116,32],x,[59]]++Cm l).length≤_
  rw[Zb,Gb,Zc,Zm];simp only[Zi,Zj,Zb,Zc,Zd];omega
theorem fu_len3 {x:Fu}(h:Co x=true)(hn:∀y,y∈x.body→Uu y):(Er x).length≤300*fuN x:=by
 unfold Co at h;simp only[Zg,Zp]at h;obtain⟨⟨⟨⟨h1,h2⟩,h3⟩,h4⟩,h5⟩:=h;have k1:=Cl h1;have k2:=Vi 24 (x.params.map Fm) (fun y hy=>by
  obtain⟨z,hz,rfl⟩:=List.mem_map.1 hy;have:=Cl (h2 z hz);unfold Fm;rw[Zb];simp;omega)
 have k3:=Wm x.locals h3;have k4:=Qh 1 x.body (fun y hy=>Uv 40 1 y (by omega) (h5 y hy) (hn y hy));rw[List.length_map]at k2;unfold Er fuN;simp only[Zb,Gb,Zi,Zj,Zc,Zd];omega
theorem Xz:∀l:List Fu,(∀x,x∈l→Co x=true)→(∀x,x∈l→∀y,y∈x.body→Uu y)→(Bv l).length≤300*Rc l
 |[],_,_=>by simp [Bv]
 |x::l,h,hn=>by
  have h1:=fu_len3 (h x Ze) (hn x Ze);have h2:=Xz l (fun y hy=>h y (Zf _ hy)) (fun y hy=>hn y (Zf _ hy));show(Er x++Bv l).length≤_
  rw[Zb,Rc];omega
theorem Wg:∀l:List Ar,(∀x,x∈l→Ch x=true)→(Bm l).length≤300*l.length
 |[],_=>by simp [Bm]
 |x::l,h=>by
  have h2:=Wg l (fun y hy=>h y (Zf _ hy));have hx:=h x Ze;unfold Ch at hx;rw[Zg]at hx;have h1:=Cl hx.1;have h3:=of_decide_eq_true hx.2;have h4:=Lib.itoa_length_le x.size (by omega) (by omega);show(Il x++Bm l).length≤_
  unfold Il;rw[Zb,Gb,Zc];simp only[Zi,Zj,Zb,Zc,Zd];omega
theorem pr_len3 {p:Pr}(h:Cd p=true)(hn:∀x,x∈p.funcs→∀y,y∈x.body→Uu y):(Dv p).length≤300*prN p:=by
 unfold Cd at h;rw[Zg,Zp,Zp]at h;have h1:=Wg p.arrays h.1;have h2:=Xz p.funcs h.2 hn;unfold Dv prN;rw[Zb];omega
def fuB:Nat:=1000+stB 4
def prB:Nat:=200+3*fuB
theorem iL:2*prB≤140737488355328:=by decide+kernel
theorem cF {a:Ar}(h:Ch a=true):(Il a).length≤100:=by
 unfold Ch at h;simp only[Zg,decide_eq_true_eq]at h;have h1:=Cl h.1;have h2:=Lib.itoa_length_le a.size (by omega) (by omega);unfold Il;rw[Gb];simp only[Zi,Zj,Zb,Zc,Zd];omega
theorem Pi:∀l:List Ar,(∀a,a∈l→Ch a=true)→(Bm l).length≤l.length*100
 |[],_=>by simp [Bm]
 |a::l,h=>by
  have h1:=cF (h a Ze);have h2:=Pi l (fun x hx=>h x (Zf _ hx));show(Il a++Bm l).length≤_
  rw[Zb,Zc,Zm];omega
theorem Px:∀l:List Bs,(∀x,x∈l→An x=true)→(Cm l).length≤l.length*40
 |[],_=>by simp [Cm]
 |x::l,h=>by
  have h1:=Cl (h x Ze);have h2:=Px l (fun y hy=>h y (Zf _ hy));show(ln 1 [[105,110,116,32],x,[59]]++Cm l).length≤_
  rw[Zb,Gb,Zc,Zm];simp only[Zi,Zj,Zb,Zc,Zd];omega
theorem aT {f:Fu}(h:FOk f)(hp:f.params.length≤6)(hl:f.locals.length≤5)(hb:(Ag 1 f.body).length≤stB 4):(Er f).length≤fuB:=by
 have h1:=Cl h.name;have h2:=Vi 24 (f.params.map Fm) (fun x hx=>by
  obtain⟨y,hy,rfl⟩:=List.mem_map.1 hx;have:=Cl (h.params y hy);unfold Fm;rw[Zb];simp;omega)
 have h3:=Px f.locals h.locals;have h4:(f.params.map Fm).length*(24+2)≤6*26:=Zn _ (by rw[List.length_map];exact hp);have h5:f.locals.length*40≤5*40:=Zn _ hl;unfold Er fuB;simp only[Zb,Gb,Zi,Zj,Zc,Zd];omega
theorem Pp:∀l:List Fu,(∀f,f∈l→(Er f).length≤fuB)→(Bv l).length≤l.length*fuB
 |[],_=>by simp [Bv]
 |a::l,h=>by
  have h1:=h a Ze;have h2:=Pp l (fun x hx=>h x (Zf _ hx));show(Er a++Bv l).length≤_
  rw[Zb,Zc,Zm];omega
theorem Ji(raw:List Int)(sc:Sc)(P:Fu→Prop)(hP:∀f,f∈sc.funcs→∀a,P (Md raw sc f a).1):∀(l:List Fu),(∀f,f∈l→f∈sc.funcs)→∀a,∀x,x∈(Dd raw sc l a).1→P x
 |[],_,a,x,hx=>by cases hx
 |f::l,hl,a,x,hx=>by
  rw[Dd]at hx;rcases Zu.1 hx with rfl|hx
  ·exact hP f (hl f Ze) a
  ·exact Ji raw sc P hP l (fun g hg=>hl g (Zf _ hg)) _ x hx
theorem Lj(raw:List Int)(sc:Sc):∀(l:List Fu) (a:Nat),(Dd raw sc l a).1.length=l.length
 |[],a=>rfl
 |g::l,a=>by rw[Dd,Zc,Zc,Lj raw sc l]
theorem Nl(free:Bool)(raw:List Int):∀n a,(Hg free raw n a).1.length=n
 |0,a=>rfl
 |n+1,a=>by rw[Hg,Zc,Nl free raw n]
theorem Mv(raw:List Int):∀n a,(Gx raw n a).1.length=n
 |0,a=>rfl
 |n+1,a=>by rw[Gx,Zc,Mv raw n]
theorem gSc_ok(raw:List Int)(free:Bool){f:Fu}(hf:f∈(Fr raw free).funcs)(k:Nat):Sc.Ok ⟨f.params++Cy.take k,(Fr raw free).arrays,(Fr raw free).funcs,free,false⟩:=by
 refine⟨fun x hx=>?_,fun x hx=>?_,fun x hx=>⟨(Ev raw free x hx).1,(Ev raw free x hx).2.1⟩⟩
 ·rcases List.mem_append.1 hx with hx|hx
  ·exact(Ev raw free f hf).2.2 x hx
  ·exact Tf x (List.mem_of_mem_take hx)
 ·have:=Kj raw free x hx
  unfold Ch at this;exact((Zg _ _).mp this).1
theorem Pm(raw:List Int)(free:Bool):∀f,f∈(Gg raw free).funcs→(Er f).length≤fuB:=by
 intro f hf;have hr:=Ic raw free;unfold Cd at hr;simp only[Zg,Zp]at hr;have hok:=Pb (hr.2 f hf);have h:=Ji (raw.take 400) (Fr (raw.take 400) free) (fun f=>f.params.length≤6∧f.locals.length≤5∧(Ag 1 f.body).length≤stB 4) (fun g hg a=>by
  have hh:=Ev (raw.take 400) free g hg;refine⟨hh.2.1,?_,?_⟩
  ·show(Cy.take _).length≤5
   rw[List.length_take];exact Nat.min_le_right _ _
  ·exact Mp (raw.take 400) 4 1 _ (gSc_ok (raw.take 400) free hg _) (by omega) _) (Fr (raw.take 400) free).funcs (fun f hf=>hf) _ f hf
 exact aT hok h.1 h.2.1 h.2.2
theorem Nu(raw:List Int)(free:Bool):(Gg raw free).arrays.length≤2∧(Gg raw free).funcs.length≤3∧0<(Gg raw free).funcs.length:=by
 have h1:=Ak (raw.take 400) 0 3 (by decide);have h2:=Ak (raw.take 400) (Hm (raw.take 400) free).2 3 (by decide);have ea:(Gg raw free).arrays.length=(Ad (raw.take 400) 0 3).1.toNat:=Nl _ _ _ _;have ef:(Gg raw free).funcs.length=(Ad (raw.take 400) (Hm (raw.take 400) free).2 3).1.toNat+1:=by
  show(Dd _ _ _ _).1.length=_
  rw[Lj];show(Io::(Mn _ _).1).length=_
  rw[Zc];show(Gx _ _ _).1.length+1=_
  rw[Mv]
 rw[ea,ef];omega
theorem fH(raw:List Int)(free:Bool):(Dv (Gg raw free)).length≤prB:=by
 have hr:=Ic raw free;unfold Cd at hr;simp only[Zg,Zp]at hr;obtain⟨c1,c2,_⟩:=Nu raw free;have h1:=Pi _ hr.1;have h2:=Pp _ (Pm raw free);have h3:(Gg raw free).arrays.length*100≤2*100:=Zn _ c1;have h4:(Gg raw free).funcs.length*fuB≤3*fuB:=Zn _ c2;unfold Dv prB;rw[Zb];omega
theorem Pd {f:Fu}(h:FOk f):Ai f.body≤(Er f).length:=by
 have:=If 1 f.body (fun x hx=>Jh _ x (Zk _) (h.body x hx) 1);unfold Er;simp only[Zb];omega
theorem Nm:∀l:List Fu,(∀f,f∈l→FOk f)→By l≤(Bv l).length
 |[],_=>Zh _
 |f::l,h=>by
  have h1:=Pd (h f Ze);have h2:=Nm l (fun g hg=>h g (Zf _ hg));show Ai f.body+By l≤(Er f++Bv l).length
  rw[Zb];omega
theorem Xl {p:Pr}(h:Cd p=true):Fv p≤(Dv p).length:=by
 unfold Cd at h;simp only[Zg,Zp]at h;have:=Nm p.funcs (fun f hf=>Pb (h.2 f hf));unfold Fv Dv;rw[Zb];omega
def exE:Ex:=.mk 4 3 0 [] [.mk 4 1 0 [] [.mk 1 0 1 [] [],.mk 2 0 0 [120] []],.mk 3 17 0 [] [.mk 1 0 2 [] []]]
def exP:Pr:=⟨[],[⟨[109,97,105,110],[],[],[.mk 8 [] [exE] [] []]⟩]⟩
theorem Rp:Ae exE=[40,49,32,43,32,120,41,32,42,32,45,50]:=by
 simp [exE,Ae,Ny,Eu,Cn,Ao,Ex.kind,Ex.op,Au,Ck,Lib.itoa,Zo]
theorem Rf:Dv exP=[105,110,116,32,109,97,105,110,40,41,32,123,10,9,112,114,105,110,116,40,40,49,32,43,32,120,41,32,42,32,45,50,41,59,10,125,10]:=by
 simp [Dv,exP,Bm,Bv,Er,Ba,Cm,Ag,Br,Cf,ln,Am,Rp]
theorem Vo:Be exE=true:=by
 simp [Be,exE,Fn,Bb,Lp,Bw,Du,Gd,Ho,Ds,Ca,Ex.kind,Ex.op,Ex.n,Ex.name,Ex.args,Au,An,Fd,Iw,Cw,Ce]
theorem cQ:Cd exP=true:=by
 simp [Cd,exP,Co,De,Ge,In,St.kind,St.args,St.thn,St.els,St.name,fOk,Ea,Dq,Gv,Gu,Vo,An,Fd,Iw,Cw,Ce]
theorem dF:Fv exP=7:=by
 simp [Fv,exP,By,Ai,Dh,Ah,Bj,exE]
theorem same_P0:Fh exP ⟨[],[]⟩=false:=by
 cases h:Fh exP ⟨[],[]⟩
 ·rfl
 ·rw[Ks]at h;simp [exP]at h
theorem same_PP:Fh exP exP=true:=(Ks _ _).2 rfl
theorem fK:Be (.mk 0 0 0 [] [])=false:=by
 simp [Be,Fn,Bb,Lp,Bw,Du,Ex.kind]
end Go.Proofs.YtfhbinbjkpfedaaGreatDoor

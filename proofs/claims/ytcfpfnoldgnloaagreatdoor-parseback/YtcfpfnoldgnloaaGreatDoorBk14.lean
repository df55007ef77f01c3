/-
  Parse, Expr of a text of tokens.
-/
import Derived.Test.YtcfpfnoldgnloaaGreatDoorBk13
set_option linter.unusedVariables false
set_option linter.unusedSimpArgs false
namespace Go.Proofs.YtcfpfnoldgnloaaGreatDoor
open Go.RowKit
set_option maxHeartbeats 20000000
set_option maxRecDepth 100000
open List renaming append_assoc→Za,mem_cons_self→Zb,mem_cons_of_mem→Ze,mem_of_find?_eq_some→Zf
open Int renaming reduceEq→Zc
open Bool renaming and_eq_true→Zd
theorem jc:jK [] []:=⟨fun c hc=>(by cases hc),fun p hp=>(by cases hp)⟩
theorem vH:tB true []:=⟨.inl rfl,rfl,fun _=>rfl,fun h=>(by cases h)⟩
theorem lW(t:Tk)(h:t.kind=5):∀l:List Tk,gE (l++[t])
 |[]=>h
 |[a]=>h
 |a::b::l=>lW t h (b::l)
def cj(line:Nat)(li:List It):List Tk:=jv line li++[⟨5,[],0,sD line li⟩]
theorem nZ {P:Int→Prop}:∀(l:List It) (line:Nat),(∀i,i∈l→P i.n)→∀t,t∈jv line l→P t.num
 |[],line,h,t,ht=>by cases ht
 |i::l,line,h,t,ht=>by
  rw[jv]at ht;rcases List.mem_cons.1 ht with rfl|ht
  ·exact h i Zb
  ·exact nZ l _ (fun j hj=>h j (Ze _ hj)) t ht
theorem rd(b0:Bs)(l0:List (Bs ×Bs))(hg:jK b0 l0)(li:List It)(hi:ie [] li)(hlen:(aL b0 l0++bm li).length≤20000)(w:World)(hl:fT w):
  Calls Tryz.prog 20 #[.string (aB (aL b0 l0++bm li))] w fun e w'=>Below w.heap.size w w'∧∃v,e= .returned (.tuple #[v,.int .i64 0,.int .i64 0])∧e7 w' w.heap.size (cj (1+bU (aL b0 l0)) li) v:=by
 have h:=xH true [] vH b0 l0 hg li hi (by simpa using hlen) w hl;rw[List.append_nil]at h;refine Calls.mono h ?_;intro e w' hp;obtain⟨h1,h2⟩:=hp;rw[if_pos rfl]at h2;exact⟨h1,h2⟩
theorem lr(b0:Bs)(l0:List (Bs ×Bs))(hg:jK b0 l0)(li:List It)(hi:ie [] li)(hn:∀i,i∈li→I64 i.n)(hlen:(aL b0 l0++bm li).length≤20000)(hc:li.length≤900000)(f:Nat)(hf:4*(li.length+1)+4≤f)(w:World)(hl:fT w):
  Calls Tryz.prog 14 #[.string (aB (aL b0 l0++bm li))] w (WhP w (jy (lV (dd f ⟨[],[]⟩ (cj (1+bU (aL b0 l0)) li))))):=by
 have hT:(cj (1+bU (aL b0 l0)) li).length=li.length+1:=by simp [cj,rI]
 refine topP_of _ w _ (Lib.hid fun w1 hb1=> ?_);refine wo _ (cj (1+bU (aL b0 l0)) li) (lW _ rfl _) ?_ (by omega) f (by omega) w1 (Lib.hid fun w2 hb2=>rd b0 l0 hg li hi hlen w2 ((hl.old hb1).old hb2));intro t ht;rcases List.mem_append.1 ht with h|h
 ·exact nZ (P:=I64) li _ hn t h
 ·rw[List.mem_singleton]at h;subst h;exact dz
theorem sE(b0:Bs)(l0:List (Bs ×Bs))(hg:jK b0 l0)(li:List It)(hi:ie [] li)(hn:∀i,i∈li→I64 i.n)(hlen:(aL b0 l0++bm li).length≤20000)(hc:li.length≤900000)(f:Nat)(hf:4*(li.length+1)+4≤f)(w:World)(hl:fT w):
  Calls Tryz.prog 13 #[.string (aB (aL b0 l0++bm li))] w (WhE w (lD (oB (ar f 1 (cj (1+bU (aL b0 l0)) li))))):=by
 have hT:(cj (1+bU (aL b0 l0)) li).length=li.length+1:=by simp [cj,rI]
 refine topE_of _ w _ (Lib.hid fun w1 hb1=> ?_);refine xA _ (cj (1+bU (aL b0 l0)) li) (lW _ rfl _) ?_ (by omega) f (by omega) w1 (Lib.hid fun w2 hb2=>rd b0 l0 hg li hi hlen w2 ((hl.old hb1).old hb2));intro t ht;rcases List.mem_append.1 ht with h|h
 ·exact nZ (P:=I64) li _ hn t h
 ·rw[List.mem_singleton]at h;subst h;exact dz
def iq(x:Bs):Bool:=(match x with|c::_=>bi c|[]=>false) && x.all (fun c=>decide (c.toNat<128) && gO (c.toNat:Nat))
theorem pD {x:Bs}(h:iq x=true):∃c t,x=c::t∧bi c=true∧∀c,c∈x→c.toNat<128∧gO (c.toNat:Nat)=true:=by
 cases x with
 |nil=>cases h
 |cons c t=>
  unfold iq at h;obtain⟨h1,h2⟩:=(Zd _ _).mp h;refine⟨c,t,rfl,h1,fun d hd=> ?_⟩;have:=List.all_eq_true.1 h2 d hd;simpa using this
theorem pc_name {x:Bs}(hx:aY x=true)(hk:fm x=false)(h:iq x=true):gQ x 1 0:=by
 obtain⟨c,t,hc,hl,ha⟩:=pD h;exact .name x hx hk c t hc hl ha
theorem qh {x:Bs}(hk:fm x=true)(h:iq x=true):gQ x 2 0:=by
 obtain⟨c,t,hc,hl,ha⟩:=pD h;exact .word x hk c t hc hl ha
theorem u6 {x:Bs}(h:g9 x=true):gQ x 4 0:=by
 rcases ej h with rfl|rfl|rfl|rfl|rfl|rfl|rfl|rfl|rfl|rfl|rfl|rfl|rfl|rfl|rfl|rfl|rfl|rfl|rfl|rfl|rfl|rfl|rfl|rfl|rfl|rfl|rfl<;>exact .sign _ h _ _ rfl (by decide) (by decide)
def pcB(i:It):Bool:=if i.k=1 then aY i.x && !isWord i.x && iq i.x && decide (i.n=0)else if i.k=2 then fm i.x && iq i.x && decide (i.n=0)else if i.k=3 then decide (0≤i.n∧i.n≤9223372036854775807) && decide (i.x=Lib.decDigits i.n.toNat) && decide (i.x.length≤18) && (match i.x with|c::_=>cF c|[]=>false)else decide (i.k=4) && g9 i.x && decide (i.n=0)
theorem pcB_of {i:It}(h:pcB i=true):gQ i.x i.k i.n∧(i.k=3→∀r,i.x≠39::r)∧I64 i.n:=by
 obtain⟨x,k,n,b,l⟩:=i;simp only[pcB]at h
 by_cases h1:k=1
 ·rw[if_pos h1]at h
  simp at h;obtain⟨⟨⟨g1,g2⟩,g3⟩,rfl⟩:=h;subst h1;exact⟨pc_name g1 g2 g3,fun e=>absurd (show _=_ from e) (by simp),dz⟩
 rw[if_neg h1]at h
 by_cases h2:k=2
 ·rw[if_pos h2]at h
  simp at h;obtain⟨⟨g1,g3⟩,rfl⟩:=h;subst h2;exact⟨qh g1 g3,fun e=>absurd (show _=_ from e) (by simp),dz⟩
 rw[if_neg h2]at h
 by_cases h3:k=3
 ·rw[if_pos h3]at h
  subst h3;simp only[Zd,decide_eq_true_eq]at h;obtain⟨⟨⟨⟨g1,g2⟩,g3⟩,g4⟩,g5⟩:=h
  cases x with
  |nil=>cases g5
  |cons c t=>
   have hu:(n.toNat:Int)=n:=by omega
   refine⟨?_,fun _ r e=> ?_,(show I64 n from⟨by omega,by omega⟩)⟩
   ·have:=gQ.num n.toNat (by rw[←g3];exact Nat.le_trans g4 (by decide)) (by omega) c t g3.symm g5
    rw[←g3,hu]at this;exact this
   ·cases e;simp [cF]at g5
 rw[if_neg h3]at h;simp at h;obtain⟨⟨rfl,g1⟩,rfl⟩:=h;exact⟨u6 g1,fun e=>absurd (show _=_ from e) (by simp),dz⟩
def wD(z:Bs):List It→Bool
 |[]=>true
 |i::l=>pcB i && i.b.all dT && i.l.isEmpty && iz i.k (i.gap++(bm l++z)) && wD z l
theorem m9(z:Bs):∀(l:List It),wD z l=true→ie z l∧∀i,i∈l→I64 i.n
 |[],_=>⟨trivial,fun i hi=>by cases hi⟩
 |i::l,h=>by
  rw[wD]at h;simp only[Zd]at h;obtain⟨⟨⟨⟨h1,h2⟩,h3⟩,h4⟩,h5⟩:=h;obtain⟨q1,q2⟩:=m9 z l h5;obtain⟨p1,p2,p3⟩:=pcB_of h1;refine⟨⟨sd p1 p2 h4,⟨fun c hc=>List.all_eq_true.1 h2 c hc,fun p hp=> ?_⟩,q1⟩,fun j hj=> ?_⟩
  ·rw[List.isEmpty_iff.1 h3]at hp;cases hp
  ·rcases List.mem_cons.1 hj with rfl|hj
   ·exact p3
   ·exact q2 j hj
def au:List Bs→Bs
 |[]=>[]
 |x::l=>x++l.flatMap (fun y=>[44,32]++y)
theorem gi(l:List Bs)(y:Bs):au (l++[y])=if l=[]then y else au l++[44,32]++y:=by
 cases l with
 |nil=>simp [au]
 |cons x l=>simp [au]
def cv(e:Ex)(level:Int)(txt:Bs):Bs:=if e.kind=4∧aP e.op<level then [40]++txt++[41]else txt
def dU(k o n:Int)(nm:Bs)(args:List Ex)(ts:List Bs):Bs:=
 if k=1 then Lib.itoa n
 else if k=2 then nm
 else if k=3 then aU o++cv (bI args 0) 9 (ts.getD 0 [])
 else if k=4 then cv (bI args 0) (aP o) (ts.getD 0 [])++([32]++aU o++[32])++cv (bI args 1) (aP o+1) (ts.getD 1 [])
 else if k=5 then nm++[40]++au ts++[41]
 else if k=6 then nm++[91]++ts.getD 0 []++[93]
 else if k=7 then [114,101,97,100,40,41]else []
mutual
def aK:Ex→Bs
 | .mk k o n nm args=>dU k o n nm args (nC args)
def nC:List Ex→List Bs
 |[]=>[]
 |x::l=>aK x::nC l
end
theorem nx:∀l,nC l=l.map aK
 |[]=>rfl
 |x::l=>by simp [nC,nx l]
theorem dx(e:Ex):aK e=dU e.kind e.op e.n e.name e.args (e.args.map aK):=by
 cases e;rw[aK,nx];rfl
def dC(e:Ex)(level:Int):Bs:=cv e level (aK e)
theorem lA {l:List Ex}{i:Nat}(h:i<l.length):(l.map aK).getD i []=aK (bI l i):=by
 simp [bI,List.getElem?_eq_getElem h]
theorem kV(o n:Int)(nm:Bs)(args:List Ex):aK (.mk 1 o n nm args)=Lib.itoa n:=by
 rw[dx];show dU 1 o n nm args (args.map aK)=_;unfold dU;rw[if_pos rfl]
theorem lM(o n:Int)(nm:Bs)(args:List Ex):aK (.mk 2 o n nm args)=nm:=by
 rw[dx];show dU 2 o n nm args (args.map aK)=_;unfold dU;rw[if_neg (by decide),if_pos rfl]
theorem kW(o n:Int)(nm:Bs)(args:List Ex)(h:0<args.length):aK (.mk 3 o n nm args)=aU o++dC (bI args 0) 9:=by
 rw[dx];show dU 3 o n nm args (args.map aK)=_;unfold dU;rw[if_neg (by decide),if_neg (by decide),if_pos rfl,lA h];unfold dC;rfl
theorem kX(o n:Int)(nm:Bs)(args:List Ex)(h:1<args.length):aK (.mk 4 o n nm args)=dC (bI args 0) (aP o)++([32]++(aU o++[32]))++dC (bI args 1) (aP o+1):=by
 rw[dx];show dU 4 o n nm args (args.map aK)=_;unfold dU;rw[if_neg (by decide),if_neg (by decide),if_neg (by decide),if_pos rfl,lA (by omega),lA h,Za [32]];unfold dC;rfl
theorem kh(o n:Int)(nm:Bs)(args:List Ex):aK (.mk 5 o n nm args)=nm++[40]++au (args.map aK)++[41]:=by
 rw[dx];show dU 5 o n nm args (args.map aK)=_;unfold dU;rw[if_neg (by decide),if_neg (by decide),if_neg (by decide),if_neg (by decide),if_pos rfl]
theorem kt(o n:Int)(nm:Bs)(args:List Ex)(h:0<args.length):aK (.mk 6 o n nm args)=nm++[91]++aK (bI args 0)++[93]:=by
 rw[dx];show dU 6 o n nm args (args.map aK)=_;unfold dU;rw[if_neg (by decide),if_neg (by decide),if_neg (by decide),if_neg (by decide),if_neg (by decide),if_pos rfl,lA h]
theorem lG(o n:Int)(nm:Bs)(args:List Ex):aK (.mk 7 o n nm args)=[114,101,97,100,40,41]:=by
 rw[dx];show dU 7 o n nm args (args.map aK)=_;unfold dU;rw[if_neg (by decide),if_neg (by decide),if_neg (by decide),if_neg (by decide),if_neg (by decide),if_neg (by decide),if_pos rfl]
def gC(t:Nat):Bs:=List.replicate t 9
def ln(t:Nat)(l:List Bs):Bs:=gC t++l.flatten++[10]
def cI(t:Nat)(k:Int)(nm:Bs)(args:List Ex)(noEls:Bool)(T E:Bs):Bs:=
 if k=1 then ln t [nm,[32,61,32],aK (bI args 0),[59]]
 else if k=2 then ln t [nm,[91],aK (bI args 0),[93,32,61,32],aK (bI args 1),[59]]
 else if k=3 then ln t [[105,102,32,40],aK (bI args 0),[41,32,123]]++(T++((if noEls then []else ln t [[125,32,101,108,115,101,32,123]]++E)++ln t [[125]]))
 else if k=4 then ln t [[119,104,105,108,101,32,40],aK (bI args 0),[41,32,123]]++(T++ln t [[125]])
 else if k=5 then ln t [[98,114,101,97,107,59]]
 else if k=6 then ln t [[99,111,110,116,105,110,117,101,59]]
 else if k=7 then ln t [[114,101,116,117,114,110,32],aK (bI args 0),[59]]
 else if k=8 then ln t [[112,114,105,110,116,40],aK (bI args 0),[41,59]]
 else if k=9 then ln t [[116,114,97,112,40],aK (bI args 0),[41,59]]
 else if k=10 then ln t [aK (bI args 0),[59]]else []
mutual
def bj(t:Nat):St→Bs
 | .mk k nm args thn els=>cI t k nm args els.isEmpty (bN (t+1) thn) (bN (t+1) els)
def bN(t:Nat):List St→Bs
 |[]=>[]
 |x::l=>bj t x++bN t l
end
theorem dc(t:Nat)(k:Int)(nm:Bs)(args:List Ex)(thn els:List St):bj t (.mk k nm args thn els)=cI t k nm args els.isEmpty (bN (t+1) thn) (bN (t+1) els):=by rw[bj]
theorem e8(t:Nat):∀l,bN t l=l.flatMap (bj t)
 |[]=>rfl
 |x::l=>by rw[bN,e8 t l];rfl
theorem qX(t:Nat)(l:List St)(k:Nat)(h:k<l.length):bN t (l.take (k+1))=bN t (l.take k)++bj t (ez l k):=by
 rw[e8,e8,List.take_succ_eq_append_getElem h,List.flatMap_append];simp [ez,List.getElem?_eq_getElem h]
theorem mm(t:Nat)(l:List St)(k:Nat):(bN t (l.take k)).length≤(bN t l).length:=by
 have e:bN t l=bN t (l.take k)++bN t (l.drop k):=by rw[e8,e8,e8,←List.flatMap_append,List.take_append_drop]
 rw[e];simp
theorem wW(t:Nat)(nm:Bs)(args:List Ex)(ne:Bool)(T E:Bs):cI t 1 nm args ne T E=ln t [nm,[32,61,32],aK (bI args 0),[59]]:=by
 unfold cI;simp only[Zc,if_true,if_false,reduceIte]
theorem wH(t:Nat)(nm:Bs)(args:List Ex)(ne:Bool)(T E:Bs):cI t 2 nm args ne T E=ln t [nm,[91],aK (bI args 0),[93,32,61,32],aK (bI args 1),[59]]:=by
 unfold cI;simp only[Zc,if_true,if_false,reduceIte]
theorem pR(t:Nat)(nm:Bs)(args:List Ex)(ne:Bool)(T E:Bs):cI t 3 nm args ne T E=ln t [[105,102,32,40],aK (bI args 0),[41,32,123]]++(T++((if ne then []else ln t [[125,32,101,108,115,101,32,123]]++E)++ln t [[125]])):=by
 unfold cI;simp only[Zc,if_true,if_false,reduceIte]
theorem xE(t:Nat)(nm:Bs)(args:List Ex)(ne:Bool)(T E:Bs):cI t 4 nm args ne T E=ln t [[119,104,105,108,101,32,40],aK (bI args 0),[41,32,123]]++(T++ln t [[125]]):=by
 unfold cI;simp only[Zc,if_true,if_false,reduceIte]
theorem vd(t:Nat)(nm:Bs)(args:List Ex)(ne:Bool)(T E:Bs):cI t 5 nm args ne T E=ln t [[98,114,101,97,107,59]]:=by
 unfold cI;simp only[Zc,if_true,if_false,reduceIte]
theorem vL(t:Nat)(nm:Bs)(args:List Ex)(ne:Bool)(T E:Bs):cI t 6 nm args ne T E=ln t [[99,111,110,116,105,110,117,101,59]]:=by
 unfold cI;simp only[Zc,if_true,if_false,reduceIte]
theorem vZ(t:Nat)(nm:Bs)(args:List Ex)(ne:Bool)(T E:Bs):cI t 7 nm args ne T E=ln t [[114,101,116,117,114,110,32],aK (bI args 0),[59]]:=by
 unfold cI;simp only[Zc,if_true,if_false,reduceIte]
theorem vl(t:Nat)(nm:Bs)(args:List Ex)(ne:Bool)(T E:Bs):cI t 8 nm args ne T E=ln t [[112,114,105,110,116,40],aK (bI args 0),[41,59]]:=by
 unfold cI;simp only[Zc,if_true,if_false,reduceIte]
theorem wN(t:Nat)(nm:Bs)(args:List Ex)(ne:Bool)(T E:Bs):cI t 9 nm args ne T E=ln t [[116,114,97,112,40],aK (bI args 0),[41,59]]:=by
 unfold cI;simp only[Zc,if_true,if_false,reduceIte]
theorem uR(t:Nat)(nm:Bs)(args:List Ex)(ne:Bool)(T E:Bs):cI t 10 nm args ne T E=ln t [aK (bI args 0),[59]]:=by
 unfold cI;simp only[Zc,if_true,if_false,reduceIte]
structure T3 where
 kind:Int
 text:Bs
 num:Int
def t3(t:Tk):T3:=⟨t.kind,t.text,t.num⟩
inductive Pc where
 |t (x:T3)
 |g (b:Bs)
def Pc.text:Pc→Bs|t x=>x.text|g b=>b
def ai(l:List Pc):Bs:=l.flatMap Pc.text
def gh:List Pc→List T3
 |[]=>[]
 | .t x::l=>x::gh l
 | .g _::l=>gh l
theorem aS(a b:List Pc):ai (a++b)=ai a++ai b:=List.flatMap_append
theorem fY:∀a b:List Pc,gh (a++b)=gh a++gh b
 |[],b=>rfl
 | .t x::a,b=>by simp [gh,fY a b]
 | .g x::a,b=>by simp [gh,fY a b]
abbrev sg(s:Bs):Pc:= .t ⟨4,s,0⟩
abbrev wd(s:Bs):Pc:= .t ⟨2,s,0⟩
abbrev nmp(s:Bs):Pc:= .t ⟨1,s,0⟩
abbrev nu(n:Int):Pc:= .t ⟨3,Lib.itoa n,n⟩
def ff:List (List Pc)→List Pc
 |[]=>[]
 |x::l=>x++l.flatMap (fun y=>[sg [44],.g [32]]++y)
def eS(e:Ex)(level:Int)(l:List Pc):List Pc:=if e.kind=4∧aP e.op<level then [sg [40]]++l++[sg [41]]else l
def eD(k o n:Int)(nm:Bs)(args:List Ex)(ts:List (List Pc)):List Pc:=
 if k=1 then [nu n]
 else if k=2 then [nmp nm]
 else if k=3 then [sg (aU o)]++eS (bI args 0) 9 (ts.getD 0 [])
 else if k=4 then eS (bI args 0) (aP o) (ts.getD 0 [])++([.g [32],sg (aU o),.g [32]])++eS (bI args 1) (aP o+1) (ts.getD 1 [])
 else if k=5 then [nmp nm,sg [40]]++ff ts++[sg [41]]
 else if k=6 then [nmp nm,sg [91]]++ts.getD 0 []++[sg [93]]
 else if k=7 then [wd [114,101,97,100],sg [40],sg [41]]else []
mutual
def bg:Ex→List Pc
 | .mk k o n nm args=>eD k o n nm args (uk args)
def uk:List Ex→List (List Pc)
 |[]=>[]
 |x::l=>bg x::uk l
end
theorem rh:∀l,uk l=l.map bg
 |[]=>rfl
 |x::l=>by simp [uk,rh l]
theorem iA(k o n:Int)(nm:Bs)(args:List Ex):bg (.mk k o n nm args)=eD k o n nm args (args.map bg):=by
 rw[bg,rh]
theorem lp(o n:Int)(nm:Bs)(args:List Ex):bg (.mk 1 o n nm args)=[nu n]:=by
 rw[iA];unfold eD;rw[if_pos rfl]
theorem lR(o n:Int)(nm:Bs)(args:List Ex):bg (.mk 2 o n nm args)=[nmp nm]:=by
 rw[iA];unfold eD;rw[if_neg (by decide),if_pos rfl]
def cG(e:Ex)(level:Int):List Pc:=eS e level (bg e)
theorem mA(o n:Int)(nm:Bs)(x:Ex):bg (.mk 3 o n nm [x])=sg (aU o)::cG x 9:=by
 rw[iA];unfold eD;rw[if_neg (by decide),if_neg (by decide),if_pos rfl];rfl
theorem mC(o n:Int)(nm:Bs)(x y:Ex):bg (.mk 4 o n nm [x,y])=cG x (aP o)++([.g [32],sg (aU o),.g [32]]++cG y (aP o+1)):=by
 rw[iA];unfold eD;rw[if_neg (by decide),if_neg (by decide),if_neg (by decide),if_pos rfl,Za];rfl
theorem iL(o n:Int)(nm:Bs)(args:List Ex):bg (.mk 5 o n nm args)=nmp nm::sg [40]::(ff (args.map bg)++[sg [41]]):=by
 rw[iA];unfold eD;rw[if_neg (by decide),if_neg (by decide),if_neg (by decide),if_neg (by decide),if_pos rfl];simp
theorem lY(o n:Int)(nm:Bs)(x:Ex):bg (.mk 6 o n nm [x])=nmp nm::sg [91]::(bg x++[sg [93]]):=by
 rw[iA];unfold eD;rw[if_neg (by decide),if_neg (by decide),if_neg (by decide),if_neg (by decide),if_neg (by decide),if_pos rfl];rfl
theorem ly(o n:Int)(nm:Bs)(args:List Ex):bg (.mk 7 o n nm args)=[wd [114,101,97,100],sg [40],sg [41]]:=by
 rw[iA];unfold eD;rw[if_neg (by decide),if_neg (by decide),if_neg (by decide),if_neg (by decide),if_neg (by decide),if_neg (by decide),if_pos rfl]
theorem ru:∀l:List (List Pc),ai (ff l)=au (l.map ai)
 |[]=>rfl
 |x::l=>by
  unfold ff au;rw[List.map_cons];dsimp only;rw[aS];congr 1
  unfold ai;rw[List.flatMap_assoc,List.flatMap_map];rfl
theorem lz(e:Ex)(lv:Int)(l:List Pc):ai (eS e lv l)=cv e lv (ai l):=by
 unfold eS cv;split
 ·rw[aS,aS];rfl
 ·rfl
theorem ld(e:Ex):ai (bg e)=aK e:=by
 obtain⟨k,o,n,nm,args⟩:=e;rw[iA,dx];have ih:(args.map bg).map ai=args.map aK:=by
  rw[List.map_map];exact List.map_congr_left (fun x hx=>ld x)
 have hg:∀i,ai ((args.map bg).getD i [])=(args.map aK).getD i []:=by
  intro i;rw[←ih];simp only[List.getD_eq_getElem?_getD,List.getElem?_map]
  cases args[i]? <;>rfl
 show ai (eD k o n nm args (args.map bg))=dU k o n nm args (args.map aK)
 unfold eD dU;split
 ·simp [ai,Pc.text]
 split
 ·simp [ai,Pc.text]
 split
 ·rw[aS,lz,hg];simp [ai,Pc.text]
 split
 ·rw[aS,aS,lz,lz,hg,hg];simp [ai,Pc.text]
 split
 ·rw[aS,aS,ru,ih];simp [ai,Pc.text]
 split
 ·rw[aS,aS,hg];simp [ai,Pc.text]
 split
 ·rfl
 ·rfl
termination_by SizeOf.sizeOf e
decreasing_by
 have:=List.sizeOf_lt_of_mem hx;simp only[Ex.mk.sizeOf_spec];omega
def Ev {α:Type}(g:Nat→PR α)(z:PR α):Prop:= ∃f0,∀f,f0≤f→g f=z
theorem Ev.two {α β:Type}{g:Nat→PR α}{h:Nat→PR β}{y:PR α}{z:PR β}(hg:Ev g y)(hh:Ev h z):∃f0,∀f,f0≤f→g f=y∧h f=z:=by
 obtain⟨a,ha⟩:=hg;obtain⟨b,hb⟩:=hh;exact⟨max a b,fun f hf=>⟨ha f (by omega),hb f (by omega)⟩⟩
theorem Ev.succ {α:Type}{g:Nat→PR α}{z:PR α}(h:∃f0,∀f,f0≤f→g (f+1)=z):Ev g z:=by
 obtain⟨a,ha⟩:=h;refine⟨a+1,fun f hf=> ?_⟩;obtain⟨k,rfl⟩:∃k,f=k+1:=⟨f - 1,by omega⟩;exact ha k (by omega)
theorem Ev.const {α:Type}{g:Nat→PR α}{z:PR α}(h:∀f,g (f+1)=z):Ev g z:=Ev.succ ⟨0,fun f _=>h f⟩
theorem Ev.one {α β:Type}{g:Nat→PR α}{h:Nat→PR β}{y:PR α}{z:PR β}(hg:Ev g y)(k:∀f,g f=y→h (f+1)=z):Ev h z:=by
 obtain⟨a,ha⟩:=hg;exact Ev.succ ⟨a,fun f hf=>k f (ha f hf)⟩
theorem Ev.both {α β γ:Type}{g:Nat→PR α}{h:Nat→PR β}{q:Nat→PR γ}{x:PR α}{y:PR β}{z:PR γ}(hg:Ev g x)(hh:Ev h y)(k:∀f,g f=x→h f=y→q (f+1)=z):Ev q z:=by
 obtain⟨a,ha⟩:=Ev.two hg hh;exact Ev.succ ⟨a,fun f hf=>k f (ha f hf).1 (ha f hf).2⟩
def For(ts:List Tk)(l:List Pc):Prop:=ts.map t3=gh l
theorem For.app {ts:List Tk}{a b:List Pc}(h:For ts (a++b)):∃t1 t2,ts=t1++t2∧For t1 a∧For t2 b:=by
 unfold For at h;rw[fY]at h;obtain⟨t1,t2,e,h1,h2⟩:=List.map_eq_append_iff.1 h;exact⟨t1,t2,e,h1,h2⟩
theorem For.cons {ts:List Tk}{x:T3}{l:List Pc}(h:For ts (.t x::l)):∃t r,ts=t::r∧t3 t=x∧For r l:=by
 unfold For at h;obtain⟨t,r,e,h1,h2⟩:=List.map_eq_cons_iff.1 (show ts.map t3=x::gh l from h);exact⟨t,r,e,h1,h2⟩
theorem For.gap {ts:List Tk}{b:Bs}{l:List Pc}(h:For ts (.g b::l)):For ts l:=h
theorem For.nil {ts:List Tk}(h:For ts []):ts=[]:=List.map_eq_nil_iff.1 h
theorem bu {t:Tk}{s:Bs}(h:t3 t=⟨4,s,0⟩):isP s t=true:=by
 unfold t3 at h;injection h with h1 h2 h3
 unfold isP;simp [h1,h2]
theorem hG {t:Tk}{s:Bs}(h:t3 t=⟨2,s,0⟩):isP s t=true:=by
 unfold t3 at h;injection h with h1 h2 h3
 unfold isP;simp [h1,h2]
theorem iU {t:Tk}{s:Bs}(h:t.kind=1∨t.kind=3∨t.kind=5):isP s t=false:=by
 unfold isP;rcases h with h|h|h<;>simp [h]
theorem cO {t:Tk}{s:Bs}(h:t.text≠s):isP s t=false:=by
 unfold isP;simp [h]
theorem nE {lv:Int}{t:Tk}{r:List Tk}:cJ lv (t::r)=0↔∀i:Nat,i<16→isP (aU ((i:Int)+1)) t=true→aP ((i:Int)+1)<lv:=by
 unfold cJ;dsimp only;constructor
 ·intro h i hi hp
  rcases hf:(((List.range 16).map fun i:Nat=>(i:Int)+1).find? fun op=>isP (aU op) t && decide (lv≤aP op))with _|op
  ·rw[List.find?_eq_none]at hf
   have:=hf ((i:Int)+1) (List.mem_map.2 ⟨i,List.mem_range.2 hi,rfl⟩);rw[hp]at this;simp at this;exact this
  ·rw[hf]at h
   have hm:=Zf hf;obtain⟨j,_,e⟩:=List.mem_map.1 hm;simp at h;omega
 ·intro h
  rcases hf:(((List.range 16).map fun i:Nat=>(i:Int)+1).find? fun op=>isP (aU op) t && decide (lv≤aP op))with _|op
  ·rfl
  ·have hs:=List.find?_some hf
   have hm:=Zf hf;obtain⟨j,hj,e⟩:=List.mem_map.1 hm;subst e;simp at hs;have:=h j (List.mem_range.1 hj) hs.1;omega
theorem oS {a b:Int}{l:List Tk}(h:cJ a l=0)(hab:a≤b):cJ b l=0:=by
 cases l with
 |nil=>rfl
 |cons t r=>
  rw[nE]at h ⊢;intro i hi hp;have:=h i hi hp;omega
theorem yG(op:Int):aP op≤8:=by
 unfold aP
 repeat' split
 all_goals omega
theorem lC {op:Int}(h:0<aP op):∃i:Fin 16,op=(i.val:Int)+1:=by
 have:op=1∨op=2∨op=3∨op=4∨op=5∨op=6∨op=7∨op=8∨op=9∨op=10∨op=11∨op=12∨op=13∨op=14∨op=15∨op=16:=by
  unfold aP at h
  revert h
  repeat' split
  all_goals(intro h;first|omega|(exfalso;exact absurd h (by decide)))
 rcases this with h|h|h|h|h|h|h|h|h|h|h|h|h|h|h|h
 ·exact⟨0,h⟩
 ·exact⟨1,h⟩
 ·exact⟨2,h⟩
 ·exact⟨3,h⟩
 ·exact⟨4,h⟩
 ·exact⟨5,h⟩
 ·exact⟨6,h⟩
 ·exact⟨7,h⟩
 ·exact⟨8,h⟩
 ·exact⟨9,h⟩
 ·exact⟨10,h⟩
 ·exact⟨11,h⟩
 ·exact⟨12,h⟩
 ·exact⟨13,h⟩
 ·exact⟨14,h⟩
 ·exact⟨15,h⟩
theorem qv:∀i j:Fin 16,aU ((i.val:Int)+1)=aU ((j.val:Int)+1)→i=j:=by decide
theorem cC {s:Bs}{t:Tk}(h:isP s t=true):t.text=s:=by
 unfold isP at h;simp at h;exact h.2
theorem zH {lv op:Int}{t:Tk}{r:List Tk}(ho:0<aP op)(hl:lv≤aP op)(ht:isP (aU op) t=true):cJ lv (t::r)=op:=by
 obtain⟨i,rfl⟩:=lC ho;unfold cJ;dsimp only;rcases hf:(((List.range 16).map fun i:Nat=>(i:Int)+1).find? fun op=>isP (aU op) t && decide (lv≤aP op))with _|op
 ·rw[List.find?_eq_none]at hf
  have:=hf ((i.val:Int)+1) (List.mem_map.2 ⟨i.val,List.mem_range.2 i.isLt,rfl⟩);rw[ht]at this;simp at this;omega
 ·have hs:=List.find?_some hf
  have hm:=Zf hf;obtain⟨j,hj,e⟩:=List.mem_map.1 hm;subst e;simp at hs;have e1:=cC ht;have e2:=cC hs.1;have:=qv i ⟨j,List.mem_range.1 hj⟩ (e1.symm.trans e2);subst this;rfl
theorem wt {lv:Int}{t:Tk}{r:List Tk}(h:∀i:Fin 16,t.text≠aU ((i.val:Int)+1)):cJ lv (t::r)=0:=by
 rw[nE];intro i hi hp;exact absurd (cC hp) (h ⟨i,hi⟩)
theorem bin_lvl {op lv:Int}{t:Tk}{r:List Tk}(ho:0<aP op)(ht:isP (aU op) t=true)(hl:aP op<lv):cJ lv (t::r)=0:=by
 obtain⟨i,rfl⟩:=lC ho;rw[nE];intro j hj hp;have:=qv i ⟨j,hj⟩ ((cC ht).symm.trans (cC hp));subst this;exact hl
theorem nj {lv:Int}{l r:List Tk}{x:Ex}{z:PR Ex}(h1:Ev (fun f=>bH f l) (.ok (x,r)))(h2:Ev (fun f=>fs f lv x r) z):Ev (fun f=>ar f lv l) z:=
 Ev.both h1 h2 (fun f e1 e2=>by(try dsimp only at e1 e2 ⊢);rw[ar,e1];exact e2)
theorem mD {lv:Int}{l:List Tk}{x:Ex}(h:cJ lv l=0):Ev (fun f=>fs f lv x l) (.ok (x,l)):=
 Ev.const (fun f=>by(try dsimp only);rw[fs,if_pos h])
theorem wJ {lv op:Int}{t:Tk}{l r:List Tk}{x y:Ex}{z:PR Ex}(ho:0<aP op)(hl:lv≤aP op)(ht:isP (aU op) t=true)(h1:Ev (fun f=>ar f (aP op+1) l) (.ok (y,r)))(h2:Ev (fun f=>fs f lv (.mk 4 op 0 [] [x,y]) r) z):Ev (fun f=>fs f lv x (t::l)) z:=
 Ev.both h1 h2 (fun f e1 e2=>by
  (try dsimp only at e1 e2 ⊢);have hb:cJ lv (t::l)=op:=zH ho hl ht;have h0:op≠0:=by rintro rfl;exact absurd ho (by decide)
  rw[fs,hb,if_neg h0,List.drop_one,List.tail_cons,e1];exact e2)
theorem p6 {t:Tk}{r:List Tk}(h:isP (aU 17) t=false∧isP (aU 18) t=false∧isP (aU 19) t=false):dR (t::r)=none:=by
 unfold dR;rw[aH h.1,aH h.2.1,aH h.2.2]
theorem un_some {op:Int}{t:Tk}{r:List Tk}(ho:op=17∨op=18∨op=19)(h:isP (aU op) t=true):dR (t::r)=some (op,r):=by
 have ht:=cC h;unfold dR;rcases ho with rfl|rfl|rfl
 ·rw[aQ h]
 ·rw[aH (cO (by rw[ht];decide)),aQ h]
 ·rw[aH (cO (by rw[ht];decide)),aH (cO (by rw[ht];decide)),aQ h]
theorem wR {op:Int}{t:Tk}{l r:List Tk}{x:Ex}(ho:op=17∨op=18∨op=19)(h:isP (aU op) t=true)(h1:Ev (fun f=>bH f l) (.ok (x,r))):Ev (fun f=>bH f (t::l)) (.ok (.mk 3 op 0 [] [x],r)):=
 Ev.one h1 (fun f e=>by(try dsimp only at e ⊢);rw[bH,un_some ho h];dsimp only;rw[e])
theorem vG {t:Tk}{r:List Tk}(h:t.text≠aU 17∧t.text≠aU 18∧t.text≠aU 19):dR (t::r)=none:=p6 ⟨cO h.1,cO h.2.1,cO h.2.2⟩
theorem mS {t u:Tk}{l r:List Tk}{x:Ex}(h:isP [40] t=true)(hu:isP [41] u=true)(h1:Ev (fun f=>ar f 1 l) (.ok (x,u::r))):Ev (fun f=>bH f (t::l)) (.ok (x,r)):=
 Ev.one h1 (fun f e=>by
  (try dsimp only at e ⊢);have ht:=cC h;rw[bH,vG ⟨by rw[ht];decide,by rw[ht];decide,by rw[ht];decide⟩];dsimp only;rw[aQ h];dsimp only;rw[e];dsimp only;rw[bR hu])
theorem tv {t u v:Tk}{r:List Tk}(h:isP [114,101,97,100] t=true)(hu:isP [40] u=true)(hv:isP [41] v=true):Ev (fun f=>bH f (t::u::v::r)) (.ok (.mk 7 0 0 [] [],r)):=
 Ev.const (fun f=>by
  (try dsimp only);have ht:=cC h;rw[bH,vG ⟨by rw[ht];decide,by rw[ht];decide,by rw[ht];decide⟩];dsimp only;rw[aH (cO (by rw[ht];decide)),aQ h];dsimp only;rw[bR hu];dsimp only;rw[bR hv])
theorem vV {t:Tk}{r:List Tk}(h:t.kind=3):Ev (fun f=>bH f (t::r)) (.ok (.mk 1 0 t.num [] [],r)):=
 Ev.const (fun f=>by
  (try dsimp only);have hk:∀s,isP s t=false:=fun s=>iU (.inr (.inl h))
  rw[bH,p6 ⟨hk _,hk _,hk _⟩];dsimp only;rw[aH (hk _),aH (hk _)];dsimp only;rw[if_pos h])
theorem kI {t:Tk}{l:List Tk}{z:PR Ex}(h:t.kind=1)(h1:Ev (fun f=>cQ f t.text l) z):Ev (fun f=>bH f (t::l)) z:=
 Ev.one h1 (fun f e=>by
  (try dsimp only at e ⊢);have hk:∀s,isP s t=false:=fun s=>iU (.inl h)
  rw[bH,p6 ⟨hk _,hk _,hk _⟩];dsimp only;rw[aH (hk _),aH (hk _)];dsimp only;rw[if_neg (by rw[h];decide),if_pos h];exact e)
theorem vr {s:Bs}{l:List Tk}(h1:bF [40] l=none)(h2:bF [91] l=none):Ev (fun f=>cQ f s l) (.ok (.mk 2 0 0 s [],l)):=
 Ev.const (fun f=>by(try dsimp only);rw[cQ,h1,h2])
theorem t7 {s:Bs}{t:Tk}{l r:List Tk}{a:List Ex}(h:isP [40] t=true)(h1:Ev (fun f=>eP f l) (.ok (a,r))):Ev (fun f=>cQ f s (t::l)) (.ok (.mk 5 0 0 s a,r)):=
 Ev.one h1 (fun f e=>by(try dsimp only at e ⊢);rw[cQ,aQ h];dsimp only;rw[e])
theorem wC {s:Bs}{t u:Tk}{l r:List Tk}{x:Ex}(h:isP [91] t=true)(hu:isP [93] u=true)(h1:Ev (fun f=>ar f 1 l) (.ok (x,u::r))):Ev (fun f=>cQ f s (t::l)) (.ok (.mk 6 0 0 s [x],r)):=
 Ev.one h1 (fun f e=>by
  (try dsimp only at e ⊢);have ht:=cC h;rw[cQ,aH (cO (by rw[ht];decide)),aQ h];dsimp only;rw[e];dsimp only;rw[bR hu])
theorem sP {t:Tk}{r:List Tk}(h:isP [41] t=true):Ev (fun f=>eP f (t::r)) (.ok ([],r)):=
 Ev.const (fun f=>by(try dsimp only);rw[eP,aQ h])
theorem pM {l:List Tk}{z:PR (List Ex)}(h:bF [41] l=none)(h1:Ev (fun f=>fi f [] l) z):Ev (fun f=>eP f l) z:=
 Ev.one h1 (fun f e=>by(try dsimp only at e ⊢);rw[eP,h];exact e)
theorem zD {a:List Ex}{x:Ex}{t:Tk}{l r:List Tk}(ht:isP [41] t=true)(h1:Ev (fun f=>ar f 1 l) (.ok (x,t::r))):Ev (fun f=>fi f a l) (.ok (a++[x],r)):=
 Ev.one h1 (fun f e=>by
  (try dsimp only at e ⊢);have h:=cC ht;rw[fi,e];dsimp only;rw[aH (cO (by rw[h];decide))];dsimp only;rw[bR ht])
theorem t8 {a:List Ex}{x:Ex}{t:Tk}{l r:List Tk}{z:PR (List Ex)}(ht:isP [44] t=true)(h1:Ev (fun f=>ar f 1 l) (.ok (x,t::r)))(h2:Ev (fun f=>fi f (a++[x]) r) z):Ev (fun f=>fi f a l) z:=
 Ev.both h1 h2 (fun f e1 e2=>by(try dsimp only at e1 e2 ⊢);rw[fi,e1];dsimp only;rw[aQ ht];exact e2)
inductive WEx:Ex→Prop
 |num (n:Int) (h:0≤n):WEx (.mk 1 0 n [] [])
 |var (s:Bs) (h:aY s=true):WEx (.mk 2 0 0 s [])
 |one (o:Int) (x:Ex) (ho:o=17∨o=18∨o=19) (hx:WEx x):WEx (.mk 3 o 0 [] [x])
 |two (o:Int) (x y:Ex) (ho:0<aP o) (hx:WEx x) (hy:WEx y):WEx (.mk 4 o 0 [] [x,y])
 |call (s:Bs) (l:List Ex) (h:aY s=true) (hl:l.length≤6) (hx:∀x,x∈l→WEx x):WEx (.mk 5 0 0 s l)
 |idx (s:Bs) (x:Ex) (h:aY s=true) (hx:WEx x):WEx (.mk 6 0 0 s [x])
 |read:WEx (.mk 7 0 0 [] [])
theorem tk:∀(e:Ex),bZ e=true→WEx e
 | .mk k o n nm args,h=>by
  rw[gu]at h;simp only[Zd,List.all_eq_true]at h;obtain⟨hw,ha⟩:=h;have ih:∀x,x∈args→WEx x:=fun x hx=>tk x (ha x hx)
  clear ha;unfold bY at hw;simp only[Zd,beq_iff_eq]at hw;obtain⟨⟨⟨⟨h1,h2⟩,h3⟩,h4⟩,h5⟩:=hw;unfold eG at h1;unfold cB at h2;unfold fG at h3;unfold gd at h4;unfold dE at h5;simp only[Ex.kind,Ex.op,Ex.n,Ex.name,Ex.args]at h1 h2 h3 h4 h5
  by_cases k1:k=1
  ·subst k1
   simp at h1 h2 h3 h4 h5;subst h2 h3 h5;exact .num n (of_decide_eq_true h1)
  by_cases k2:k=2
  ·subst k2
   simp at h1 h2 h3 h4 h5;subst h2 h3 h4;exact .var nm h1
  by_cases k3:k=3
  ·subst k3
   simp at h1 h2 h3 h4 h5;obtain⟨x,rfl⟩:=List.length_eq_one_iff.1 (by omega:args.length=1);subst h4 h5;exact .one o x (of_decide_eq_true h1) (ih x (by simp))
  by_cases k4:k=4
  ·subst k4
   simp at h1 h2 h3 h4 h5;obtain⟨x,y,rfl⟩:∃x y,args=[x,y]:=by
    match args,h2 with
    |[x,y],_=>exact⟨x,y,rfl⟩
   subst h4 h5;exact .two o x y (of_decide_eq_true h1) (ih x (by simp)) (ih y (by simp))
  by_cases k5:k=5
  ·subst k5
   simp at h1 h2 h3 h4 h5;subst h3 h4;exact .call nm args h1.1 (by have:=of_decide_eq_true h1.2;omega) ih
  by_cases k6:k=6
  ·subst k6
   simp at h1 h2 h3 h4 h5;obtain⟨x,rfl⟩:=List.length_eq_one_iff.1 (by omega:args.length=1);subst h3 h4;exact .idx nm x h1 (ih x (by simp))
  ·simp [k1,k2,k3,k4,k5,k6]at h1 h2 h3 h4 h5
   have h1:=of_decide_eq_true h1;subst h1 h2 h3 h4 h5;exact .read
termination_by e=>SizeOf.sizeOf e
decreasing_by
 exact Ex.size_lt (e:= .mk k o n nm args) hx
def qi(e:Ex):Int:=if e.kind=4 then aP e.op else 9
def iu(l:List Tk):Prop:=bF [40] l=none∧bF [91] l=none
theorem me {t:Tk}{r:List Tk}(h:t.text≠[40]∧t.text≠[91]):iu (t::r):=⟨aH (cO h.1),aH (cO h.2)⟩
def jD(e:Ex):Prop:= ∀ts rest,For ts (cG e 9)→iu rest→Ev (fun f=>bH f (ts++rest)) (.ok (e,rest))
def lS(e:Ex):Prop:= ∀lv ts rest z,lv≤qi e→For ts (bg e)→iu rest→cJ (qi e+1) rest=0→Ev (fun f=>fs f lv e rest) z→Ev (fun f=>ar f lv (ts++rest)) z
theorem gv {e:Ex}(hk:e.kind≠4)(h:jD e):lS e:=by
 intro lv ts rest z hl hf hn hb hz;refine nj (h ts rest ?_ hn) hz;have:cG e 9=bg e:=by unfold cG eS;rw[if_neg (by rintro⟨h1,_⟩;exact hk h1)]
 rw[this];exact hf
theorem oF {e:Ex}(ht:jD e)(hc:lS e){L lv:Int}(hL:L≤9)(hl:lv≤L){ts rest:List Tk}{z:PR Ex}(hf:For ts (cG e L))(hn:iu rest)(hb:cJ (L+1) rest=0)(hz:Ev (fun f=>fs f lv e rest) z):Ev (fun f=>ar f lv (ts++rest)) z:=by
 by_cases hw:e.kind=4∧aP e.op<L
 ·have h9:cG e 9=cG e L:=by
   unfold cG eS;rw[if_pos hw,if_pos ⟨hw.1,by omega⟩]
  exact nj (ht ts rest (by rw[h9];exact hf) hn) hz
 ·have h0:cG e L=bg e:=by unfold cG eS;rw[if_neg hw]
  have hle:L≤qi e:=by
   unfold qi;split
   ·rename_i h4
    have:¬aP e.op<L:=fun h=>hw ⟨h4,h⟩
    omega
   ·exact hL
  rw[h0]at hf;exact hc lv ts rest z (by omega) hf hn (oS hb (by omega)) hz
theorem gk {e:Ex}(hc:lS e){ts rest:List Tk}(hf:For ts (bg e))(hn:iu rest)(hb:cJ 1 rest=0)(h1:1≤qi e):Ev (fun f=>ar f 1 (ts++rest)) (.ok (e,rest)):=
 hc 1 ts rest _ h1 hf hn (oS hb (by omega)) (mD hb)
theorem kD {e:Ex}(h:WEx e):1≤qi e:=by
 cases h with
 |two o x y ho hx hy=>show 1≤aP o;omega
 |_=>show(1:Int)≤9;decide
theorem g6 {lv:Int}{t:Tk}{r:List Tk}(h:t.text=[41]∨t.text=[93]∨t.text=[44]∨t.text=[59]∨t.text=[]):cJ lv (t::r)=0:=by
 refine wt (fun i=> ?_);rcases h with h|h|h|h|h<;>(rw[h];revert i;decide)
theorem f8 {t:Tk}{r:List Tk}(h:t.text=[41]∨t.text=[93]∨t.text=[44]∨t.text=[59]∨t.text=[]):iu (t::r):=by
 refine me ?_;rcases h with h|h|h|h|h<;>(rw[h];decide)
theorem sA {op:Int}{t:Tk}{r:List Tk}(ho:0<aP op)(h:isP (aU op) t=true):iu (t::r):=by
 refine me ?_;rw[cC h];obtain⟨i,rfl⟩:=lC ho;clear ho h
 revert i;decide
theorem jN(x:Ex)(l:List Ex):ff ((x::l).map bg)=bg x++l.flatMap (fun y=>[sg [44],.g [32]]++bg y):=by
 show bg x++(l.map bg).flatMap (fun y=>[sg [44],.g [32]]++y)=_
 rw[List.flatMap_map]
theorem kK:∀(l:List Ex) (a:List Ex) (x:Ex) (ts rest:List Tk) (t:Tk),(∀y,y∈x::l→lS y∧WEx y)→For ts (bg x++l.flatMap (fun y=>[sg [44],.g [32]]++bg y))→isP [41] t=true→
  Ev (fun f=>fi f a (ts++t::rest)) (.ok (a++x::l,rest))
 |[],a,x,ts,rest,t,hl,hf,ht=>by
  have hx:=hl x Zb;rw[List.flatMap_nil,List.append_nil]at hf;have tt:=cC ht;exact zD ht (gk hx.1 hf (f8 (.inl tt)) (g6 (.inl tt)) (kD hx.2))
 |y::l,a,x,ts,rest,t,hl,hf,ht=>by
  have hx:=hl x Zb;obtain⟨t1,t2,rfl,h1,h2⟩:=hf.app;rw[List.flatMap_cons]at h2;obtain⟨c,t2,rfl,hc,h2⟩:=For.cons (by simpa using h2);have hc:=bu hc;have ih:=kK l (a++[x]) y t2 rest t (fun z hz=>hl z (Ze _ hz)) (by have:=For.gap h2;simpa using this) ht;have tc:=cC hc;rw[Za];rw[Za]at ih;exact t8 hc (gk hx.1 h1 (f8 (.inr (.inr (.inl tc)))) (g6 (.inr (.inr (.inl tc)))) (kD hx.2)) ih
theorem mK {e:Ex}(h:WEx e):∀(lv:Int),∃x l,gh (cG e lv)=x::l∧x.text≠[41]∧x.kind≠5:=by
 have wrap:∀(e:Ex) (lv:Int),(∃x l,gh (bg e)=x::l∧x.text≠[41]∧x.kind≠5)→∃x l,gh (cG e lv)=x::l∧x.text≠[41]∧x.kind≠5:=by
  intro e lv h;unfold cG eS;split
  ·exact⟨_,_,rfl,by decide,(by show _≠(5:Int);first|exact(by decide:(3:Int)≠5)|exact(by decide:(1:Int)≠5)|exact(by decide:(4:Int)≠5)|exact(by decide:(2:Int)≠5))⟩
  ·exact h
 have name:∀(s:Bs),aY s=true→s≠[41]:=by
  rintro s h rfl;exact absurd h (by decide)
 induction h with
 |num n h=>
  intro lv;refine wrap _ _ ?_;rw[lp];refine⟨_,_,rfl,?_,(by show _≠(5:Int);first|exact(by decide:(3:Int)≠5)|exact(by decide:(1:Int)≠5)|exact(by decide:(4:Int)≠5)|exact(by decide:(2:Int)≠5))⟩;show Lib.itoa n≠[41]
  intro e;unfold Lib.itoa at e;rw[if_neg (by omega)]at e;have:=gq n.toNat 41 (by rw[e];exact Zb);exact absurd this (by decide)
 |var s h=>intro lv;refine wrap _ _ ?_;rw[lR];exact⟨_,_,rfl,name s h,(by show _≠(5:Int);first|exact(by decide:(3:Int)≠5)|exact(by decide:(1:Int)≠5)|exact(by decide:(4:Int)≠5)|exact(by decide:(2:Int)≠5))⟩
 |one o x ho hx ih=>
  intro lv;refine wrap _ _ ?_;rw[mA];refine⟨_,_,rfl,?_,(by show _≠(5:Int);first|exact(by decide:(3:Int)≠5)|exact(by decide:(1:Int)≠5)|exact(by decide:(4:Int)≠5)|exact(by decide:(2:Int)≠5))⟩;rcases ho with rfl|rfl|rfl<;>decide
 |two o x y ho hx hy ihx ihy=>
  intro lv;refine wrap _ _ ?_;rw[mC,fY];obtain⟨u,l,e,h⟩:=ihx (aP o);rw[e];exact⟨_,_,rfl,h⟩
 |call s l h hl hx ih=>intro lv;refine wrap _ _ ?_;rw[iL];exact⟨_,_,rfl,name s h,(by show _≠(5:Int);first|exact(by decide:(3:Int)≠5)|exact(by decide:(1:Int)≠5)|exact(by decide:(4:Int)≠5)|exact(by decide:(2:Int)≠5))⟩
 |idx s x h hx ih=>intro lv;refine wrap _ _ ?_;rw[lY];exact⟨_,_,rfl,name s h,(by show _≠(5:Int);first|exact(by decide:(3:Int)≠5)|exact(by decide:(1:Int)≠5)|exact(by decide:(4:Int)≠5)|exact(by decide:(2:Int)≠5))⟩
 |read=>intro lv;refine wrap _ _ ?_;rw[ly];exact⟨_,_,rfl,by decide,(by show _≠(5:Int);first|exact(by decide:(3:Int)≠5)|exact(by decide:(1:Int)≠5)|exact(by decide:(4:Int)≠5)|exact(by decide:(2:Int)≠5))⟩
theorem gA {e:Ex}(h:e.kind≠4)(lv:Int):cG e lv=bg e:=by
 unfold cG eS;rw[if_neg (by rintro⟨h1,_⟩;exact h h1)]
theorem dO {t:Tk}{x:T3}(h:t3 t=x):t.kind=x.kind∧t.text=x.text∧t.num=x.num:=by subst h;exact⟨rfl,rfl,rfl⟩
theorem oQ {e:Ex}(h:WEx e):jD e∧lS e:=by
 induction h with
 |num n h=>
  have ht:jD (.mk 1 0 n [] []):=by
   intro ts rest hf hn;rw[gA (by simp [Ex.kind]),lp]at hf;obtain⟨t,r,rfl,h3,hr⟩:=hf.cons;obtain⟨k1,k2,k3⟩:=dO h3;rw[hr.nil];have:=vV (t:=t) (r:=rest) k1;rw[k3]at this;exact this
  exact⟨ht,gv (by simp [Ex.kind]) ht⟩
 |var s h=>
  have ht:jD (.mk 2 0 0 s []):=by
   intro ts rest hf hn;rw[gA (by simp [Ex.kind]),lR]at hf;obtain⟨t,r,rfl,h3,hr⟩:=hf.cons;obtain⟨k1,k2,k3⟩:=dO h3;rw[hr.nil];have:=kI (t:=t) (l:=rest) k1 (vr hn.1 hn.2);rw[k2]at this;exact this
  exact⟨ht,gv (by simp [Ex.kind]) ht⟩
 |one o x ho hx ih=>
  have ht:jD (.mk 3 o 0 [] [x]):=by
   intro ts rest hf hn;rw[gA (by simp [Ex.kind]),mA]at hf;obtain⟨t,r,rfl,h3,hr⟩:=hf.cons;exact wR ho (bu h3) (ih.1 r rest hr hn)
  exact⟨ht,gv (by simp [Ex.kind]) ht⟩
 |two o x y ho hx hy ihx ihy=>
  have hle:=yG o;have hc:lS (.mk 4 o 0 [] [x,y]):=by
   intro lv ts rest z hl hf hn hb hz;have hlv:qi (.mk 4 o 0 [] [x,y])=aP o:=rfl;rw[hlv]at hl hb;rw[mC]at hf;obtain⟨t1,t2,rfl,h1,h2⟩:=hf.app;obtain⟨t,r,rfl,h3,hr⟩:=For.cons (For.gap (show For t2 (.g [32]::sg (aU o):: .g [32]::cG y (aP o+1))from h2));have hs:=bu h3;rw[Za];refine oF ihx.1 ihx.2 (L:=aP o) (by omega) hl h1 (sA ho hs) (bin_lvl ho hs (by omega)) ?_;refine wJ ho hl hs ?_ hz;exact oF ihy.1 ihy.2 (L:=aP o+1) (by omega) (Int.le_refl _) hr.gap hn (oS hb (by omega)) (mD hb)
  refine⟨?_,hc⟩;intro ts rest hf hn;have:cG (.mk 4 o 0 [] [x,y]) 9=sg [40]::(bg (.mk 4 o 0 [] [x,y])++[sg [41]]):=by
   unfold cG eS;rw[if_pos ⟨rfl,by show aP o<9;omega⟩];rfl
  rw[this]at hf;obtain⟨t,r,rfl,h3,hr⟩:=hf.cons;obtain⟨t1,t2,rfl,h1,h2⟩:=hr.app;obtain⟨u,q,rfl,h4,hq⟩:=h2.cons;rw[hq.nil];have hu:=bu h4;have tu:=cC hu;have hr1:(t::(t1++[u]))++rest=t::(t1++u::rest):=by simp
  rw[hr1];refine mS (bu h3) hu ?_;exact gk hc h1 (f8 (.inl tu)) (g6 (.inl tu)) (by show 1≤aP o;omega)
 |call s l h hl hx ih=>
  have ht:jD (.mk 5 0 0 s l):=by
   intro ts rest hf hn;rw[gA (by simp [Ex.kind]),iL]at hf;obtain⟨t,r,rfl,h3,hr⟩:=hf.cons;obtain⟨k1,k2,k3⟩:=dO h3;obtain⟨o,r,rfl,h4,hr⟩:=hr.cons;obtain⟨t1,t2,rfl,h1,h2⟩:=hr.app;obtain⟨u,q,rfl,h5,hq⟩:=h2.cons;rw[hq.nil];have hu:=bu h5;have hr1:(t::o::(t1++[u]))++rest=t::o::(t1++u::rest):=by simp
   rw[hr1];have key:Ev (fun f=>eP f (t1++u::rest)) (.ok (l,rest)):=by
    cases l with
    |nil=>
     have:t1=[]:=h1.nil;subst this;exact sP hu
    |cons x l=>
     have hm:=kK l [] x t1 rest u (fun y hy=>⟨(ih y hy).2,hx y hy⟩) (by
      have e:ff ((x::l).map bg)=bg x++l.flatMap (fun y=>[sg [44],.g [32]]++bg y):=by
       exact jN x l
      rw[←e];exact h1) hu
     refine pM ?_ hm;obtain⟨w,l',e',n1,n2⟩:=mK (hx x Zb) 0;have e0:cG x 0=bg x:=by
      unfold cG eS;rw[if_neg];rintro⟨q1,q2⟩;have:=kD (hx x Zb);unfold qi at this;rw[if_pos q1]at this;omega
     rw[e0]at e';have e1:t1.map t3=w::(l'++gh (l.flatMap (fun y=>[sg [44],.g [32]]++bg y))):=by
      have q:For t1 (ff ((x::l).map bg)):=h1;have e:ff ((x::l).map bg)=bg x++l.flatMap (fun y=>[sg [44],.g [32]]++bg y):=by
       exact jN x l
      rw[e]at q;unfold For at q;rw[q,fY,e'];rfl
     obtain⟨a,b,rfl,e2,_⟩:=List.map_eq_cons_iff.1 e1;rw[List.cons_append];refine aH (cO ?_);rw[show a.text=w.text from by rw[←e2];rfl];exact n1
   have:=kI (t:=t) (l:=o::(t1++u::rest)) k1 (t7 (bu h4) key);rw[k2]at this;exact this
  exact⟨ht,gv (by simp [Ex.kind]) ht⟩
 |idx s x h hx ih=>
  have ht:jD (.mk 6 0 0 s [x]):=by
   intro ts rest hf hn;rw[gA (by simp [Ex.kind]),lY]at hf;obtain⟨t,r,rfl,h3,hr⟩:=hf.cons;obtain⟨k1,k2,k3⟩:=dO h3;obtain⟨o,r,rfl,h4,hr⟩:=hr.cons;obtain⟨t1,t2,rfl,h1,h2⟩:=hr.app;obtain⟨u,q,rfl,h5,hq⟩:=h2.cons;rw[hq.nil];have hu:=bu h5;have tu:=cC hu;have hr1:(t::o::(t1++[u]))++rest=t::o::(t1++u::rest):=by simp
   rw[hr1];have:=kI (t:=t) (l:=o::(t1++u::rest)) k1 (wC (bu h4) hu (gk ih.2 h1 (f8 (.inr (.inl tu))) (g6 (.inr (.inl tu))) (kD hx)));rw[k2]at this;exact this
  exact⟨ht,gv (by simp [Ex.kind]) ht⟩
 |read=>
  have ht:jD (.mk 7 0 0 [] []):=by
   intro ts rest hf hn;rw[gA (by simp [Ex.kind]),ly]at hf;obtain⟨t,r,rfl,h3,hr⟩:=hf.cons;obtain⟨u,r,rfl,h4,hr⟩:=hr.cons;obtain⟨v,r,rfl,h5,hr⟩:=hr.cons;rw[hr.nil];exact tv (hG h3) (bu h4) (bu h5)
  exact⟨ht,gv (by simp [Ex.kind]) ht⟩
def kY(e:Ex):Nat→List Pc
 |0=>bg e
 |k+1=>sg [40]::(kY e k++[sg [41]])
theorem pg {e:Ex}(h:WEx e):∀(k:Nat) (ts rest:List Tk),For ts (kY e k)→iu rest→cJ 1 rest=0→Ev (fun f=>ar f 1 (ts++rest)) (.ok (e,rest))
 |0,ts,rest,hf,hn,hb=>gk (oQ h).2 hf hn hb (kD h)
 |k+1,ts,rest,hf,hn,hb=>by
  obtain⟨t,r,rfl,h3,hr⟩:=hf.cons;obtain⟨t1,t2,rfl,h1,h2⟩:=hr.app;obtain⟨u,r2,rfl,h4,h5⟩:=h2.cons;have hu:=bu h4;have tu:=cC hu;have ih:=pg h k t1 (u::r2++rest) h1 (f8 (.inl tu)) (g6 (.inl tu));rw[h5.nil]at ih ⊢;have:=nj (lv:=1) (mS (bu h3) hu ih) (mD hb);simpa using this
def dY(S:Int→Bs→Bool):List Pc→Bs→Prop
 |[],_=>True
 | .g _::l,z=>dY S l z
 | .t x::l,z=>S x.kind (ai l++z)=true∧dY S l z
theorem dY.app {S:Int→Bs→Bool}:∀ {a b:List Pc} {z:Bs},dY S a (ai b++z)→dY S b z→dY S (a++b) z
 |[],b,z,_,h=>h
 | .g x::a,b,z,h1,h2=>dY.app (a:=a) h1 h2
 | .t x::a,b,z,h1,h2=>⟨by rw[List.append_eq,aS,Za];exact h1.1,dY.app (a:=a) h1.2 h2⟩
def sS(c:UInt8):Bool:=c==32||c==41||c==93||c==44||c==59||c==10
def sZ(c:UInt8):Bool:=bi c||cF c||c==40||c==45||c==33||c==126
def ms(z:Bs):Prop:=z=[]∨∃c r,z=c::r∧sS c=true
def iW(z:Bs):Prop:= ∃c r,z=c::r∧sZ c=true
structure jA (S:Int→Bs→Bool):Prop where
 nil:∀k,S k []=true
 soft:∀k c r,sS c=true→S k (c::r)=true
 head:∀c r,sZ c=true→S 4 (c::r)=true
 opens:∀k r,k≠3→S k (40::r)=true∧S k (91::r)=true
theorem jA.ofSoft {S:Int→Bs→Bool}(h:jA S){z:Bs}(hz:ms z)(k:Int):S k z=true:=by
 rcases hz with rfl|⟨c,r,rfl,hc⟩
 ·exact h.nil k
 ·exact h.soft k c r hc
theorem jA.ofHead {S:Int→Bs→Bool}(h:jA S){z:Bs}(hz:iW z):S 4 z=true:=by
 obtain⟨c,r,rfl,hc⟩:=hz;exact h.head c r hc
theorem iW.app {a b:Bs}(h:iW a):iW (a++b):=by
 obtain⟨c,r,rfl,hc⟩:=h;exact⟨c,r++b,rfl,hc⟩
theorem di {c:UInt8}{r:Bs}(h:sS c=true):ms (c::r):= .inr ⟨c,r,rfl,h⟩
theorem lx {s:Bs}(h:aY s=true):iW s:=by
 cases s with
 |nil=>exact absurd h (by decide)
 |cons c r=>
  refine⟨c,r,rfl,?_⟩;have:bi c=true:=by
   simp only[aY,eO,Zd,Bool.or_eq_true,Bool.not_true,Bool.false_and,Bool.or_false]at h
   first|exact h.1.1|exact h.1.1.1|exact h.2.1|(simp at h;exact h.1)|(simp at h;exact h.1.1)|(simp at h;exact h.2.1)
  unfold sZ;rw[this];rfl
def mo:Prop:= ∀u,(∀c,c∈Lib.decDigits u→cF c=true)∧Lib.decDigits u≠[]
theorem sL {n:Int}(h:0≤n)(hd:mo):iW (Lib.itoa n):=by
 unfold Lib.itoa;rw[if_neg (by omega)];rcases hq:Lib.decDigits n.toNat with _|⟨c,r⟩
 ·exact absurd hq (hd n.toNat).2
 ·refine⟨c,r,rfl,?_⟩
  have:=(hd n.toNat).1 c (by rw[hq];exact Zb);unfold sZ;rw[this];simp
theorem je(x:Pc)(l:List Pc):ai (x::l)=x.text++ai l:=rfl
theorem pF {e:Ex}{lv:Int}(h:iW (ai (bg e))):iW (ai (cG e lv)):=by
 unfold cG eS;split
 ·exact⟨40,_,rfl,by decide⟩
 ·exact h
theorem fd(hd:mo){e:Ex}(h:WEx e):iW (ai (bg e)):=by
 induction h with
 |num n h=>rw[lp];exact(sL h hd).app
 |var s h=>rw[lR];exact(lx h).app
 |one o x ho hx ih=>rw[mA];rcases ho with rfl|rfl|rfl<;>exact⟨_,_,rfl,by decide⟩
 |two o x y ho hx hy ihx ihy=>rw[mC,aS];exact(pF ihx).app
 |call s l h hl hx ih=>rw[iL,je];exact(lx h).app
 |idx s x h hx ih=>rw[lY,je];exact(lx h).app
 |read=>rw[ly];exact⟨_,_,rfl,by decide⟩
theorem oO {S:Int→Bs→Bool}(hS:jA S){e:Ex}(hh:iW (ai (bg e)))(h:∀z,ms z→dY S (bg e) z)(lv:Int)(z:Bs)(hz:ms z):dY S (cG e lv) z:=by
 unfold cG eS;split
 ·rw[Za]
  refine⟨?_,?_⟩
  ·show S 4 (ai (bg e++[sg [41]])++z)=true
   rw[aS,Za];exact hS.ofHead hh.app
  ·show dY S (bg e++[sg [41]]) z
   exact dY.app (h _ (di (by decide))) ⟨hS.ofSoft hz 4,trivial⟩
 ·exact h z hz
theorem rE {S:Int→Bs→Bool}(hS:jA S)(z:Bs):∀(l:List Ex),(∀y,y∈l→∀z,ms z→dY S (bg y) z)→dY S (l.flatMap (fun y=>[sg [44],.g [32]]++bg y)) (41::z)∧ms (ai (l.flatMap (fun y=>[sg [44],.g [32]]++bg y))++41::z)
 |[],h=>⟨trivial,di (by decide)⟩
 |y::l,h=>by
  obtain⟨h1,h2⟩:=rE hS z l (fun x hx=>h x (Ze _ hx));rw[List.flatMap_cons];refine⟨?_,?_⟩
  ·refine dY.app (a:=[sg [44],.g [32]]++bg y) ?_ h1
   exact⟨hS.soft 4 32 _ (by decide),h y Zb _ h2⟩
  ·exact di (by decide)
theorem zP {S:Int→Bs→Bool}(hS:jA S)(hd:mo){e:Ex}(h:WEx e):∀z,ms z→dY S (bg e) z:=by
 induction h with
 |num n h=>intro z hz;rw[lp];exact⟨hS.ofSoft hz 3,trivial⟩
 |var s h=>intro z hz;rw[lR];exact⟨hS.ofSoft hz 1,trivial⟩
 |one o x ho hx ih=>
  intro z hz;rw[mA];exact⟨hS.ofHead (pF (fd hd hx)).app,oO hS (fd hd hx) ih 9 z hz⟩
 |two o x y ho hx hy ihx ihy=>
  intro z hz;rw[mC];refine dY.app (oO hS (fd hd hx) ihx _ _ (di (by decide))) ?_;exact⟨hS.soft 4 32 _ (by decide),oO hS (fd hd hy) ihy _ z hz⟩
 |call s l h hl hx ih=>
  intro z hz;rw[iL];have hclose:dY S [sg [41]] z:=⟨hS.ofSoft hz 4,trivial⟩
  cases l with
  |nil=>
   exact⟨(hS.opens 1 _ (by decide)).1,hS.soft 4 41 _ (by decide),hclose⟩
  |cons x l=>
   have hx0:=hx x Zb;obtain⟨h1,h2⟩:=rE hS z l (fun y hy=>ih y (Ze _ hy));rw[jN];refine⟨(hS.opens 1 _ (by decide)).1,?_,?_⟩
   ·rw[aS,aS,Za,Za]
    exact hS.ofHead (fd hd hx0).app
   ·rw[Za]
    refine dY.app (ih x Zb _ ?_) (dY.app h1 hclose);rw[aS,Za];exact h2
 |idx s x h hx ih=>
  intro z hz;rw[lY];refine⟨(hS.opens 1 _ (by decide)).2,?_,dY.app (ih _ (di (by decide))) ⟨hS.ofSoft hz 4,trivial⟩⟩;rw[aS,Za];exact hS.ofHead (fd hd hx).app
 |read=>
  intro z hz;rw[ly];exact⟨(hS.opens 2 _ (by decide)).1,hS.soft 4 41 _ (by decide),hS.ofSoft hz 4,trivial⟩
theorem yz(hd:mo){e:Ex}(h:WEx e):∀k,iW (ai (kY e k))
 |0=>fd hd h
 |k+1=>⟨40,_,rfl,by decide⟩
theorem uf {S:Int→Bs→Bool}(hS:jA S)(hd:mo){e:Ex}(h:WEx e):∀k z,ms z→dY S (kY e k) z
 |0,z,hz=>zP hS hd h z hz
 |k+1,z,hz=>by
  refine⟨?_,dY.app (uf hS hd h k _ (di (by decide))) ⟨hS.ofSoft hz 4,trivial⟩⟩;rw[aS,Za];exact hS.ofHead (yz hd h k).app
end Go.Proofs.YtcfpfnoldgnloaaGreatDoor

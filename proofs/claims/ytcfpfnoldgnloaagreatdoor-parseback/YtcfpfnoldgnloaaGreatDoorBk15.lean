/-
  Pieces as tokens with blanks behind them: the text, what Scan gives, what may stand beside what.
-/
import Derived.Test.YtcfpfnoldgnloaaGreatDoorBk14
set_option linter.unusedVariables false
set_option linter.unusedSimpArgs false
namespace Go.Proofs.YtcfpfnoldgnloaaGreatDoor
open Go.RowKit
set_option maxHeartbeats 20000000
set_option maxRecDepth 100000
open List renaming mem_cons_self→Za,append_assoc→Zb,nil_append→Zc,mem_cons_of_mem→Zd,append_nil→Ze,cons_append→Zf,flatMap_cons→Zi
open Go.Lib renaming nDigits→Zg
open Bool renaming and_eq_true→Zh
def bz:List Pc→Bs
 | .g b::l=>b++bz l
 |_=>[]
def df:List Pc→List It
 |[]=>[]
 | .g _::l=>df l
 | .t x::l=>⟨x.text,x.kind,x.num,bz l,[]⟩::df l
theorem jS:∀l:List Pc,bz l++bm (df l)=ai l
 |[]=>rfl
 | .g b::l=>by
  show(b++bz l)++bm (df l)=b++ai l
  rw[Zb,jS l]
 | .t x::l=>by
  show []++bm (_::df l)=x.text++ai l
  rw[jR,Zc];show x.text++(aL (bz l) []++bm (df l))=_
  rw[show aL (bz l) []=bz l by unfold aL;simp,jS l]
theorem mx:∀(l:List Pc) (line:Nat),(jv line (df l)).map t3=gh l
 |[],line=>rfl
 | .g b::l,line=>mx l line
 | .t x::l,line=>by
  show(⟨x.kind,x.text,x.num,line⟩:Tk)|>fun t=>t3 t::(jv _ (df l)).map t3=x::gh l
  rw[mx l];rfl
def k9(x:T3):Prop:=gQ x.text x.kind x.num∧(x.kind=3→∀r,x.text≠39::r)∧I64 x.num
def aq(l:List Pc):Prop:= ∀p,p∈l→match p with| .t x=>k9 x| .g b=> ∀c,c∈b→dT c=true
theorem jz:∀(l:List Pc),aq l→∀c,c∈bz l→dT c=true
 |[],h,c,hc=>by cases hc
 | .t x::l,h,c,hc=>by cases hc
 | .g b::l,h,c,hc=>by
  rcases List.mem_append.1 (show c∈b++bz l from hc)with hc|hc
  ·exact h (.g b) Za c hc
  ·exact jz l (fun p hp=>h p (Zd _ hp)) c hc
theorem po(z:Bs):∀(l:List Pc),aq l→dY iz l z→ie z (df l)∧∀i,i∈df l→I64 i.n
 |[],h,hs=>⟨trivial,fun i hi=>by cases hi⟩
 | .g b::l,h,hs=>po z l (fun p hp=>h p (Zd _ hp)) hs
 | .t x::l,h,hs=>by
  have hl:aq l:=fun p hp=>h p (Zd _ hp)
  obtain⟨i1,i2⟩:=po z l hl hs.2;obtain⟨h1,h2,h3⟩:k9 x:=h (.t x) Za;have hg:aL (bz l) []=bz l:=by unfold aL;simp
  refine⟨⟨sd h1 h2 ?_,⟨jz l hl,fun p hp=>by cases hp⟩,i1⟩,fun i hi=> ?_⟩
  ·show iz x.kind (aL (bz l) []++(bm (df l)++z))=true
   rw[hg,←Zb,jS];exact hs.1
  ·rcases List.mem_cons.1 hi with rfl|hi
   ·exact h3
   ·exact i2 i hi
theorem mF {c:UInt8}{r:Bs}(h7:c.toNat<128)(h:c≠61∧c≠60∧c≠62∧c≠47):iz 4 (c::r)=true:=by
 obtain⟨h1,h2,h3,h4⟩:=h;simp [iz,h7,h1,h2,h3,h4]
theorem sepR:jA iz:=by
 refine⟨fun k=>rfl,fun k c r h=> ?_,fun c r h=> ?_,fun k r h=> ?_⟩
 ·have hc:c=32∨c=41∨c=93∨c=44∨c=59∨c=10:=by simpa [sS,or_assoc]using h
  by_cases h4:k=4
  ·subst h4;rcases hc with rfl|rfl|rfl|rfl|rfl|rfl<;>exact mF (by decide) (by decide)
  ·by_cases h3:k=3
   ·subst h3;rcases hc with rfl|rfl|rfl|rfl|rfl|rfl<;>(unfold iz;dsimp only;rw[if_neg (by decide),if_pos rfl];decide)
   ·unfold iz
    rcases hc with rfl|rfl|rfl|rfl|rfl|rfl<;>(dsimp only;rw[if_neg h4,if_neg h3];decide)
 ·unfold sZ at h
  by_cases hl:bi c=true
  ·have:=mE hl
   exact mF (fX hl) ⟨by rintro rfl;exact absurd this (by decide),by rintro rfl;exact absurd this (by decide),by rintro rfl;exact absurd this (by decide),by rintro rfl;exact absurd this (by decide)⟩
  ·by_cases hd:cF c=true
   ·have h1:=rT hd
    have h2:=jV hd;exact mF h2 ⟨by rintro rfl;exact absurd hd (by decide),by rintro rfl;exact absurd hd (by decide),by rintro rfl;exact absurd hd (by decide),by rintro rfl;exact absurd hd (by decide)⟩
   ·have hc:c=40∨c=45∨c=33∨c=126:=by simpa [hl,hd,or_assoc]using h
    rcases hc with rfl|rfl|rfl|rfl<;>exact mF (by decide) (by decide)
 ·by_cases h4:k=4
  ·subst h4;exact⟨mF (by decide) (by decide),mF (by decide) (by decide)⟩
  ·refine⟨?_,?_⟩<;>(unfold iz;dsimp only;rw[if_neg h4,if_neg h];decide)
theorem digL:mo:=fun u=>⟨gq u,mB u⟩
theorem qe(u:Nat)(h:u<10000000000000000000):Zg u≤19:=by
 by_cases h0:u<10
 ·rw[Zg,dif_pos h0];decide
 ·have step:∀(n u:Nat),(¬u<10→Zg (u / 10)≤n)→Zg u≤n+1:=fun n u h=>by
   rw[Zg];split
   ·omega
   ·rename_i hh;have:=h hh;omega
  have pw:∀(n u:Nat),u<10 ^ (n+1)→Zg u≤n+1:=by
   intro n
   induction n with
   |zero=>intro u hu;rw[Zg,dif_pos (by omega)];omega
   |succ n ih=>intro u hu;exact step (n+1) u (fun _=>ih (u / 10) (by rw[Nat.pow_succ]at hu;omega))
  exact pw 18 u (by omega)
theorem yL {n:Int}(h0:0≤n)(h1:I64 n):k9 ⟨3,Lib.itoa n,n⟩:=by
 have e:Lib.itoa n=Lib.decDigits n.toNat:=by unfold Lib.itoa;rw[if_neg (by omega)]
 have hu:(n.toNat:Int)=n:=by omega
 have hb:n.toNat≤9223372036854775807:=by have:=h1.2;omega
 refine⟨?_,fun _ r hr=> ?_,h1⟩
 ·show gQ (Lib.itoa n) 3 n
  rw[e];rcases hq:Lib.decDigits n.toNat with _|⟨c,t⟩
  ·exact absurd hq (mB _)
  ·have hlen:(Lib.decDigits n.toNat).length≤19:=by
    rw[Lib.decDigits_length];exact qe _ (by omega)
   have:=gQ.num n.toNat hlen hb c t hq (gq _ c (by rw[hq];exact Za));rw[hu]at this;rw[←hq];exact this
 ·have hr:Lib.itoa n=39::r:=hr
  rw[e]at hr;have:=gq n.toNat 39 (by rw[hr];exact Za);exact absurd this (by decide)
theorem oU:∀(f:Bool) (x:Bs),eO f x=true→∀c,c∈x→c.toNat<128∧gO (c.toNat:Nat)=true
 |_,[],_,c,hc=>by cases hc
 |f,d::l,h,c,hc=>by
  rw[eO]at h;obtain⟨h1,h2⟩:=(Zh _ _).mp h;rcases List.mem_cons.1 hc with rfl|hc
  ·unfold gO
   rw[gG,gj];rcases(Bool.or_eq_true _ _).mp h1 with h3|h3
   ·exact⟨fX h3,by rw[h3];rfl⟩
   ·have h4:=((Zh _ _).mp h3).2
    exact⟨jV h4,by rw[h4];simp⟩
  ·exact oU false l h2 c hc
theorem m8 {s:Bs}(h:aY s=true):k9 ⟨1,s,0⟩:=by
 have h':=h;unfold aY at h';simp only[Zh]at h';obtain⟨⟨⟨h1,h2⟩,h3⟩,h4⟩:=h';refine⟨?_,fun e=>absurd (show(1:Int)=3 from e) (by decide),dz⟩
 cases s with
 |nil=>exact absurd h1 (by decide)
 |cons c t=>
  have hl:bi c=true:=by
   rw[eO]at h4;have:=((Zh _ _).mp h4).1;simpa using this
  exact .name (c::t) h (by simpa using h3) c t rfl hl (oU true _ h4)
theorem eW {x:Bs}(h:g9 x=true):k9 ⟨4,x,0⟩:=⟨u6 h,fun e=>absurd (show(4:Int)=3 from e) (by decide),dz⟩
theorem u9 {o:Int}(h:0<aP o∨o=17∨o=18∨o=19):g9 (aU o)=true:=by
 rcases h with h|rfl|rfl|rfl
 ·obtain⟨i,rfl⟩:=lC h
  exact(by decide:∀i:Fin 16,g9 (aU ((i.val:Int)+1))=true) i
 ·decide
 ·decide
 ·decide
inductive N64:Ex→Prop
 |mk (k o n:Int) (nm:Bs) (args:List Ex) (h:I64 n) (ha:∀x,x∈args→N64 x):N64 (.mk k o n nm args)
theorem aq.app {a b:List Pc}(h1:aq a)(h2:aq b):aq (a++b):=fun p hp=>by
 rcases List.mem_append.1 hp with h|h
 ·exact h1 p h
 ·exact h2 p h
theorem aq.cons {p:Pc}{l:List Pc}(h1:match p with| .t x=>k9 x| .g b=> ∀c,c∈b→dT c=true)(h2:aq l):aq (p::l):=fun q hq=>by
 rcases List.mem_cons.1 hq with rfl|h
 ·exact h1
 ·exact h2 q h
theorem aq.nil:aq []:=fun p hp=>by cases hp
theorem qK {e:Ex}{lv:Int}(h:aq (bg e)):aq (cG e lv):=by
 unfold cG eS;split
 ·exact aq.app (aq.app (aq.cons (eW (by decide)) aq.nil) h) (aq.cons (eW (by decide)) aq.nil)
 ·exact h
theorem gH {e:Ex}(h:WEx e)(hn:N64 e):aq (bg e):=by
 induction h with
 |num n h=>cases hn with|mk _ _ _ _ _ h1 ha=>rw[lp];exact aq.cons (yL h h1) aq.nil
 |var s h=>rw[lR];exact aq.cons (m8 h) aq.nil
 |one o x ho hx ih=>cases hn with|mk _ _ _ _ _ h1 ha=>rw[mA];exact aq.cons (eW (u9 (.inr ho))) (qK (ih (ha x Za)))
 |two o x y ho hx hy ihx ihy=>
  cases hn with
  |mk _ _ _ _ _ h1 ha=>
   rw[mC];refine aq.app (qK (ihx (ha x Za))) (aq.cons (by show ∀c,c∈[32]→_;decide) (aq.cons (eW (u9 (.inl ho))) (aq.cons (by show ∀c,c∈[32]→_;decide) (qK (ihy (ha y (by simp)))))))
 |call s l h hl hx ih=>
  cases hn with
  |mk _ _ _ _ _ h1 ha=>
   rw[iL];refine aq.cons (m8 h) (aq.cons (eW (by decide)) (aq.app ?_ (aq.cons (eW (by decide)) aq.nil)));have hm:∀(l:List Ex),(∀x,x∈l→aq (bg x))→aq (l.flatMap (fun y=>[sg [44],.g [32]]++bg y)):=by
    intro l hl p hp;obtain⟨y,hy,hp⟩:=List.mem_flatMap.1 hp;exact aq.app (aq.cons (eW (by decide)) (aq.cons (by show ∀c,c∈[32]→_;decide) aq.nil)) (hl y hy) p hp
   cases l with
   |nil=>exact aq.nil
   |cons x l=>
    rw[jN];exact aq.app (ih x Za (ha x Za)) (hm l (fun y hy=>ih y (Zd _ hy) (ha y (Zd _ hy))))
 |idx s x h hx ih=>
  cases hn with
  |mk _ _ _ _ _ h1 ha=>rw[lY];exact aq.cons (m8 h) (aq.cons (eW (by decide)) (aq.app (ih (ha x Za)) (aq.cons (eW (by decide)) aq.nil)))
 |read=>rw[ly];exact aq.cons ⟨qh (by decide) (by decide),fun e=>absurd (show(2:Int)=3 from e) (by decide),dz⟩ (aq.cons (eW (by decide)) (aq.cons (eW (by decide)) aq.nil))
theorem sT {e:Ex}(h:WEx e)(hn:N64 e):∀k,aq (kY e k)
 |0=>gH h hn
 |k+1=>aq.cons (eW (by decide)) (aq.app (sT h hn k) (aq.cons (eW (by decide)) aq.nil))
theorem aJ.n64 {D:Nat→Prop}{w:World}{l:List Ex}{v:Value}(h:aJ D w l v):∀x,x∈l→N64 x:=by
 induction h with
 |mk l a cap b off sv hcap hfit ha h0 h1 h2 h3 h4 hs hn ih=>
  intro x hx;obtain⟨i,hi,rfl⟩:=List.getElem_of_mem hx;have e:bI l i=l[i]:=by simp [bI,List.getElem?_eq_getElem hi]
  have h1:=ih i hi;have h2:=hn i hi;rw[e]at h1 h2;generalize l[i]=y at h1 h2;obtain⟨k,o,n,nm,args⟩:=y;exact .mk k o n nm args h2 h1
theorem tok_ne {x:T3}(h:k9 x):x.text≠[]:=h.1.ne
theorem nA:∀l:List Pc,aq l→(df l).length≤(ai l).length
 |[],h=>Nat.le_refl _
 | .g b::l,h=>by
  have:=nA l (fun p hp=>h p (Zd _ hp));show(df l).length≤(b++ai l).length
  rw[List.length_append];omega
 | .t x::l,h=>by
  have:=nA l (fun p hp=>h p (Zd _ hp));have h1:x.text≠[]:=tok_ne (h (.t x) Za);have h2:0<x.text.length:=List.length_pos_iff.2 h1;show(df l).length+1≤(x.text++ai l).length
  rw[List.length_append];omega
theorem zb(l:List Pc)(h0:bz l=[])(hp:aq l)(hs:dY iz l [])(hlen:(ai l).length≤20000)(Q:Ex ×Int ×Int→Prop)
  (hz:∀(T:List Tk) (u:Tk),T.map t3=gh l→u.kind=5→u.text=[]→∃z,Ev (fun f=>ar f 1 (T++[u])) z∧Q (lD (oB z))) (w:World) (hl:fT w):
  Calls Tryz.prog 13 #[.string (aB (ai l))] w fun e w'=> ∃r,Q r∧WhE w r e w':=by
 obtain⟨i1,i2⟩:=po [] l hp hs;have ht:=jS l;rw[h0,Zc]at ht;obtain⟨z,⟨f0,hf⟩,hq⟩:=hz (jv (1+bU (aL [] [])) (df l)) ⟨5,[],0,sD (1+bU (aL [] [])) (df l)⟩ (mx l _) rfl rfl;have hil:=nA l hp;have hx:=sE [] [] jc (df l) i1 i2 (by show([]++bm (df l)).length≤20000;rw[Zc,ht];exact hlen) (by omega) (f0+4*((df l).length+1)+4) (by omega) w hl;have e0:aL [] []++bm (df l)=ai l:=by rw[←ht];rfl
 rw[e0]at hx;refine hx.mono ?_;intro e w' hp;have e1:ar (f0+4*((df l).length+1)+4) 1 (cj (1+bU (aL [] [])) (df l))=z:=hf _ (by omega);rw[e1]at hp;exact⟨_,hq,hp⟩
theorem par_gap {e:Ex}(h:WEx e):∀(k:Nat) (r:List Pc),bz (kY e k++r)=[]
 |k+1,r=>rfl
 |0,r=>by
  have wrap:∀(e:Ex) (lv:Int) (r:List Pc),(∀r,bz (bg e++r)=[])→bz (cG e lv++r)=[]:=by
   intro e lv r h;unfold cG eS;split
   ·rfl
   ·exact h r
  have all:∀r,bz (bg e++r)=[]:=by
   induction h with
   |num n h=>intro r;rw[lp];rfl
   |var s h=>intro r;rw[lR];rfl
   |one o x ho hx ih=>intro r;rw[mA];rfl
   |two o x y ho hx hy ihx ihy=>intro r;rw[mC,Zb];exact wrap _ _ _ ihx
   |call s l h hl hx ih=>intro r;rw[iL];rfl
   |idx s x h hx ih=>intro r;rw[lY];rfl
   |read=>intro r;rw[ly];rfl
  exact all r
def tW(t:Bs):Nat→Bs
 |0=>t
 |k+1=>[40]++tW t k++[41]
theorem ot(e:Ex):∀k,ai (kY e k)=tW (aK e) k
 |0=>ld e
 |k+1=>by
  show [40]++ai (kY e k++[sg [41]])=[40]++tW (aK e) k++[41]
  rw[aS,ot e k,←Zb];rfl
theorem sX {u:Tk}{r:List Tk}(h:u.text=[]):iu (u::r)∧cJ 1 (u::r)=0:=⟨f8 (.inr (.inr (.inr (.inr h)))),g6 (.inr (.inr (.inr (.inr h))))⟩
theorem zQ {e:Ex}(hr:cR e=true)(h:WEx e)(hn:N64 e)(k:Nat)(hlen:(tW (aK e) k).length≤20000)(w:World)(hl:fT w):
  Calls Tryz.prog 13 #[.string (aB (tW (aK e) k))] w (WhE w (e,0,0)):=by
 rw[←ot]at hlen ⊢;refine(zb (kY e k) (by have:=par_gap h k [];rwa[Ze]at this) (sT h hn k) (uf sepR digL h k [] (.inl rfl)) hlen (fun r=>r=(e,0,0)) ?_ w hl).mono ?_
 ·intro T u hT hu hx
  refine⟨.ok (e,[u]),pg h k T [u] hT (sX hx).1 (sX hx).2,?_⟩;have h1:oB (.ok (e,[u]))=(e,0,0):=by show(if u.kind=5 then(e,(0:Int),(0:Int))else(exZ,40,u.line))=_;rw[if_pos hu]
  rw[h1];show(if(0:Int)=0∧cR e=false then(exZ,(41:Int),(1:Int))else(e,0,0))=_;rw[if_neg (by rintro⟨_,h2⟩;rw[hr]at h2;cases h2)]
 ·rintro r w' ⟨R,rfl,hp⟩;exact hp
theorem sK {B:Nat}{a w:World}(h:Below B a w)(n:Nat):Below B a (w.drewN n):=⟨h.os,h.tape,h.output,h.size,h.block⟩
theorem pn_good {X:Ex}(hr:cR X=true)(h:WEx X)(hn:N64 X)(k:Nat)(hlen:(tW (aK X) k).length≤20000)(w:World)(hl:fT w):
  Calls Tryz.prog 13 #[.string (aB (tW (aK X) k))] w fun e w'=>Below w.heap.size w w'∧∃sa sc,e= .returned (.tuple #[.agg #[.int .i64 X.kind,.int .i64 X.op,.int .i64 X.n,.string (aB X.name),.slice sa X.args.length sc],.int .i64 0,.int .i64 0])∧aJ (w.heap.size≤ ·) w' X.args (.slice sa X.args.length sc):=by
 refine(zQ hr h hn k hlen w hl).mono ?_;rintro e w' ⟨hb,v,rfl,s,rfl,hx,_⟩;obtain⟨sa,sc,rfl⟩:=hx.shape;exact⟨hb,sa,sc,rfl,hx⟩
def cy(t:Nat)(l:List Pc):List Pc:=[.g (gC t)]++l++[.g [10]]
def oi(l:List Ex)(i:Nat):List Pc:=bg (bI l i)
def bX(t:Nat)(k:Int)(nm:Bs)(args:List Ex)(noEls:Bool)(T E:List Pc):List Pc:=
 if k=1 then cy t ([nmp nm,.g [32],sg [61],.g [32]]++oi args 0++[sg [59]])
 else if k=2 then cy t ([nmp nm,sg [91]]++oi args 0++[sg [93],.g [32],sg [61],.g [32]]++oi args 1++[sg [59]])
 else if k=3 then cy t ([wd [105,102],.g [32],sg [40]]++oi args 0++[sg [41],.g [32],sg [123]])++(T++((if noEls then []else cy t [sg [125],.g [32],wd [101,108,115,101],.g [32],sg [123]]++E)++cy t [sg [125]]))
 else if k=4 then cy t ([wd [119,104,105,108,101],.g [32],sg [40]]++oi args 0++[sg [41],.g [32],sg [123]])++(T++cy t [sg [125]])
 else if k=5 then cy t [wd [98,114,101,97,107],sg [59]]
 else if k=6 then cy t [wd [99,111,110,116,105,110,117,101],sg [59]]
 else if k=7 then cy t ([wd [114,101,116,117,114,110],.g [32]]++oi args 0++[sg [59]])
 else if k=8 then cy t ([wd [112,114,105,110,116],sg [40]]++oi args 0++[sg [41],sg [59]])
 else if k=9 then cy t ([wd [116,114,97,112],sg [40]]++oi args 0++[sg [41],sg [59]])
 else if k=10 then cy t (oi args 0++[sg [59]])else []
mutual
def dy(t:Nat):St→List Pc
 | .mk k nm args thn els=>bX t k nm args els.isEmpty (dZ (t+1) thn) (dZ (t+1) els)
def dZ(t:Nat):List St→List Pc
 |[]=>[]
 |x::l=>dy t x++dZ t l
end
theorem dq(t:Nat)(l:List Pc)(m:List Bs)(h:ai l=m.flatten):ai (cy t l)=ln t m:=by
 unfold cy ln;rw[aS,aS,h];show(gC t++[])++m.flatten++([10]++[])=_
 rw[Ze,Ze]
theorem gS(l:List Ex)(i:Nat):ai (oi l i)=aK (bI l i):=ld _
theorem qd(t:Nat)(k:Int)(nm:Bs)(args:List Ex)(ne:Bool)(T E:List Pc):ai (bX t k nm args ne T E)=cI t k nm args ne (ai T) (ai E):=by
 unfold bX cI
 by_cases h1:k=1
 ·rw[if_pos h1,if_pos h1]
  refine dq _ _ _ ?_;simp only[aS,gS];simp [ai,Pc.text]
 rw[if_neg h1,if_neg h1]
 by_cases h2:k=2
 ·rw[if_pos h2,if_pos h2]
  refine dq _ _ _ ?_;simp only[aS,gS];simp [ai,Pc.text]
 rw[if_neg h2,if_neg h2]
 by_cases h3:k=3
 ·rw[if_pos h3,if_pos h3]
  rw[aS,aS,aS];refine congr (congrArg _ (dq _ _ _ ?_)) (congrArg _ (congr (congrArg _ ?_) (dq _ _ _ ?_)))
  ·simp only[aS,gS];simp [ai,Pc.text]
  ·cases ne with
   |true=>rfl
   |false=>
    show ai (cy t _++E)=ln t _++ai E
    rw[aS];refine congrArg (· ++_) (dq _ _ _ ?_);simp [ai,Pc.text]
  ·simp [ai,Pc.text]
 rw[if_neg h3,if_neg h3]
 by_cases h4:k=4
 ·rw[if_pos h4,if_pos h4]
  rw[aS,aS];refine congr (congrArg _ (dq _ _ _ ?_)) (congrArg _ (dq _ _ _ ?_))
  ·simp only[aS,gS];simp [ai,Pc.text]
  ·simp [ai,Pc.text]
 rw[if_neg h4,if_neg h4]
 by_cases h5:k=5
 ·rw[if_pos h5,if_pos h5]
  refine dq _ _ _ ?_;simp [ai,Pc.text]
 rw[if_neg h5,if_neg h5]
 by_cases h6:k=6
 ·rw[if_pos h6,if_pos h6]
  refine dq _ _ _ ?_;simp [ai,Pc.text]
 rw[if_neg h6,if_neg h6]
 by_cases h7:k=7
 ·rw[if_pos h7,if_pos h7]
  refine dq _ _ _ ?_;simp only[aS,gS];simp [ai,Pc.text]
 rw[if_neg h7,if_neg h7]
 by_cases h8:k=8
 ·rw[if_pos h8,if_pos h8]
  refine dq _ _ _ ?_;simp only[aS,gS];simp [ai,Pc.text]
 rw[if_neg h8,if_neg h8]
 by_cases h9:k=9
 ·rw[if_pos h9,if_pos h9]
  refine dq _ _ _ ?_;simp only[aS,gS];simp [ai,Pc.text]
 rw[if_neg h9,if_neg h9]
 by_cases h10:k=10
 ·rw[if_pos h10,if_pos h10]
  refine dq _ _ _ ?_;simp only[aS,gS];simp [ai,Pc.text]
 rw[if_neg h10,if_neg h10];rfl
mutual
theorem vT(t:Nat):∀x:St,ai (dy t x)=bj t x
 | .mk k nm args thn els=>by rw[dy,bj,qd,jB (t+1) thn,jB (t+1) els]
theorem jB(t:Nat):∀l:List St,ai (dZ t l)=bN t l
 |[]=>rfl
 |x::l=>by rw[dZ,bN,aS,vT t x,jB t l]
end
theorem Ev.map {α β:Type}{g:Nat→PR α}{h:Nat→PR β}{y:PR α}{z:PR β}(hg:Ev g y)(k:∀f,g f=y→h f=z):Ev h z:=by
 obtain⟨a,ha⟩:=hg;exact⟨a,fun f hf=>k f (ha f hf)⟩
inductive WSt:St→Prop
 |set (s:Bs) (x:Ex) (h:aY s=true) (hx:WEx x):WSt (.mk 1 s [x] [] [])
 |store (s:Bs) (x y:Ex) (h:aY s=true) (hx:WEx x) (hy:WEx y):WSt (.mk 2 s [x,y] [] [])
 |cond (x:Ex) (a b:List St) (hx:WEx x) (ha:∀y,y∈a→WSt y) (hb:∀y,y∈b→WSt y):WSt (.mk 3 [] [x] a b)
 |loop (x:Ex) (a:List St) (hx:WEx x) (ha:∀y,y∈a→WSt y):WSt (.mk 4 [] [x] a [])
 |brk:WSt (.mk 5 [] [] [] [])
 |cont:WSt (.mk 6 [] [] [] [])
 |ret (x:Ex) (hx:WEx x):WSt (.mk 7 [] [x] [] [])
 |print (x:Ex) (hx:WEx x):WSt (.mk 8 [] [x] [] [])
 |trap (x:Ex) (hx:WEx x):WSt (.mk 9 [] [x] [] [])
 |call (s:Bs) (l:List Ex) (hx:WEx (.mk 5 0 0 s l)):WSt (.mk 10 [] [.mk 5 0 0 s l] [] [])
theorem tG:∀(m:Nat) (x:St),dD m x=true→WSt x
 |0,x,h=>by simp [dD]at h
 |m+1,.mk k nm args thn els,h=>by
  unfold dD at h;simp only[Zh,List.all_eq_true,Bool.not_eq_true']at h;obtain⟨⟨⟨⟨h1,h2⟩,ha⟩,ht⟩,he⟩:=h;replace ha:∀x,x∈args→WEx x:=fun x hx=>tk x (by have:=ha x hx;unfold cR at this;simp at this;exact this.2)
  replace ht:∀x,x∈thn→WSt x:=fun x hx=>tG m x (ht x hx)
  replace he:∀x,x∈els→WSt x:=fun x hx=>tG m x (he x hx)
  unfold gY at h1;unfold nS at h2;simp only[St.kind,St.name,St.args,St.thn,St.els,Bool.or_eq_false_iff,Bool.and_eq_false_iff,Bool.not_eq_false']at h1 h2;obtain⟨⟨⟨⟨q1,q2⟩,q3⟩,q4⟩,q5⟩:=h1;obtain⟨⟨p1,p2⟩,p3⟩:=h2;have one:∀n:Int,cq k=1→∃x,args=[x]:=by
   intro _ e;rw[e]at q3;simp at q3;exact List.length_eq_one_iff.1 (by omega)
  have k10:1≤k∧k≤10:=by unfold fOk at q1;exact of_decide_eq_true q1
  have kk:k=1∨k=2∨k=3∨k=4∨k=5∨k=6∨k=7∨k=8∨k=9∨k=10:=by omega
  rcases kk with rfl|rfl|rfl|rfl|rfl|rfl|rfl|rfl|rfl|rfl
  all_goals simp [dN,ft,fw]at p1 p2 q4 q5
  ·obtain⟨x,rfl⟩:=one 0 rfl
   subst q4 q5;exact .set nm x (by simpa using p1) (ha x (by simp))
  ·obtain⟨x,y,rfl⟩:∃x y,args=[x,y]:=by
    have:args.length=2:=by simp [cq]at q3;omega
    match args,this with
    |[x,y],_=>exact⟨x,y,rfl⟩
   subst q4 q5;exact .store nm x y (by simpa using p1) (ha x (by simp)) (ha y (by simp))
  ·obtain⟨x,rfl⟩:=one 0 rfl
   subst p2;exact .cond x thn els (ha x (by simp)) ht he
  ·obtain⟨x,rfl⟩:=one 0 rfl
   subst p2 q5;exact .loop x thn (ha x (by simp)) ht
  ·obtain rfl:args=[]:=by simp [cq]at q3;exact q3
   subst p2 q4 q5;exact .brk
  ·obtain rfl:args=[]:=by simp [cq]at q3;exact q3
   subst p2 q4 q5;exact .cont
  ·obtain⟨x,rfl⟩:=one 0 rfl
   subst p2 q4 q5;exact .ret x (ha x (by simp))
  ·obtain⟨x,rfl⟩:=one 0 rfl
   subst p2 q4 q5;exact .print x (ha x (by simp))
  ·obtain⟨x,rfl⟩:=one 0 rfl
   subst p2 q4 q5;exact .trap x (ha x (by simp))
  ·obtain⟨x,rfl⟩:=one 0 rfl
   subst p2 q4 q5;have hx:=ha x (by simp);have h5:x.kind=5:=by simpa using p3
   cases hx with
   |call s l h hl hy=>exact .call s l (.call s l h hl hy)
   |_=>exact absurd h5 (by simp [Ex.kind])
def yJ(l:List Tk):Prop:=bF [101,108,115,101] l=none
def xT(x:St):Prop:= ∀t ts rest,For ts (dy t x)→yJ rest→Ev (fun f=>cW f (ts++rest)) (.ok (x,rest))
theorem kM {t:Tk}{s u:Bs}(h:isP s t=true)(hu:(s==u)=false):isP u t=false:=cO (by rw[cC h];simpa using hu)
theorem fF {t:Nat}{l:List Pc}{ts:List Tk}(h:For ts (cy t l)):For ts l:=by
 obtain⟨t1,t2,rfl,h1,h2⟩:=For.app (a:=[.g (gC t)]++l) (b:=[.g [10]]) h;have e2:t2=[]:=For.nil h2;rw[e2,Ze];exact h1
theorem nU {e:Ex}(h:WEx e){ts:List Tk}{u:Tk}{rest:List Tk}(hf:For ts (bg e))(hu:u.text=[41]∨u.text=[93]∨u.text=[44]∨u.text=[59]∨u.text=[]):Ev (fun f=>ar f 1 (ts++u::rest)) (.ok (e,u::rest)):=
 gk (oQ h).2 hf (f8 hu) (g6 hu) (kD h)
theorem jH {f:Nat}{l r:List Tk}{x:St}{u:Tk}(h1:bF [105,102] l=none)(h2:bF [119,104,105,108,101] l=none)(h:aW f l= .ok (x,u::r))(hu:isP [59] u=true):cW (f+1) l= .ok (x,r):=by
 rw[cW,h1];dsimp only;rw[h2];dsimp only;rw[h];dsimp only;rw[bR hu]
theorem iP {e:Ex}(h:WEx e){a b:Tk}{ts rest:List Tk}(ha:isP [40] a=true)(hf:For ts (bg e))(hb:isP [41] b=true):Ev (fun f=>bq f (a::(ts++b::rest))) (.ok (e,rest)):=
 Ev.map (nU h (rest:=rest) hf (.inl (cC hb))) (fun f e=>by
  (try dsimp only at e ⊢);unfold bq;rw[bR ha];dsimp only;rw[e];dsimp only;rw[bR hb])
theorem wz {a:List St}{t:Tk}{r:List Tk}(h:isP [125] t=true):Ev (fun f=>cV f a (t::r)) (.ok (a,r)):=
 Ev.const (fun f=>by(try dsimp only);rw[cV,aQ h])
theorem tR {a:List St}{x:St}{l r:List Tk}{z:PR (List St)}(h:bF [125] l=none)(h1:Ev (fun f=>cW f l) (.ok (x,r)))(h2:Ev (fun f=>cV f (a++[x]) r) z):Ev (fun f=>cV f a l) z:=
 Ev.both h1 h2 (fun f e1 e2=>by(try dsimp only at e1 e2 ⊢);rw[cV,h];dsimp only;rw[e1];exact e2)
theorem kB {x:St}(h:WSt x)(t:Nat):∃y l,gh (dy t x)=y::l∧y.text≠[125]∧y.text≠[101,108,115,101]∧y.text≠[105,110,116]:=by
 have name:∀(s:Bs),aY s=true→s≠[125]∧s≠[101,108,115,101]∧s≠[105,110,116]:=by
  intro s h;exact⟨by rintro rfl;exact absurd h (by decide),by rintro rfl;exact absurd h (by decide),by rintro rfl;exact absurd h (by decide)⟩
 have tl:∀l:List Pc,gh (cy t l)=gh l:=by
  intro l;show gh (l++[.g [10]])=_
  rw[fY];simp [gh]
 cases h with
 |set s x h hx=>rw[dy];unfold bX;rw[if_pos rfl,tl];exact⟨_,_,rfl,name s h⟩
 |store s x y h hx hy=>rw[dy];unfold bX;rw[if_neg (by decide),if_pos rfl,tl];exact⟨_,_,rfl,name s h⟩
 |cond x a b hx ha hb=>rw[dy];unfold bX;rw[if_neg (by decide),if_neg (by decide),if_pos rfl,fY,tl];exact⟨_,_,rfl,by decide⟩
 |loop x a hx ha=>rw[dy];unfold bX;rw[if_neg (by decide),if_neg (by decide),if_neg (by decide),if_pos rfl,fY,tl];exact⟨_,_,rfl,by decide⟩
 |brk=>rw[dy];unfold bX;rw[if_neg (by decide),if_neg (by decide),if_neg (by decide),if_neg (by decide),if_pos rfl,tl];exact⟨_,_,rfl,by decide⟩
 |cont=>rw[dy];unfold bX;rw[if_neg (by decide),if_neg (by decide),if_neg (by decide),if_neg (by decide),if_neg (by decide),if_pos rfl,tl];exact⟨_,_,rfl,by decide⟩
 |ret x hx=>rw[dy];unfold bX;rw[if_neg (by decide),if_neg (by decide),if_neg (by decide),if_neg (by decide),if_neg (by decide),if_neg (by decide),if_pos rfl,tl];exact⟨_,_,rfl,by decide⟩
 |print x hx=>rw[dy];unfold bX;rw[if_neg (by decide),if_neg (by decide),if_neg (by decide),if_neg (by decide),if_neg (by decide),if_neg (by decide),if_neg (by decide),if_pos rfl,tl];exact⟨_,_,rfl,by decide⟩
 |trap x hx=>rw[dy];unfold bX;rw[if_neg (by decide),if_neg (by decide),if_neg (by decide),if_neg (by decide),if_neg (by decide),if_neg (by decide),if_neg (by decide),if_neg (by decide),if_pos rfl,tl];exact⟨_,_,rfl,by decide⟩
 |call s l hx=>
  rw[dy];unfold bX;rw[if_neg (by decide),if_neg (by decide),if_neg (by decide),if_neg (by decide),if_neg (by decide),if_neg (by decide),if_neg (by decide),if_neg (by decide),if_neg (by decide),if_pos rfl,tl];show ∃y l',gh (bg (.mk 5 0 0 s l)++[sg [59]])=y::l'∧_
  rw[iL]
  cases hx with
  |call _ _ h=>exact⟨_,_,rfl,name s h⟩
theorem ke {l:List Pc}{ts:List Tk}{y:T3}{l':List T3}(hf:For ts l)(h:gh l=y::l'):∃t r,ts=t::r∧t.text=y.text:=by
 unfold For at hf;rw[h]at hf;obtain⟨t,r,e,h1,_⟩:=List.map_eq_cons_iff.1 hf;exact⟨t,r,e,by rw[←h1];rfl⟩
theorem gM {t:Nat}:∀(l:List St),(∀x,x∈l→WSt x∧xT x)→∀(a:List St) (ts:List Tk) (u:Tk) (rest:List Tk),For ts (dZ t l)→isP [125] u=true→Ev (fun f=>cV f a (ts++u::rest)) (.ok (a++l,rest))
 |[],_,a,ts,u,rest,hf,hu=>by
  rw[dZ]at hf;rw[hf.nil,Ze];exact wz hu
 |x::l,hl,a,ts,u,rest,hf,hu=>by
  rw[dZ]at hf;obtain⟨t1,t2,rfl,h1,h2⟩:=hf.app;have hx:=hl x Za;have ih:=gM l (fun y hy=>hl y (Zd _ hy)) (a++[x]) t2 u rest h2 hu;have e:a++x::l=a++[x]++l:=by simp
  rw[e,Zb];have hne:yJ (t2++u::rest):=by
   cases l with
   |nil=>
    rw[dZ]at h2;rw[h2.nil];exact aH (kM hu (by decide))
   |cons y l=>
    rw[dZ]at h2;obtain⟨s1,s2,rfl,g1,g2⟩:=h2.app;obtain⟨w,l',e1,n1,n2,n3⟩:=kB (hl y (by simp)).1 t;obtain⟨c,r,rfl,e2⟩:=ke g1 e1;exact aH (cO (by rw[e2];exact n2))
  refine tR ?_ (hx.2 t t1 (t2++u::rest) h1 hne) ih;obtain⟨w,l',e1,n1,n2,n3⟩:=kB hx.1 t;obtain⟨c,r,rfl,e2⟩:=ke h1 e1;exact aH (cO (by rw[e2];exact n1))
theorem args_ev {l:List Ex}(hl:∀y,y∈l→WEx y){ts:List Tk}{u:Tk}{rest:List Tk}(h1:For ts (ff (l.map bg)))(hu:isP [41] u=true):Ev (fun f=>eP f (ts++u::rest)) (.ok (l,rest)):=by
 cases l with
 |nil=>
  have:ts=[]:=h1.nil;subst this;exact sP hu
 |cons x l=>
  rw[jN]at h1;refine pM ?_ (kK l [] x ts rest u (fun y hy=>⟨(oQ (hl y hy)).2,hl y hy⟩) h1 hu);obtain⟨w,l',e',n1,n2⟩:=mK (hl x Za) 0;have e0:cG x 0=bg x:=by
   unfold cG eS;rw[if_neg];rintro⟨q1,q2⟩;have:=kD (hl x Za);unfold qi at this;rw[if_pos q1]at this;omega
  rw[e0]at e';obtain⟨a,b,rfl,e2⟩:=ke h1 (by rw[fY,e'];rfl);rw[Zf];exact aH (cO (by rw[e2];exact n1))
theorem gP {t:Tk}{r:List Tk}(h:t.kind=1):dK (t::r)= .ok (t.text,r):=by
 have e:gx 1 (t::r)= .ok (t,r):=if_pos h;unfold dK;rw[e]
theorem stp1(t:Nat)(s:Bs)(x:Ex):dy t (.mk 1 s [x] [] [])=cy t (nmp s:: .g [32]::sg [61]:: .g [32]::(bg x++[sg [59]])):=by
 rw[dy];unfold bX;rw[if_pos rfl];simp only[Zb,Zf,Zc];rfl
theorem stp2(t:Nat)(s:Bs)(x y:Ex):dy t (.mk 2 s [x,y] [] [])=cy t (nmp s::sg [91]::(bg x++sg [93]:: .g [32]::sg [61]:: .g [32]::(bg y++[sg [59]]))):=by
 rw[dy];unfold bX;rw[if_neg (by decide),if_pos rfl];simp only[Zb,Zf,Zc];rfl
theorem stp3(t:Nat)(x:Ex)(a b:List St):dy t (.mk 3 [] [x] a b)=cy t (wd [105,102]:: .g [32]::sg [40]::(bg x++[sg [41],.g [32],sg [123]]))++(dZ (t+1) a++((if b.isEmpty then []else cy t [sg [125],.g [32],wd [101,108,115,101],.g [32],sg [123]]++dZ (t+1) b)++cy t [sg [125]])):=by
 rw[dy];unfold bX;rw[if_neg (by decide),if_neg (by decide),if_pos rfl];simp only[Zb,Zf,Zc];rfl
theorem stp4(t:Nat)(x:Ex)(a:List St):dy t (.mk 4 [] [x] a [])=cy t (wd [119,104,105,108,101]:: .g [32]::sg [40]::(bg x++[sg [41],.g [32],sg [123]]))++(dZ (t+1) a++cy t [sg [125]]):=by
 rw[dy];unfold bX;rw[if_neg (by decide),if_neg (by decide),if_neg (by decide),if_pos rfl];simp only[Zb,Zf,Zc];rfl
theorem stp5(t:Nat):dy t (.mk 5 [] [] [] [])=cy t [wd [98,114,101,97,107],sg [59]]:=by
 rw[dy];unfold bX;rw[if_neg (by decide),if_neg (by decide),if_neg (by decide),if_neg (by decide),if_pos rfl]
theorem stp6(t:Nat):dy t (.mk 6 [] [] [] [])=cy t [wd [99,111,110,116,105,110,117,101],sg [59]]:=by
 rw[dy];unfold bX;rw[if_neg (by decide),if_neg (by decide),if_neg (by decide),if_neg (by decide),if_neg (by decide),if_pos rfl]
theorem stp7(t:Nat)(x:Ex):dy t (.mk 7 [] [x] [] [])=cy t (wd [114,101,116,117,114,110]:: .g [32]::(bg x++[sg [59]])):=by
 rw[dy];unfold bX;rw[if_neg (by decide),if_neg (by decide),if_neg (by decide),if_neg (by decide),if_neg (by decide),if_neg (by decide),if_pos rfl];simp only[Zb,Zf,Zc];rfl
theorem stp8(t:Nat)(x:Ex):dy t (.mk 8 [] [x] [] [])=cy t (wd [112,114,105,110,116]::sg [40]::(bg x++[sg [41],sg [59]])):=by
 rw[dy];unfold bX;rw[if_neg (by decide),if_neg (by decide),if_neg (by decide),if_neg (by decide),if_neg (by decide),if_neg (by decide),if_neg (by decide),if_pos rfl];simp only[Zb,Zf,Zc];rfl
theorem stp9(t:Nat)(x:Ex):dy t (.mk 9 [] [x] [] [])=cy t (wd [116,114,97,112]::sg [40]::(bg x++[sg [41],sg [59]])):=by
 rw[dy];unfold bX;rw[if_neg (by decide),if_neg (by decide),if_neg (by decide),if_neg (by decide),if_neg (by decide),if_neg (by decide),if_neg (by decide),if_neg (by decide),if_pos rfl];simp only[Zb,Zf,Zc];rfl
theorem zX(t:Nat)(s:Bs)(l:List Ex):dy t (.mk 10 [] [.mk 5 0 0 s l] [] [])=cy t (nmp s::sg [40]::(ff (l.map bg)++[sg [41],sg [59]])):=by
 rw[dy];unfold bX;rw[if_neg (by decide),if_neg (by decide),if_neg (by decide),if_neg (by decide),if_neg (by decide),if_neg (by decide),if_neg (by decide),if_neg (by decide),if_neg (by decide),if_pos rfl];show cy t (bg (.mk 5 0 0 s l)++[sg [59]])=_
 rw[iL];simp only[Zb,Zf,Zc]
theorem jg {f:Nat}{a:Tk}{l r:List Tk}{x:St}{u:Tk}{s:Bs}(ha:isP s a=true)(h1:(s==[105,102])=false)(h2:(s==[119,104,105,108,101])=false)(h:aW f (a::l)= .ok (x,u::r))(hu:isP [59] u=true):cW (f+1) (a::l)= .ok (x,r):=
 jH (aH (kM ha h1)) (aH (kM ha h2)) h hu
theorem y5 {x:St}(h:WSt x):xT x:=by
 induction h with
 |set s x h hx=>
  intro t ts rest hf hne;rw[stp1]at hf;obtain⟨a,r,rfl,ha,hr⟩:=(fF hf).cons;obtain⟨e,r,rfl,he,hr⟩:=(For.gap hr).cons;obtain⟨t1,t2,rfl,h1,h2⟩:=(For.gap hr).app;obtain⟨u,q,rfl,hu,hq⟩:=h2.cons;have hu:=bu hu;have he:=bu he;obtain⟨k1,k2,k3⟩:=dO ha;rw[show a::e::(t1++u::q)++rest=a::e::(t1++u::rest)from by rw[hq.nil];simp];refine Ev.one (nU hx (rest:=rest) h1 (.inr (.inr (.inr (.inl (cC hu)))))) (fun f e1=> ?_);(try dsimp only at e1 ⊢);have nk:∀s,isP s a=false:=fun s=>iU (.inl k1)
  refine jH (aH (nk _)) (aH (nk _)) ?_ hu;unfold aW
  iterate 5 (rw[aH (nk _)];dsimp only)
  rw[gP k1];dsimp only;rw[aH (kM he (by decide))];dsimp only;rw[aH (kM he (by decide))];dsimp only;rw[bR he];dsimp only;rw[e1];dsimp only;rw[k2]
 |store s x y h hx hy=>
  intro t ts rest hf hne;rw[stp2]at hf;obtain⟨a,r,rfl,ha,hr⟩:=(fF hf).cons;obtain⟨o,r,rfl,ho,hr⟩:=hr.cons;obtain⟨t1,t2,rfl,h1,h2⟩:=hr.app;obtain⟨c,r,rfl,hc,hr⟩:=h2.cons;obtain⟨e,r,rfl,he,hr⟩:=(For.gap hr).cons;obtain⟨t3,t4,rfl,h3,h4⟩:=(For.gap hr).app;obtain⟨u,q,rfl,hu,hq⟩:=h4.cons;have hu:=bu hu;have he:=bu he;have ho:=bu ho;have hc:=bu hc;obtain⟨k1,k2,k3⟩:=dO ha;rw[show a::o::(t1++c::e::(t3++u::q))++rest=a::o::(t1++c::e::(t3++u::rest))from by rw[hq.nil];simp];refine Ev.both (nU hx (rest:=e::(t3++u::rest)) h1 (.inr (.inl (cC hc)))) (nU hy (rest:=rest) h3 (.inr (.inr (.inr (.inl (cC hu)))))) (fun f e1 e2=> ?_);(try dsimp only at e1 e2 ⊢);have nk:∀s,isP s a=false:=fun s=>iU (.inl k1)
  refine jH (aH (nk _)) (aH (nk _)) ?_ hu;unfold aW
  iterate 5 (rw[aH (nk _)];dsimp only)
  rw[gP k1];dsimp only;rw[aH (kM ho (by decide))];dsimp only;rw[aQ ho];dsimp only;rw[e1];dsimp only;rw[bR hc];dsimp only;rw[bR he];dsimp only;rw[e2];dsimp only;rw[k2]
 |cond x a b hx ha hb iha ihb=>
  intro t ts rest hf hne;rw[stp3]at hf;obtain⟨q1,q2,rfl,g1,g2⟩:=hf.app;obtain⟨i,r,rfl,hi,hr⟩:=(fF g1).cons;obtain⟨p,r,rfl,hp,hr⟩:=(For.gap hr).cons;obtain⟨tx,r,rfl,h1,hr⟩:=hr.app;obtain⟨c,r,rfl,hc,hr⟩:=hr.cons;obtain⟨o,r,rfl,ho,hr⟩:=(For.gap hr).cons;rw[hr.nil];obtain⟨ta,r,rfl,hta,hr⟩:=g2.app;obtain⟨te,r,rfl,hte,hr⟩:=hr.app;obtain⟨z,r,rfl,hz,hr⟩:=(fF hr).cons;rw[hr.nil];have hi:=hG hi;have hp:=bu hp;have hc:=bu hc;have ho:=bu ho;have hz:=bu hz;have ga:=fun u rest hu=>gM a (fun y hy=>⟨ha y hy,iha y hy⟩) [] ta u rest hta hu
  cases b with
  |nil=>
   rw[if_pos (show([]:List St).isEmpty=true from rfl)]at hte;rw[hte.nil];rw[show i::p::(tx++[c,o])++(ta++([]++[z]))++rest=i::(p::(tx++c::(o::(ta++z::rest))))from by simp];refine Ev.both (iP hx (rest:=o::(ta++z::rest)) hp h1 hc) (ga z rest hz) (fun f e1 e2=> ?_);(try dsimp only at e1 e2 ⊢);rw[cW,aQ hi];dsimp only;rw[e1];dsimp only;rw[bR ho];dsimp only;rw[e2];dsimp only;rw[show bF [101,108,115,101] rest=none from hne];rfl
  |cons y l=>
   rw[if_neg (by simp)]at hte;obtain⟨r1,tb,rfl,f1,f2⟩:=hte.app;obtain⟨z0,r,rfl,hz0,hr⟩:=(fF f1).cons;obtain⟨el,r,rfl,hel,hr⟩:=(For.gap hr).cons;obtain⟨o2,r,rfl,ho2,hr⟩:=(For.gap hr).cons;rw[hr.nil];have hz0:=bu hz0;have hel:=hG hel;have ho2:=bu ho2;have gb:=gM (y::l) (fun x hx=>⟨hb x hx,ihb x hx⟩) [] tb z rest f2 hz;rw[show i::p::(tx++[c,o])++(ta++([z0,el,o2]++tb++[z]))++rest=i::(p::(tx++c::(o::(ta++z0::(el::o2::(tb++z::rest))))))from by simp];obtain⟨n1,e1⟩:=iP hx (rest:=o::(ta++z0::(el::o2::(tb++z::rest)))) hp h1 hc;obtain⟨n2,e2⟩:=ga z0 (el::o2::(tb++z::rest)) hz0;obtain⟨n3,e3⟩:=gb;refine Ev.succ ⟨max n1 (max n2 n3),fun f hf=> ?_⟩;have e1:=e1 f (by omega);have e2:=e2 f (by omega);have e3:=e3 f (by omega);(try dsimp only at e1 e2 e3 ⊢);rw[cW,aQ hi];dsimp only;rw[e1];dsimp only;rw[bR ho];dsimp only;rw[e2];dsimp only;rw[aQ hel];dsimp only;rw[bR ho2];dsimp only;rw[e3];rfl
 |loop x a hx ha iha=>
  intro t ts rest hf hne;rw[stp4]at hf;obtain⟨q1,q2,rfl,g1,g2⟩:=hf.app;obtain⟨i,r,rfl,hi,hr⟩:=(fF g1).cons;obtain⟨p,r,rfl,hp,hr⟩:=(For.gap hr).cons;obtain⟨tx,r,rfl,h1,hr⟩:=hr.app;obtain⟨c,r,rfl,hc,hr⟩:=hr.cons;obtain⟨o,r,rfl,ho,hr⟩:=(For.gap hr).cons;rw[hr.nil];obtain⟨ta,r,rfl,hta,hr⟩:=g2.app;obtain⟨z,r,rfl,hz,hr⟩:=(fF hr).cons;rw[hr.nil];have hi:=hG hi;have hp:=bu hp;have hc:=bu hc;have ho:=bu ho;have hz:=bu hz;have ga:=gM a (fun y hy=>⟨ha y hy,iha y hy⟩) [] ta z rest hta hz;rw[show i::p::(tx++[c,o])++(ta++[z])++rest=i::(p::(tx++c::(o::(ta++z::rest))))from by simp];refine Ev.both (iP hx (rest:=o::(ta++z::rest)) hp h1 hc) ga (fun f e1 e2=> ?_);(try dsimp only at e1 e2 ⊢);rw[cW,aH (kM hi (by decide))];dsimp only;rw[aQ hi];dsimp only;rw[e1];dsimp only;rw[bR ho];dsimp only;rw[e2];rfl
 |brk=>
  intro t ts rest hf hne;rw[stp5]at hf;obtain⟨a,r,rfl,ha,hr⟩:=(fF hf).cons;obtain⟨u,q,rfl,hu,hq⟩:=hr.cons;rw[hq.nil];have hu:=bu hu;have ha:=hG ha;refine Ev.const (fun f=> ?_);(try dsimp only);refine jg ha (by decide) (by decide) ?_ hu;unfold aW;rw[aQ ha];rfl
 |cont=>
  intro t ts rest hf hne;rw[stp6]at hf;obtain⟨a,r,rfl,ha,hr⟩:=(fF hf).cons;obtain⟨u,q,rfl,hu,hq⟩:=hr.cons;rw[hq.nil];have hu:=bu hu;have ha:=hG ha;refine Ev.const (fun f=> ?_);(try dsimp only);refine jg ha (by decide) (by decide) ?_ hu;unfold aW;rw[aH (kM ha (by decide))];dsimp only;rw[aQ ha];rfl
 |ret x hx=>
  intro t ts rest hf hne;rw[stp7]at hf;obtain⟨a,r,rfl,ha,hr⟩:=(fF hf).cons;obtain⟨t1,t2,rfl,h1,h2⟩:=(For.gap hr).app;obtain⟨u,q,rfl,hu,hq⟩:=h2.cons;have hu:=bu hu;have ha:=hG ha;rw[show a::(t1++u::q)++rest=a::(t1++u::rest)from by rw[hq.nil];simp];refine Ev.one (nU hx (rest:=rest) h1 (.inr (.inr (.inr (.inl (cC hu)))))) (fun f e1=> ?_);(try dsimp only at e1 ⊢);refine jg ha (by decide) (by decide) ?_ hu;unfold aW
  iterate 2 (rw[aH (kM ha (by decide))];dsimp only)
  rw[aQ ha];dsimp only;rw[e1]
 |print x hx=>
  intro t ts rest hf hne;rw[stp8]at hf;obtain⟨a,r,rfl,ha,hr⟩:=(fF hf).cons;obtain⟨p,r,rfl,hp,hr⟩:=hr.cons;obtain⟨t1,t2,rfl,h1,h2⟩:=hr.app;obtain⟨c,r,rfl,hc,hr⟩:=h2.cons;obtain⟨u,q,rfl,hu,hq⟩:=hr.cons;have hu:=bu hu;have ha:=hG ha;have hp:=bu hp;have hc:=bu hc;rw[show a::p::(t1++c::u::q)++rest=a::(p::(t1++c::(u::rest)))from by rw[hq.nil];simp];refine Ev.one (iP hx (rest:=u::rest) hp h1 hc) (fun f e1=> ?_);(try dsimp only at e1 ⊢);refine jg ha (by decide) (by decide) ?_ hu;unfold aW
  iterate 3 (rw[aH (kM ha (by decide))];dsimp only)
  rw[aQ ha];dsimp only;rw[e1]
 |trap x hx=>
  intro t ts rest hf hne;rw[stp9]at hf;obtain⟨a,r,rfl,ha,hr⟩:=(fF hf).cons;obtain⟨p,r,rfl,hp,hr⟩:=hr.cons;obtain⟨t1,t2,rfl,h1,h2⟩:=hr.app;obtain⟨c,r,rfl,hc,hr⟩:=h2.cons;obtain⟨u,q,rfl,hu,hq⟩:=hr.cons;have hu:=bu hu;have ha:=hG ha;have hp:=bu hp;have hc:=bu hc;rw[show a::p::(t1++c::u::q)++rest=a::(p::(t1++c::(u::rest)))from by rw[hq.nil];simp];refine Ev.one (iP hx (rest:=u::rest) hp h1 hc) (fun f e1=> ?_);(try dsimp only at e1 ⊢);refine jg ha (by decide) (by decide) ?_ hu;unfold aW
  iterate 4 (rw[aH (kM ha (by decide))];dsimp only)
  rw[aQ ha];dsimp only;rw[e1]
 |call s l hx=>
  intro t ts rest hf hne;rw[zX]at hf;have hl:∀y,y∈l→WEx y:=by cases hx with|call _ _ _ _ h=>exact h
  obtain⟨a,r,rfl,ha,hr⟩:=(fF hf).cons;obtain⟨p,r,rfl,hp,hr⟩:=hr.cons;obtain⟨t1,t2,rfl,h1,h2⟩:=hr.app;obtain⟨c,r,rfl,hc,hr⟩:=h2.cons;obtain⟨u,q,rfl,hu,hq⟩:=hr.cons;have hu:=bu hu;have hp:=bu hp;have hc:=bu hc;obtain⟨k1,k2,k3⟩:=dO ha;rw[show a::p::(t1++c::u::q)++rest=a::p::(t1++c::(u::rest))from by rw[hq.nil];simp];refine Ev.one (args_ev hl (rest:=u::rest) h1 hc) (fun f e1=> ?_);(try dsimp only at e1 ⊢);have nk:∀s,isP s a=false:=fun s=>iU (.inl k1)
  refine jH (aH (nk _)) (aH (nk _)) ?_ hu;unfold aW
  iterate 5 (rw[aH (nk _)];dsimp only)
  rw[gP k1];dsimp only;rw[aQ hp];dsimp only;rw[e1];dsimp only;rw[k2]
def f6(p:Bs):Bs:=[105,110,116,32]++p
def dh(l:List Bs):Bs:=l.flatMap fun x=>ln 1 [[105,110,116,32],x,[59]]
def fO(f:Fu):Bs:=[105,110,116,32]++(f.name++[40])++(au (f.params.map f6)++([41,32,123,10]++(dh f.locals++(bN 1 f.body++ln 0 [[125]]))))
theorem qW(l:List Bs)(k:Nat)(h:k<l.length):dh (l.take (k+1))=dh (l.take k)++ln 1 [[105,110,116,32],l.getD k [],[59]]:=by
 unfold dh;rw[List.take_succ_eq_append_getElem h,List.flatMap_append];simp [List.getElem?_eq_getElem h]
theorem mt(l:List Bs)(k:Nat):(dh (l.take k)).length≤(dh l).length:=by
 have e:dh l=dh (l.take k)++dh (l.drop k):=by unfold dh;rw[←List.flatMap_append,List.take_append_drop]
 rw[e];simp
def jh(a:Ar):Bs:=ln 0 [[105,110,116,32],a.name,[91],Lib.itoa a.size,[93,59]]
def dJ(l:List Ar):Bs:=l.flatMap jh
def dX(l:List Fu):Bs:=l.flatMap fO
def dQ(p:Pr):Bs:=dJ p.arrays++dX p.funcs
def ex(x:Bs):List Pc:=[wd [105,110,116],.g [32],nmp x]
def kR(x:Bs):List Pc:=cy 1 [wd [105,110,116],.g [32],nmp x,sg [59]]
def nr(f:Fu):List Pc:=ff (f.params.map ex)++([sg [41],.g [32],sg [123],.g [10]]++(f.locals.flatMap kR++(dZ 1 f.body++cy 0 [sg [125]])))
def oP(f:Fu):List Pc:=wd [105,110,116]:: .g [32]::nmp f.name::sg [40]::nr f
def sh(a:Ar):List Pc:=cy 0 [wd [105,110,116],.g [32],nmp a.name,sg [91],nu a.size,sg [93],sg [59]]
def yE(p:Pr):List Pc:=p.arrays.flatMap sh++p.funcs.flatMap oP
theorem jm {α:Type}(f:α→List Pc)(g:α→Bs)(h:∀x,ai (f x)=g x):∀l:List α,ai (l.flatMap f)=l.flatMap g
 |[]=>rfl
 |x::l=>by rw[Zi,Zi,aS,h,jm f g h l]
theorem wG(f:Fu):ai (oP f)=fO f:=by
 unfold oP nr fO dh;rw[show wd [105,110,116]::Pc.g [32]::nmp f.name::sg [40]::(ff (f.params.map ex)++([sg [41],.g [32],sg [123],.g [10]]++(f.locals.flatMap kR++(dZ 1 f.body++cy 0 [sg [125]]))))=[wd [105,110,116],Pc.g [32],nmp f.name,sg [40]]++(ff (f.params.map ex)++([sg [41],.g [32],sg [123],.g [10]]++(f.locals.flatMap kR++(dZ 1 f.body++cy 0 [sg [125]]))))from rfl];rw[aS,aS,aS,aS,aS,ru,jB,List.map_map];rw[jm kR (fun x=>ln 1 [[105,110,116,32],x,[59]]) (fun x=>dq _ _ _ (by simp [ai,Pc.text]))];rw[dq 0 [sg [125]] [[125]] rfl];rw[show(ai∘ex)=f6 from funext fun x=>by simp [ex,ai,Pc.text,f6]];simp [ai,Pc.text]
theorem vM(a:Ar):ai (sh a)=jh a:=dq _ _ _ (by simp [ai,Pc.text])
theorem vm(p:Pr):ai (yE p)=dQ p:=by
 unfold yE dQ dJ dX;rw[aS,jm sh jh vM,jm oP fO wG]
def WFu(f:Fu):Prop:=aY f.name=true∧(∀x,x∈f.params→aY x=true)∧(∀x,x∈f.locals→aY x=true)∧∀x,x∈f.body→WSt x
theorem wfu_of {f:Fu}(h:du f=true):WFu f:=by
 unfold du at h;simp only[Zh,List.all_eq_true]at h;obtain⟨⟨⟨⟨h1,h2⟩,h3⟩,h4⟩,h5⟩:=h;exact⟨h1,h2,h3,fun x hx=>tG 40 x (h5 x hx)⟩
theorem oy:∀(l:List Bs) (a:List Bs) (x:Bs) (ts rest:List Tk) (t:Tk),For ts (ex x++l.flatMap (fun y=>[sg [44],.g [32]]++ex y))→isP [41] t=true→
  Ev (fun f=>gL f a (ts++t::rest)) (.ok (a++x::l,rest))
 |[],a,x,ts,rest,t,hf,ht=>by
  rw[List.flatMap_nil,Ze]at hf;obtain⟨i,r,rfl,hi,hr⟩:=For.cons (show For ts (wd [105,110,116]:: .g [32]::[nmp x])from hf);obtain⟨n,r,rfl,hn,hr⟩:=(For.gap hr).cons;obtain⟨k1,k2,k3⟩:=dO hn;rw[hr.nil];refine Ev.const (fun f=> ?_);(try dsimp only);show gL (f+1) a (i::n::t::rest)=_
  rw[gL,bR (hG hi)];dsimp only;rw[gP k1];dsimp only;rw[aH (kM ht (by decide))];dsimp only;rw[bR ht];dsimp only;rw[k2]
 |y::l,a,x,ts,rest,t,hf,ht=>by
  rw[Zi]at hf;obtain⟨i,r,rfl,hi,hr⟩:=For.cons (show For ts (wd [105,110,116]:: .g [32]::nmp x::sg [44]:: .g [32]::(ex y++l.flatMap (fun y=>[sg [44],.g [32]]++ex y)))from hf);obtain⟨n,r,rfl,hn,hr⟩:=(For.gap hr).cons;obtain⟨c,r,rfl,hc,hr⟩:=hr.cons;obtain⟨k1,k2,k3⟩:=dO hn;have hc:=bu hc;have ih:=oy l (a++[x]) y r rest t (For.gap hr) ht;rw[show a++x::y::l=a++[x]++y::l from by simp];refine Ev.one ih (fun f e1=> ?_);(try dsimp only at e1 ⊢);show gL (f+1) a (i::n::c::(r++t::rest))=_
  rw[gL,bR (hG hi)];dsimp only;rw[gP k1];dsimp only;rw[aQ hc];dsimp only;rw[k2];exact e1
theorem pS:∀(l:List Bs) (a:List Bs) (ts rest:List Tk),For ts (l.flatMap kR)→bF [105,110,116] rest=none→
  Ev (fun f=>eU f a (ts++rest)) (.ok (a++l,rest))
 |[],a,ts,rest,hf,ht=>by
  rw[For.nil (show For ts []from hf),Ze];refine Ev.const (fun f=> ?_);(try dsimp only);show eU (f+1) a rest=_
  rw[eU,ht]
 |x::l,a,ts,rest,hf,ht=>by
  rw[Zi]at hf;obtain⟨t1,t2,rfl,h1,h2⟩:=hf.app;obtain⟨i,r,rfl,hi,hr⟩:=(fF h1).cons;obtain⟨n,r,rfl,hn,hr⟩:=(For.gap hr).cons;obtain⟨c,r,rfl,hc,hr⟩:=hr.cons;rw[hr.nil];obtain⟨k1,k2,k3⟩:=dO hn;have ih:=pS l (a++[x]) t2 rest h2 ht;rw[show a++x::l=a++[x]++l from by simp];refine Ev.one ih (fun f e1=> ?_);(try dsimp only at e1 ⊢);show eU (f+1) a (i::n::c::(t2++rest))=_
  rw[eU,aQ (hG hi)];dsimp only;rw[gP k1];dsimp only;rw[bR (bu hc)];dsimp only;rw[k2];exact e1
theorem xC {t:Nat}{l:List St}(hl:∀x,x∈l→WSt x){ts rest:List Tk}{u:Tk}(hf:For ts (dZ t l))(hu:isP [125] u=true):bF [105,110,116] (ts++u::rest)=none:=by
 cases l with
 |nil=>
  rw[dZ]at hf;rw[hf.nil];exact aH (kM hu (by decide))
 |cons y l=>
  rw[dZ]at hf;obtain⟨s1,s2,rfl,g1,g2⟩:=hf.app;obtain⟨w,l',e1,n1,n2,n3⟩:=kB (hl y Za) t;obtain⟨c,r,rfl,e2⟩:=ke g1 e1;exact aH (cO (by rw[e2];exact n3))
theorem wg {g:Fu}(hg:WFu g){ts rest:List Tk}(hf:For ts (nr g)):Ev (fun f=>dw f g.name (ts++rest)) (.ok (g,rest)):=by
 obtain⟨nm,ps,ls,bd⟩:=g;obtain⟨_,_,_,hb⟩:=hg;dsimp only[nr]at hf hb ⊢;obtain⟨tp,r,rfl,hp,hr⟩:=hf.app;have hr:For r (sg [41]:: .g [32]::sg [123]:: .g [10]::(ls.flatMap kR++(dZ 1 bd++cy 0 [sg [125]]))):=hr;obtain⟨c,r,rfl,hc,hr⟩:=For.cons hr;obtain⟨o,r,rfl,ho,hr⟩:=For.cons (For.gap hr);obtain⟨tl,r,rfl,hl,hr⟩:=(For.gap hr).app;obtain⟨tb,r,rfl,hb2,hr⟩:=hr.app;obtain⟨z,r,rfl,hz,hr⟩:=(fF hr).cons;rw[hr.nil];have hz:=bu hz;have hc:=bu hc;have ho:=bu ho;obtain⟨n1,e1⟩:=pS ls [] tl (tb++z::rest) hl (xC hb hb2 hz);obtain⟨n2,e2⟩:=gM bd (fun x hx=>⟨hb x hx,y5 (hb x hx)⟩) [] tb z rest hb2 hz;rw[show tp++c::o::(tl++(tb++[z]))++rest=tp++c::o::(tl++(tb++z::rest))from by simp]
 cases ps with
 |nil=>
  rw[For.nil (show For tp []from hp)];refine⟨max n1 n2,fun f hf=> ?_⟩;have e1:=e1 f (by omega);have e2:=e2 f (by omega);(try dsimp only at e1 e2 ⊢);unfold dw;rw[show([]:List Tk)++c::o::(tl++(tb++z::rest))=c::o::(tl++(tb++z::rest))from rfl,aQ hc];dsimp only;rw[bR ho];dsimp only;rw[e1];dsimp only;rw[e2];rfl
 |cons x l=>
  have hp':For tp (ex x++l.flatMap (fun y=>[sg [44],.g [32]]++ex y)):=by
   have e:ff ((x::l).map ex)=ex x++l.flatMap (fun y=>[sg [44],.g [32]]++ex y):=by
    show ex x++(l.map ex).flatMap _=_;rw[List.flatMap_map]
   rw[←e];exact hp
  obtain⟨n3,e3⟩:=oy l [] x tp (o::(tl++(tb++z::rest))) c hp' hc;have hno:bF [41] (tp++c::o::(tl++(tb++z::rest)))=none:=by
   obtain⟨i,r,rfl,hi,_⟩:=For.cons (show For tp (wd [105,110,116]:: .g [32]::nmp x::l.flatMap (fun y=>[sg [44],.g [32]]++ex y))from hp');exact aH (kM (hG hi) (by decide))
  refine⟨max n1 (max n2 n3),fun f hf=> ?_⟩;have e1:=e1 f (by omega);have e2:=e2 f (by omega);have e3:=e3 f (by omega);(try dsimp only at e1 e2 e3 ⊢);unfold dw;rw[hno];dsimp only;rw[e3];dsimp only;rw[bR ho];dsimp only;rw[e1];dsimp only;rw[e2];rfl
theorem pN:∀(l:List Fu) (p:Pr) (ts:List Tk) (u:Tk),(∀x,x∈l→WFu x)→For ts (l.flatMap oP)→u.kind=5→Ev (fun f=>dd f p (ts++[u])) (.ok ({p with funcs:=p.funcs++l},[u]))
 |[],p,ts,u,hl,hf,hu=>by
  rw[For.nil (show For ts []from hf),Ze];refine Ev.const (fun f=> ?_);(try dsimp only);show dd (f+1) p [u]=_
  rw[dd,if_pos (show(([u]:List Tk).head?.map (·.kind)).getD 0=5 from hu)]
 |g::l,p,ts,u,hl,hf,hu=>by
  rw[Zi]at hf;obtain⟨t1,t2,rfl,h1,h2⟩:=hf.app;obtain⟨i,r,rfl,hi,hr⟩:=For.cons (show For t1 (wd [105,110,116]:: .g [32]::nmp g.name::sg [40]::nr g)from h1);obtain⟨n,r,rfl,hn,hr⟩:=(For.gap hr).cons;obtain⟨o,r,rfl,ho,hr⟩:=hr.cons;obtain⟨k1,k2,k3⟩:=dO hn;obtain⟨j1,_,_⟩:=dO hi;have ho:=bu ho;have ih:=pN l {p with funcs:=p.funcs++[g]} t2 u (fun x hx=>hl x (Zd _ hx)) h2 hu;rw[show({p with funcs:=p.funcs++g::l}:Pr)= {({p with funcs:=p.funcs++[g]}:Pr)with funcs:=({p with funcs:=p.funcs++[g]}:Pr).funcs++l}from by simp];obtain⟨n1,e1⟩:=wg (hl g Za) (rest:=t2++[u]) hr;obtain⟨n2,e2⟩:=ih;refine Ev.succ ⟨max n1 n2,fun f hf=> ?_⟩;have e1:=e1 f (by omega);have e2:=e2 f (by omega);(try dsimp only at e1 e2 ⊢);rw[show i::n::o::r++t2++[u]=i::n::o::(r++(t2++[u]))from by simp];rw[dd,if_neg (show ¬((i::n::o::(r++(t2++[u]))).head?.map (·.kind)).getD 0=5 from by show ¬i.kind=5;rw[j1];decide),bR (hG hi)];dsimp only;rw[gP k1];dsimp only;rw[show(if p.funcs.isEmpty=true then bF [91] (o::(r++(t2++[u])))else none)=none from by
   split
   ·exact aH (kM ho (by decide))
   ·rfl]
  dsimp only;rw[bR ho];dsimp only;rw[k2,e1];exact e2
theorem qx:∀(m:List Ar) (A:List Ar) (l:List Fu) (ts:List Tk) (u:Tk),(∀x,x∈l→WFu x)→For ts (m.flatMap sh++l.flatMap oP)→u.kind=5→Ev (fun f=>dd f ⟨A,[]⟩ (ts++[u])) (.ok (⟨A++m,l⟩,[u]))
 |[],A,l,ts,u,hl,hf,hu=>by
  rw[Ze];exact pN l ⟨A,[]⟩ ts u hl hf hu
 |a::m,A,l,ts,u,hl,hf,hu=>by
  rw[Zi,Zb]at hf;obtain⟨t1,t2,rfl,h1,h2⟩:=hf.app;obtain⟨i,r,rfl,hi,hr⟩:=(fF h1).cons;obtain⟨n,r,rfl,hn,hr⟩:=(For.gap hr).cons;obtain⟨o,r,rfl,ho,hr⟩:=hr.cons;obtain⟨s,r,rfl,hs,hr⟩:=hr.cons;obtain⟨c,r,rfl,hc,hr⟩:=hr.cons;obtain⟨e,r,rfl,he,hr⟩:=hr.cons;rw[hr.nil];obtain⟨k1,k2,k3⟩:=dO hn;obtain⟨s1,s2,s3⟩:=dO hs;obtain⟨j1,_,_⟩:=dO hi;have ho:=bu ho;have ih:=qx m (A++[a]) l t2 u hl h2 hu;rw[show A++a::m=A++[a]++m from by simp];refine Ev.one ih (fun f e2=> ?_);(try dsimp only at e2 ⊢);rw[show [i,n,o,s,c,e]++t2++[u]=i::n::o::s::c::e::(t2++[u])from by simp];rw[dd,if_neg (show ¬((i::n::o::s::c::e::(t2++[u])).head?.map (·.kind)).getD 0=5 from by show ¬i.kind=5;rw[j1];decide),bR (hG hi)];dsimp only;rw[gP k1];dsimp only;rw[if_pos (show List.isEmpty ([]:List Fu)=true from rfl),aQ ho];dsimp only;rw[show gx 3 (s::c::e::(t2++[u]))= .ok (s,c::e::(t2++[u]))from if_pos s1];dsimp only;rw[bR (bu hc)];dsimp only;rw[bR (bu he)];dsimp only;rw[k2,s3];exact e2
theorem tI {p:Pr}(hp:∀x,x∈p.funcs→WFu x){ts:List Tk}{u:Tk}(hf:For ts (yE p))(hu:u.kind=5):Ev (fun f=>dd f ⟨[],[]⟩ (ts++[u])) (.ok (p,[u])):=qx p.arrays [] p.funcs ts u hp hf hu
end Go.Proofs.YtcfpfnoldgnloaaGreatDoor

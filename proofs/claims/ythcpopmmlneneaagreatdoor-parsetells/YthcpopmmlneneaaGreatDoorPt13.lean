/-
  function and its closure: a name behind the others, in whatever order. Conditions: the parser and the variables lie in memory.
-/
import Derived.Test.YthcpopmmlneneaaGreatDoorPt08
import Derived.Test.YthcpopmmlneneaaGreatDoorPt05
import Derived.Laws.OwnMore
set_option linter.unusedVariables false
set_option linter.unusedSimpArgs false
namespace Go.Proofs.YthcpopmmlneneaaGreatDoor
open Go.RowKit Go.Proofs.Tryz
set_option maxHeartbeats 20000000
set_option maxRecDepth 100000
open Go.RowKit renaming Hid→Zv,Below→Zx
open Go renaming World→Zw,Calls→Zy,Addr→Zz,bodyPost_ret→Ya,undef→Yb
open Go.Lib renaming hid→Za
open SFr renaming of_below→Zb
open Go.Proofs.Tryz renaming prog→Zc,func188→Zj,ntmps188→Zk,results188→Zn,ntmps115→Zr,results115→Zs
open Ad renaming new→Zd,old→Zl
open List renaming length_cons→Ze,getElem?_eq_getElem→Zo,getD_eq_getElem?_getD→Zu
open Go.RowKit.Below renaming refl→Zf,heap_setCell→Zh
open Nat renaming le_refl→Zg,le_trans→Zi,le_succ→Zq,lt_of_lt_of_le→Zt
open Au renaming zero→Zm
open Ag renaming zero→Zp
theorem cG(f:Nat)(J:gS f)(s:Bs)(t:Tk)(a:List Tk)(w:Zw)(p d:Nat)(I:4*(t::a).length+1≤f+1)(j:Ps w p d (t::a))(y:isP [40] t=true):
  Zy Zc 169 #[.pointer (some ⟨p,0,none⟩),.string (Aa s)] w (Gw (ExH w.heap.size) w p d (Ei (f+1) s (t::a))):=by
 have S:=Za j.lt;have B:Zv (w.heap.size≠p):=by show _≠_;have:=j.lt;omega
 have z:Zx w.heap.size w (w.alloc (ζ)):=bA;have N:Zv (SFr p w (w.alloc (ζ))):=Zb z;obtain⟨T,P⟩:=Y2 (Zd w η 35) (j.old z);clear z;obtain⟨F,u⟩:∃F,Ei (f+1) s (t::a)=F:=⟨_,rfl⟩;rw[u];have D:=Za u;clear u;have E:=Za y;have U:Zv (∀c,Ps c p d (t::a)→_):=fun c r=>Bz p d t a [40] c r y
 rw[Ze]at I;have L:Zv (∀c,Ps c p d a→_):=fun c r=>J a c p d (by omega) r
 clear y I J;clear j;go_enter func169,ntmps169;go_wp2_with fail;refine(U.o _ P.o).mono ?_;rintro e c ⟨rfl,b,g⟩;obtain⟨A,Q,C⟩:=Y3 (N.o.trans b) g (T.o.sfr b B.o);clear b g;go_wp2_with fail;refine(L.o _ Q.o).mono ?_;intro e w2 k
 cases hA:In f a with
 |error n=>
  rw[hA]at k;obtain⟨b,rfl⟩:=k;have M:=Za (A.o.trans b);have i:Ei (f+1) s (t::a)=.error n:=by rw[Ei,Bt E.o];dsimp only;rw[hA]
  have m:=D.o.symm.trans i;subst m;clear i b;unfold Bv;go_wp2;exact⟨rfl,M.o,rfl⟩
 |ok q=>
  obtain⟨x,ab⟩:=q;rw[hA]at k;obtain⟨b,v,rfl,g,h⟩:=k;have h:Ag (c.heap.size≤ ·) w2 x v:=h;obtain⟨G,H,rfl⟩:=h.shape;have V:=Za (h.up (show w.heap.size+1≤c.heap.size from C.o.lt));clear h;obtain⟨O,R,l⟩:=Y3 (A.o.trans b) g (C.o.sfr b B.o);clear b g;have K:=Za hA;clear hA;obtain⟨⟨ac,ad,ae,af,ag⟩,ah,ai,aj,ak,al⟩:=Ai l.o;have am:=l.o.lt;go_wp2_with fail;have i:Ei (f+1) s (t::a)=.ok (.mk 5 0 0 s x,ab):=by rw[Ei,Bt E.o];dsimp only;rw[K.o]
  have m:=D.o.symm.trans i;subst m;obtain⟨⟨W,X,Y,Z,aa⟩,_⟩:=Ai (Ho l.o (ι 5) (ι 0) (ι 0) (σ s) (ρ G x H));exact Ya (v:=.agg #[ι 5,ι 0,ι 0,σ s,ρ G x H]) (by simp [results,results169,go_sem,W,X,Y,Z,aa]) rfl (Oc (x:=.mk 5 0 0 s x) S.o O.o R.o V.o Eo)
theorem fE(f:Nat)(s:Bs)(t:Tk)(b:List Tk)(w:Zw)(p d:Nat)(g:Ps w p d (t::b))(l:isP [40] t=false)(m:isP [91] t=false):
  Zy Zc 169 #[.pointer (some ⟨p,0,none⟩),.string (Aa s)] w (Gw (ExH w.heap.size) w p d (Ei (f+1) s (t::b))):=by
 have D:=Za g.lt;have Q:Zv (w.heap.size≠p):=by show _≠_;have:=g.lt;omega
 have k:Zx w.heap.size w (w.alloc (ζ)):=bA;have u:Zv (SFr p w (w.alloc (ζ))):=Zb k;obtain⟨E,n⟩:=Y2 (Zd w η 35) (g.old k);clear k;obtain⟨r,j⟩:∃r,Ei (f+1) s (t::b)=r:=⟨_,rfl⟩;rw[j];have G:=Za j;clear j;obtain⟨A,B⟩:=Y2 l m;have H:Zv (∀c,Ps c p d (t::b)→_):=fun c i=>Aq p d t b [40] c i l
 have I:Zv (∀c,Ps c p d (t::b)→_):=fun c i=>Aq p d t b [91] c i m
 clear l m;clear g;go_enter func169,ntmps169;go_wp2_with fail;refine(H.o _ n.o).mono ?_;rintro e c ⟨rfl,a⟩;obtain⟨y,q,F⟩:=Y3 (u.o.trans (Zb a)) (n.o.old a) (E.o.old a);clear a;go_wp2_with fail;refine(I.o _ q.o).mono ?_;rintro e w2 ⟨rfl,a⟩;obtain⟨z,C,h⟩:=Y3 (y.o.trans (Zb a)) (q.o.old a) (F.o.old a);clear a;obtain⟨⟨R,S,T,U,V⟩,W,X,Y,Z,aa⟩:=Ai h.o;have ab:=h.o.lt;go_wp2_with fail;have O:Ei (f+1) s (t::b)=.ok (.mk 2 0 0 s [],t::b):=by rw[Ei,Ah A.o];dsimp only;rw[Ah B.o]
 have P:=G.o.symm.trans O;subst P;obtain⟨⟨J,K,L,M,N⟩,_⟩:=Ai (Ho h.o (ι 2) (ι 0) (ι 0) (σ s) (ν));exact Ya (v:=.agg #[ι 2,ι 0,ι 0,σ s,ν]) (by simp [results,results169,go_sem,J,K,L,M,N]) rfl (Oc (x:=.mk 2 0 0 s []) D.o z.o C.o Zp Eo)
theorem fR(f:Nat)(Z:Ol f)(s:Bs)(t:Tk)(b:List Tk)(w:Zw)(p h:Nat)(X:4*(t::b).length+1≤f+1)(A:Ps w p h (t::b))(M:isP [40] t=false)(y:isP [91] t=true):
  Zy Zc 169 #[.pointer (some ⟨p,0,none⟩),.string (Aa s)] w (Gw (ExH w.heap.size) w p h (Ei (f+1) s (t::b))):=by
 have T:=Za A.lt;have F:Zv (w.heap.size≠p):=by show _≠_;have:=A.lt;omega
 have L:Zx w.heap.size w (w.alloc (ζ)):=bA;have ah:Zv (SFr p w (w.alloc (ζ))):=Zb L;obtain⟨au,R⟩:=Y2 (Zd w η 35) (A.old L);clear L;obtain⟨W,K⟩:∃W,Ei (f+1) s (t::b)=W:=⟨_,rfl⟩;rw[K];have G:=Za K;clear K;obtain⟨H,E⟩:=Y2 y M;have az:Zv (∀d,Ps d p h (t::b)→_):=fun d m=>Aq p h t b [40] d m M
 have aA:Zv (∀d,Ps d p h (t::b)→_):=fun d m=>Bz p h t b [91] d m y
 rw[Ze]at X;have ad:Zv (∀d,Ps d p h b→_):=fun d m=>Z b d p h (by omega) m
 clear y M X Z;clear A;go_enter func169,ntmps169;go_wp2_with fail;refine(az.o _ R.o).mono ?_;rintro e d ⟨rfl,C⟩;obtain⟨ai,an,av⟩:=Y3 (ah.o.trans (Zb C)) (R.o.old C) (au.o.old C);clear C;go_wp2_with fail;refine(aA.o _ an.o).mono ?_;rintro e w2 ⟨rfl,a,j⟩;obtain⟨P,ao,U⟩:=Y3 (ai.o.trans a) j (av.o.sfr a F.o);clear a j;go_wp2_with fail;refine(ad.o _ ao.o).mono ?_;intro e r g
 cases hA:Bk f 1 b with
 |error n=>
  rw[hA]at g;obtain⟨a,rfl⟩:=g;have D:=Za (P.o.trans a);have i:Ei (f+1) s (t::b)=.error n:=by rw[Ei,Ah E.o];dsimp only;rw[Bt H.o];dsimp only;rw[hA]
  have l:=G.o.symm.trans i;subst l;clear i a;unfold Bv;go_wp2;exact⟨rfl,D.o,rfl⟩
 |ok q=>
  obtain⟨x,aa⟩:=q;rw[hA]at g;obtain⟨a,v,rfl,j,aL⟩:=g;obtain⟨aV,rfl,hx,Y⟩:=aL;obtain⟨I,J,rfl⟩:=hx.shape;obtain⟨aB,am⟩:=Y2 (hx.up (show w.heap.size+1≤w2.heap.size from U.o.lt)) Y;clear hx Y;obtain⟨aj,S,aw⟩:=Y3 (P.o.trans a) j (U.o.sfr a F.o);clear a j;have N:=Za hA;clear hA;go_upto_region 5 with(fail);obtain⟨z,B⟩:∃z,r.alloc (ξ x (ρ I x.args J))=z:=⟨_,rfl⟩;rw[B];have c:Zx r.heap.size r z:=B ▸ bA;obtain⟨ak,ap,ax,aC,ae⟩:=Y5 (aj.o.trans (Zb c)) (S.o.old c) (aw.o.old c) (aB.o.old c) (B ▸ Zd r (χ x (ρ I x.args J)) 35);have ag:Zv (r.heap.size≠p):=by show _≠_;have:=S.o.lt;omega
  clear c B;obtain⟨k,aK⟩:∃k,k=z:=⟨_,rfl⟩;subst aK;have c:Zx k.heap.size k (k.alloc (.cells #[.string ⟨#[93]⟩] 9)):=bA;obtain⟨Q,aq,ay,af,aD⟩:=Y5 (ak.o.trans (Zb c)) (ap.o.old c) (ax.o.old c) (ae.o.old c) (aC.o.old c);have V:=Za (Dn p h aa [93] aq.o k.heap.size 1 ((Zd k [.string ⟨#[93]⟩] 9).at 0 _ rfl));clear c;go_wp2_with fail;refine(V.o).mono ?_;intro e ab g
  cases hA:An [93] aa with
  |error n=>
   rw[hA]at g;obtain⟨a,rfl⟩:=g;have D:=Za (Q.o.trans a);have i:Ei (f+1) s (t::b)=.error n:=by rw[Ei,Ah E.o];dsimp only;rw[Bt H.o];dsimp only;rw[N.o];dsimp only;rw[hA]
   have l:=G.o.symm.trans i;subst l;clear i a;unfold Bv;go_wp2;exact⟨rfl,D.o,rfl⟩
  |ok r3=>
   rw[hA]at g;obtain⟨a,rfl,j⟩:=g;obtain⟨al,ar,u,O,aE⟩:=Y5 (Q.o.trans a) j (ay.o.sfr a F.o) (af.o.sfr a ag.o) (aD.o.keep (a.fresh (by have:=T.o;omega)));clear a j;have ac:=Za hA;clear hA;clear V;obtain⟨⟨aM,i,l,aN,aO⟩,aP,aQ,aR,aS,aT⟩:=Ai O.o;have aU:=O.o.lt;obtain⟨⟨aW,aX,aY,aZ,ba⟩,bb,bc,bd,be,bf⟩:=Ai u.o;have bg:=u.o.lt;go_wp2_with fail;have i:Ei (f+1) s (t::b)=.ok (.mk 6 0 0 s [x],r3):=by rw[Ei,Ah E.o];dsimp only;rw[Bt H.o];dsimp only;rw[N.o];dsimp only;rw[ac.o]
   have l:=G.o.symm.trans i;subst l;obtain⟨⟨aF,aG,aH,aI,aJ⟩,_⟩:=Ai ((Ho u.o (ι 6) (ι 0) (ι 0) (σ s) (κ ab.heap.size 1 1)).alloc (.cells #[ι x.kind,ι x.op,ι x.n,σ x.name,(ρ I x.args J)] 35));exact Ya (v:=.agg #[ι 6,ι 0,ι 0,σ s,κ ab.heap.size 1 1]) (by simp [results,results169,go_sem,aF,aG,aH,aI,aJ]) rfl (mG (x:=x) (y:=.mk 6 0 0 s [x]) T.o al.o ar.o aE.o am.o u.o.lt rfl Eo)
@[go_sem] theorem field_tk2 (a b c d:Value) (w:Zw):(Instr.field 87 (.agg #[a,b,c,d]) 2).run Zc w=.ok c w:=by kernel_rfl
theorem eR(t:Tk)(a:List Tk):Ew (t::a)=if t.kind=1 then .ok (t.text,a)else .error t.line:=by
 unfold Ew;have:Ks 1 (t::a)=if t.kind=1 then Except.ok (t,a)else Except.error t.line:=rfl
 rw[this]
 by_cases h:t.kind=1
 ·rw[if_pos h,if_pos h]
 ·rw[if_neg h,if_neg h]
theorem Sq(t:Tk)(a:List Tk):(Fz (t::a)=some (17,a)∧isP (As 17) t=true)∨(Fz (t::a)=some (18,a)∧isP (As 17) t=false∧isP (As 18) t=true)∨(Fz (t::a)=some (19,a)∧isP (As 17) t=false∧isP (As 18) t=false∧isP (As 19) t=true)∨
  (Fz (t::a)=none∧isP (As 17) t=false∧isP (As 18) t=false∧isP (As 19) t=false):=by
 unfold Fz
 cases h1:isP (As 17) t with
 |true=>rw[Bt h1];exact .inl ⟨rfl,rfl⟩
 |false=>
  rw[Ah h1]
  cases h2:isP (As 18) t with
  |true=>rw[Bt h2];exact .inr (.inl ⟨rfl,rfl,rfl⟩)
  |false=>
   rw[Ah h2]
   cases h3:isP (As 19) t with
   |true=>rw[Bt h3];exact .inr (.inr (.inl ⟨rfl,rfl,rfl,rfl⟩))
   |false=>rw[Ah h3];exact .inr (.inr (.inr ⟨rfl,rfl,rfl,rfl⟩))
theorem cC(p d:Nat)(t:Tk)(b:List Tk)(op:Int)(a:Fz (t::b)=some (op,b))(w:Zw)(f:Ps w p d (t::b)):
  Zy Zc 168 #[.pointer (some ⟨p,0,none⟩)] w fun e w'=>e=.returned (.int .i64 op)∧SFr p w w'∧Ps w' p d b:=by
 rcases Sq t b with⟨e,c⟩|⟨e,c,g⟩|⟨e,c,g,h⟩|⟨e,_⟩
 ·rw[e]at a;injection a with a;injection a with a _;subst a;exact lI p d t b w f c
 ·rw[e]at a;injection a with a;injection a with a _;subst a;exact iY p d t b w f c g
 ·rw[e]at a;injection a with a;injection a with a _;subst a;exact lG p d t b w f c g h
 ·rw[e]at a;cases a
theorem Lf(p f:Nat)(t:Tk)(b:List Tk)(a:Fz (t::b)=none)(w:Zw)(h:Ps w p f (t::b)):
  Zy Zc 168 #[.pointer (some ⟨p,0,none⟩)] w fun e w'=>e=.returned (.int .i64 0)∧SFr p w w'∧Ps w' p f (t::b):=by
 rcases Sq t b with⟨e,c⟩|⟨e,c,d⟩|⟨e,c,d,g⟩|⟨e,c,d,g⟩
 ·rw[e]at a;cases a
 ·rw[e]at a;cases a
 ·rw[e]at a;cases a
 ·exact jS p f t b w h c d g
theorem Rj {t:Tk}{d q:List Tk}{op:Int}(a:Fz (t::d)=some (op,q)):q=d∧(op=17∨op=18∨op=19):=by
 rcases Sq t d with⟨e,_⟩|⟨e,_⟩|⟨e,_⟩|⟨e,_⟩<;>rw[e]at a
 ·injection a with a;injection a with b c;exact⟨c.symm,.inl b.symm⟩
 ·injection a with a;injection a with b c;exact⟨c.symm,.inr (.inl b.symm)⟩
 ·injection a with a;injection a with b c;exact⟨c.symm,.inr (.inr b.symm)⟩
 ·cases a
theorem fH(f:Nat)(H:Sm f)(t:Tk){a:List Tk}(w:Zw)(p g:Nat)(F:4*(t::a).length+1≤f+1)(k:Ps w p g (t::a))(op:Int)(d:Fz (t::a)=some (op,a)):
  Zy Zc 115 #[.pointer (some ⟨p,0,none⟩)] w (Gw (ExH w.heap.size) w p g (Cg (f+1) (t::a))):=by
 have R:=Za k.lt;have A:Zv (w.heap.size≠p):=by show _≠_;have:=k.lt;omega
 have u:Zx w.heap.size w (w.alloc (ζ)):=bA;have L:Zv (SFr p w (w.alloc (ζ))):=Zb u;obtain⟨S,O⟩:=Y2 (Zd w η 35) (k.old u);clear u;obtain⟨E,s⟩:∃E,Cg (f+1) (t::a)=E:=⟨_,rfl⟩;rw[s];have C:=Za s;clear s;have D:=Za d;have T:Zv (∀c,Ps c p g (t::a)→_):=fun c r=>cC p g t a op d c r
 rw[Ze]at F;have J:Zv (∀c,Ps c p g a→_):=fun c r=>H a c p g (by omega) r
 have ae:(op !=0)=true:=by rcases(Rj d).2 with rfl|rfl|rfl<;>rfl
 have af:(op==0)=false:=by rcases(Rj d).2 with rfl|rfl|rfl<;>rfl
 have ag:¬op=0:=by rcases(Rj d).2 with rfl|rfl|rfl<;>decide
 clear d F H;clear k;go_enter func115,Zr;go_wp2_with fail;refine(T.o _ O.o).mono ?_;rintro e c ⟨rfl,b,h⟩;obtain⟨z,P,B⟩:=Y3 (L.o.trans b) h (S.o.sfr b A.o);clear b h;go_wp2_with fail;refine(J.o _ P.o).mono ?_;intro e w2 l
 cases hA:Cg f a with
 |error n=>
  rw[hA]at l;obtain⟨b,rfl⟩:=l;have K:=Za (z.o.trans b);have j:Cg (f+1) (t::a)=.error n:=by rw[Cg,D.o];dsimp only;rw[hA]
  have m:=C.o.symm.trans j;subst m;clear j b;unfold Bv;go_wp2;exact⟨rfl,K.o,rfl⟩
 |ok q=>
  obtain⟨x,ad⟩:=q;rw[hA]at l;obtain⟨b,v,rfl,h,ac⟩:=l;obtain⟨ah,rfl,hx,G⟩:=ac;obtain⟨V,W,rfl⟩:=hx.shape;obtain⟨U,N⟩:=Y2 (hx.up (show w.heap.size+1≤c.heap.size from B.o.lt)) G;clear hx G;obtain⟨M,Q,i⟩:=Y3 (z.o.trans b) h (B.o.sfr b A.o);clear b h;have I:=Za hA;clear hA;obtain⟨⟨ai,aj,ak,al,am⟩,an,ao,ap,aq,ar⟩:=Ai i.o;have au:=i.o.lt;go_wp2_with fail;have j:Cg (f+1) (t::a)=.ok (.mk 3 op 0 [] [x],ad):=by rw[Cg,D.o];dsimp only;rw[I.o]
  have m:=C.o.symm.trans j;subst m;obtain⟨⟨X,Y,Z,aa,ab⟩,_⟩:=Ai ((Ho i.o (ι 3) (ι op) (ι 0) (ε) (κ w2.heap.size 1 1)).alloc (.cells #[ι x.kind,ι x.op,ι x.n,σ x.name,(ρ V x.args W)] 35));exact Ya (v:=.agg #[ι 3,ι op,ι 0,ε,κ w2.heap.size 1 1]) (by simp [results,Zs,go_sem,X,Y,Z,aa,ab]) rfl (mG (x:=x) (y:=.mk 3 op 0 [] [x]) R.o M.o Q.o U.o N.o i.o.lt rfl Eo)
theorem Yw(f:Nat)(W:Ol f)(t:Tk)(b:List Tk)(w:Zw)(p i:Nat)(U:4*(t::b).length+1≤f+1)(B:Ps w p i (t::b))(K:Fz (t::b)=none)(y:isP [40] t=true):
  Zy Zc 115 #[.pointer (some ⟨p,0,none⟩)] w (Gw (ExH w.heap.size) w p i (Cg (f+1) (t::b))):=by
 have Q:=Za B.lt;have s:Zv (w.heap.size≠p):=by show _≠_;have:=B.lt;omega
 have J:Zx w.heap.size w (w.alloc (ζ)):=bA;have ad:Zv (SFr p w (w.alloc (ζ))):=Zb J;obtain⟨ap,aj⟩:=Y2 (Zd w η 35) (B.old J);clear J;obtain⟨T,I⟩:∃T,Cg (f+1) (t::b)=T:=⟨_,rfl⟩;rw[I];have F:=Za I;clear I;have G:=Za K;have aw:Zv (∀d,Ps d p i (t::b)→_):=fun d m=>Lf p i t b K d m
 have H:=Za y;have ax:Zv (∀d,Ps d p i (t::b)→_):=fun d m=>Bz p i t b [40] d m y
 rw[Ze]at U;have Z:Zv (∀d,Ps d p i b→_):=fun d m=>W b d p i (by omega) m
 clear K y U W;clear B;go_enter func115,Zr;go_wp2_with fail;refine(aw.o _ aj.o).mono ?_;rintro e d ⟨rfl,a,g⟩;obtain⟨ae,ak,aq⟩:=Y3 (ad.o.trans a) g (ap.o.sfr a s.o);clear a g;go_wp2_with fail;refine(ax.o _ ak.o).mono ?_;rintro e w2 ⟨rfl,a,g⟩;obtain⟨N,al,R⟩:=Y3 (ae.o.trans a) g (aq.o.sfr a s.o);clear a g;go_wp2_with fail;refine(Z.o _ al.o).mono ?_;intro e r h
 cases hA:Bk f 1 b with
 |error n=>
  rw[hA]at h;obtain⟨a,rfl⟩:=h;have D:=Za (N.o.trans a);have j:Cg (f+1) (t::b)=.error n:=by rw[Cg,G.o];dsimp only;rw[Bt H.o];dsimp only;rw[hA]
  have l:=F.o.symm.trans j;subst l;clear j a;unfold Bv;go_wp2;exact⟨rfl,D.o,rfl⟩
 |ok q=>
  obtain⟨x,X⟩:=q;rw[hA]at h;obtain⟨a,v,rfl,g,aI⟩:=h;obtain⟨aS,rfl,hx,V⟩:=aI;obtain⟨z,A,rfl⟩:=hx.shape;obtain⟨ay,ai⟩:=Y2 (hx.up (show w.heap.size+1≤w2.heap.size from R.o.lt)) V;clear hx V;obtain⟨af,P,ar⟩:=Y3 (N.o.trans a) g (R.o.sfr a s.o);clear a g;have L:=Za hA;clear hA;go_upto_region 6 with(fail);obtain⟨u,C⟩:∃u,r.alloc (ξ x (ρ z x.args A))=u:=⟨_,rfl⟩;rw[C];have c:Zx r.heap.size r u:=C ▸ bA;obtain⟨ag,am,au,az,aa⟩:=Y5 (af.o.trans (Zb c)) (P.o.old c) (ar.o.old c) (ay.o.old c) (C ▸ Zd r (χ x (ρ z x.args A)) 35);have ac:Zv (r.heap.size≠p):=by show _≠_;have:=P.o.lt;omega
  clear c C;obtain⟨k,aH⟩:∃k,k=u:=⟨_,rfl⟩;subst aH;have c:Zx k.heap.size k (k.alloc (.cells #[.string ⟨#[41]⟩] 9)):=bA;obtain⟨O,an,av,ab,aA⟩:=Y5 (ag.o.trans (Zb c)) (am.o.old c) (au.o.old c) (aa.o.old c) (az.o.old c);have S:=Za (Dn p i X [41] an.o k.heap.size 1 ((Zd k [.string ⟨#[41]⟩] 9).at 0 _ rfl));clear c;go_wp2_with fail;refine(S.o).mono ?_;intro e aT h
  cases hA:An [41] X with
  |error n=>
   rw[hA]at h;obtain⟨a,rfl⟩:=h;have D:=Za (O.o.trans a);have j:Cg (f+1) (t::b)=.error n:=by rw[Cg,G.o];dsimp only;rw[Bt H.o];dsimp only;rw[L.o];dsimp only;rw[hA]
   have l:=F.o.symm.trans j;subst l;clear j a;unfold Bv;go_wp2;exact⟨rfl,D.o,rfl⟩
  |ok r3=>
   rw[hA]at h;obtain⟨a,rfl,g⟩:=h;obtain⟨ah,ao,E,M,aB⟩:=Y5 (O.o.trans a) g (av.o.sfr a s.o) (ab.o.sfr a ac.o) (aA.o.keep (a.fresh (by have:=Q.o;omega)));clear a g;have Y:=Za hA;clear hA;clear S;obtain⟨⟨aJ,j,l,aK,aL⟩,aM,aN,aO,aP,aQ⟩:=Ai M.o;have aR:=M.o.lt;obtain⟨⟨aU,aV,aW,aX,aY⟩,aZ,ba,bb,bc,bd⟩:=Ai E.o;have be:=E.o.lt;go_wp2_with fail;have j:Cg (f+1) (t::b)=.ok (x,r3):=by rw[Cg,G.o];dsimp only;rw[Bt H.o];dsimp only;rw[L.o];dsimp only;rw[Y.o]
   have l:=F.o.symm.trans j;subst l;obtain⟨⟨aC,aD,aE,aF,aG⟩,_⟩:=Ai (Ho E.o (ι x.kind) (ι x.op) (ι x.n) (σ x.name) (ρ z x.args A));exact Ya (v:=.agg #[ι x.kind,ι x.op,ι x.n,σ x.name,ρ z x.args A]) (by simp [results,Zs,go_sem,aC,aD,aE,aF,aG]) rfl (Oc (x:=x) Q.o ah.o ao.o aB.o ai.o)
theorem cD(f:Nat)(t:Tk)(b:List Tk)(w:Zw)(p g:Nat)(an:4*(t::b).length+1≤f+1)(l:Ps w p g (t::b))(D:Fz (t::b)=none)(n:isP [40] t=false)(y:isP [114,101,97,100] t=true):
  Zy Zc 115 #[.pointer (some ⟨p,0,none⟩)] w (Gw (ExH w.heap.size) w p g (Cg (f+1) (t::b))):=by
 have Z:=Za l.lt;have u:Zv (w.heap.size≠p):=by show _≠_;have:=l.lt;omega
 have C:Zx w.heap.size w (w.alloc (ζ)):=bA;have Q:Zv (SFr p w (w.alloc (ζ))):=Zb C;obtain⟨aa,V⟩:=Y2 (Zd w η 35) (l.old C);clear C;obtain⟨M,B⟩:∃M,Cg (f+1) (t::b)=M:=⟨_,rfl⟩;rw[B];have I:=Za B;clear B;have J:=Za D;have af:Zv (∀d,Ps d p g (t::b)→_):=fun d j=>Lf p g t b D d j
 obtain⟨L,F⟩:=Y2 y n;have ag:Zv (∀d,Ps d p g (t::b)→_):=fun d j=>Aq p g t b [40] d j n
 have ah:Zv (∀d,Ps d p g (t::b)→_):=fun d j=>Bz p g t b [114,101,97,100] d j y
 clear D y n an;clear l;go_enter func115,Zr;go_wp2_with fail;refine(af.o _ V.o).mono ?_;rintro e d ⟨rfl,c,h⟩;obtain⟨R,G,ab⟩:=Y3 (Q.o.trans c) h (aa.o.sfr c u.o);clear c h;go_wp2_with fail;refine(ag.o _ G.o).mono ?_;rintro e w2 ⟨rfl,m⟩;obtain⟨S,W,ac⟩:=Y3 (R.o.trans (Zb m)) (G.o.old m) (ab.o.old m);clear m;go_wp2_with fail;refine(ah.o _ W.o).mono ?_;rintro e i ⟨rfl,c,h⟩;obtain⟨T,H,ad⟩:=Y3 (S.o.trans c) h (ac.o.sfr c u.o);clear c h;have r:Zx i.heap.size i (i.alloc (.cells #[.string ⟨#[40]⟩,.string ⟨#[41]⟩] 9)):=bA;have N:i.heap.size≠p:=by have:=H.o.lt;omega
 obtain⟨E,X,ae⟩:=Y3 (T.o.trans (Zb r)) (H.o.old r) (ad.o.old r);have K:=Za (Qj p g b [40] [41] X.o i.heap.size 2 ((Zd i [.string ⟨#[40]⟩,.string ⟨#[41]⟩] 9).at 0 _ rfl) ((Zd i [.string ⟨#[40]⟩,.string ⟨#[41]⟩] 9).at 1 _ rfl) N);clear r N;go_wp2_with fail;refine(K.o).mono ?_;intro e ao s
 cases a:Hz [40] [41] b with
 |error n=>
  rw[a]at s;obtain⟨c,rfl⟩:=s;have P:=Za (E.o.trans c);have k:Cg (f+1) (t::b)=.error n:=by rw[Cg,J.o];dsimp only;rw[Ah F.o];dsimp only;rw[Bt L.o];dsimp only;unfold Hz at a;cases hB:An [40] b with
   |error n=>rw[hB]at a;injection a with a;subst a;rfl
   |ok q=>rw[hB]at a;dsimp only at a ⊢;rw[a]
  have A:=I.o.symm.trans k;subst A;clear k c;unfold Bv;go_wp2;exact⟨rfl,P.o,rfl⟩
 |ok r3=>
  rw[a]at s;obtain⟨c,rfl,h⟩:=s;obtain⟨U,Y,z⟩:=Y3 (E.o.trans c) h (ae.o.sfr c u.o);clear c h;have O:=Za a;clear a;clear K;obtain⟨⟨ap,aq,ar,au,av⟩,aw,ax,ay,az,aA⟩:=Ai z.o;have aB:=z.o.lt;go_wp2_with fail;have k:Cg (f+1) (t::b)=.ok (.mk 7 0 0 [] [],r3):=by
     have a:=O.o;rw[Cg,J.o];dsimp only;rw[Ah F.o];dsimp only;rw[Bt L.o];dsimp only;unfold Hz at a
     cases hB:An [40] b with
     |error n=>rw[hB]at a;cases a
     |ok q=>rw[hB]at a;dsimp only at a ⊢;rw[a]
  have A:=I.o.symm.trans k;subst A;obtain⟨⟨ai,aj,ak,al,am⟩,_⟩:=Ai (Ho z.o (ι 7) (ι 0) (ι 0) (ε) (ν));exact Ya (v:=.agg #[ι 7,ι 0,ι 0,ε,ν]) (by simp [results,Zs,go_sem,ai,aj,ak,al,am]) rfl (Oc (x:=.mk 7 0 0 [] []) Z.o U.o Y.o Zp Eo)
theorem eP(f:Nat)(t:Tk)(a:List Tk)(w:Zw)(p d:Nat)(al:4*(t::a).length+1≤f+1)(i:Ps w p d (t::a))(r:Fz (t::a)=none)(s:isP [40] t=false)(u:isP [114,101,97,100] t=false)(k:t.kind=3):
  Zy Zc 115 #[.pointer (some ⟨p,0,none⟩)] w (Gw (ExH w.heap.size) w p d (Cg (f+1) (t::a))):=by
 have T:=Za i.lt;have y:Zv (w.heap.size≠p):=by show _≠_;have:=i.lt;omega
 have n:Zx w.heap.size w (w.alloc (ζ)):=bA;have D:Zv (SFr p w (w.alloc (ζ))):=Zb n;obtain⟨U,Q⟩:=Y2 (Zd w η 35) (i.old n);clear n;obtain⟨C,m⟩:∃C,Cg (f+1) (t::a)=C:=⟨_,rfl⟩;rw[m];have Z:=Za m;clear m;have ab:=Za r;have aa:Zv (∀b,Ps b p d (t::a)→_):=fun b g=>Lf p d t a r b g
 obtain⟨M,N⟩:=Y2 s u;have ac:Zv (∀b,Ps b p d (t::a)→_):=fun b g=>Aq p d t a [40] b g s
 have ad:Zv (∀b,Ps b p d (t::a)→_):=fun b g=>Aq p d t a [114,101,97,100] b g u
 have P:Zv (∀b,Ps b p d (t::a)→_):=fun b g=>Gy p d t a b g
 have K:Zv (∀b,Ps b p d (t::a)→_):=fun b g=>Nh p d (t::a) 3 (by decide) b g
 have L:Zv (Ks 3 (t::a)=.ok (t,a)):=by show(if t.kind=3 then Except.ok (t,a)else Except.error t.line)=_;rw[if_pos k]
 have J:=Za k;have am:(t.kind==3)=true:=by simp [k]
 have O:=Za (i.nums t List.mem_cons_self);clear r s u al k;clear i;go_enter func115,Zr;go_wp2_with fail;refine(aa.o _ Q.o).mono ?_;rintro e b ⟨rfl,h,j⟩;obtain⟨E,z,V⟩:=Y3 (D.o.trans h) j (U.o.sfr h y.o);clear h j;go_wp2_with fail;refine(ac.o _ z.o).mono ?_;rintro e w2 ⟨rfl,c⟩;obtain⟨F,A,W⟩:=Y3 (E.o.trans (Zb c)) (z.o.old c) (V.o.old c);clear c;go_wp2_with fail;refine(ad.o _ A.o).mono ?_;rintro e an ⟨rfl,c⟩;obtain⟨G,B,X⟩:=Y3 (F.o.trans (Zb c)) (A.o.old c) (W.o.old c);clear c;go_wp2_with fail;refine(P.o _ B.o).mono ?_;rintro e ao ⟨rfl,c⟩;obtain⟨H,R,Y⟩:=Y3 (G.o.trans (Zb c)) (B.o.old c) (X.o.old c);clear c;unfold tkV;go_wp2_with fail;have q:=K.o _ R.o;rw[L.o]at q;refine q.mono ?_;clear q;rintro e ap ⟨h,v,rfl,j,rfl⟩;obtain⟨I,S,l⟩:=Y3 (H.o.trans h) j (Y.o.sfr h y.o);clear h j;unfold tkV;obtain⟨⟨aq,ar,au,av,aw⟩,ax,ay,az,aA,aB⟩:=Ai l.o;have aC:=l.o.lt;go_wp2_with fail;have aj:Cg (f+1) (t::a)=.ok (.mk 1 0 t.num [] [],a):=by rw[Cg,ab.o];dsimp only;rw[Ah M.o];dsimp only;rw[Ah N.o];dsimp only;rw[if_pos J.o]
 have ak:=Z.o.symm.trans aj;subst ak;obtain⟨⟨ae,af,ag,ah,ai⟩,_⟩:=Ai (Ho l.o (ι 1) (ι 0) (ι t.num) (ε) (ν));exact Ya (v:=.agg #[ι 1,ι 0,ι t.num,ε,ν]) (by simp [results,Zs,go_sem,ae,af,ag,ah,ai]) rfl (Oc (x:=.mk 1 0 t.num [] []) T.o I.o S.o Zp O.o)
theorem cE(f:Nat)(Z:Wy f)(t:Tk)(a:List Tk)(w:Zw)(p i:Nat)(X:4*(t::a).length+1≤f+1)(u:Ps w p i (t::a))(J:Fz (t::a)=none)(K:isP [40] t=false)(L:isP [114,101,97,100] t=false)(I:t.kind≠3):
  Zy Zc 115 #[.pointer (some ⟨p,0,none⟩)] w (Gw (ExH w.heap.size) w p i (Cg (f+1) (t::a))):=by
 have ao:=Za u.lt;have C:Zv (w.heap.size≠p):=by show _≠_;have:=u.lt;omega
 have H:Zx w.heap.size w (w.alloc (ζ)):=bA;have ac:Zv (SFr p w (w.alloc (ζ))):=Zb H;obtain⟨ap,ak⟩:=Y2 (Zd w η 35) (u.old H);clear H;obtain⟨U,G⟩:∃U,Cg (f+1) (t::a)=U:=⟨_,rfl⟩;rw[G];have E:=Za G;clear G;have F:=Za J;have aw:Zv (∀b,Ps b p i (t::a)→_):=fun b c=>Lf p i t a J b c
 obtain⟨A,B⟩:=Y2 K L;have ax:Zv (∀b,Ps b p i (t::a)→_):=fun b c=>Aq p i t a [40] b c K
 have ay:Zv (∀b,Ps b p i (t::a)→_):=fun b c=>Aq p i t a [114,101,97,100] b c L
 have aj:Zv (∀b,Ps b p i (t::a)→_):=fun b c=>Gy p i t a b c
 have ai:Zv (∀b,Ps b p i (t::a)→_):=fun b c=>Gb p i (t::a) b c
 rw[Ze]at X;have ab:Zv (∀s b,Ps b p i a→_):=fun s b c=>Z s a b p i (by omega) c
 have z:=Za I;have aL:(t.kind==3)=false:=by simp [I]
 have P:=Za (eR t a);clear J K L X I Z;clear u;go_enter func115,Zr;go_wp2_with fail;refine(aw.o _ ak.o).mono ?_;rintro e b ⟨rfl,d,k⟩;obtain⟨ad,Q,aq⟩:=Y3 (ac.o.trans d) k (ap.o.sfr d C.o);clear d k;go_wp2_with fail;refine(ax.o _ Q.o).mono ?_;rintro e w2 ⟨rfl,h⟩;obtain⟨ae,R,ar⟩:=Y3 (ad.o.trans (Zb h)) (Q.o.old h) (aq.o.old h);clear h;go_wp2_with fail;refine(ay.o _ R.o).mono ?_;rintro e aN ⟨rfl,h⟩;obtain⟨af,S,au⟩:=Y3 (ae.o.trans (Zb h)) (R.o.old h) (ar.o.old h);clear h;go_wp2_with fail;refine(aj.o _ S.o).mono ?_;rintro e aO ⟨rfl,h⟩;obtain⟨M,al,av⟩:=Y3 (af.o.trans (Zb h)) (S.o.old h) (au.o.old h);clear h;unfold tkV;go_wp2_with fail;refine(ai.o _ al.o).mono ?_;intro e aJ j
 cases hA:Ew (t::a)with
 |error n=>
  rw[hA]at j;obtain⟨d,rfl⟩:=j;have y:=Za (M.o.trans d);have l:Cg (f+1) (t::a)=.error n:=by
    have g:=P.o;rw[hA]at g
    by_cases c:t.kind=1
    ·rw[if_pos c]at g;cases g
    ·rw[if_neg c]at g;injection g with g;subst g
     rw[Cg,F.o];dsimp only;rw[Ah A.o];dsimp only;rw[Ah B.o];dsimp only;rw[if_neg z.o,if_neg c]
  have m:=E.o.symm.trans l;subst m;clear l d;unfold Bv;go_wp2;exact⟨rfl,y.o,rfl⟩
 |ok q=>
  obtain⟨s,aH⟩:=q;rw[hA]at j;obtain⟨d,v,rfl,k,r⟩:=j;have r:v= σ s:=r;subst r;obtain⟨c,rfl,rfl⟩:t.kind=1∧s=t.text∧a=aH:=by
   have g:=P.o;rw[hA]at g
   by_cases c:t.kind=1
   ·rw[if_pos c]at g;injection g with g;injection g with aF aG;exact⟨c,aF,aG.symm⟩
   ·rw[if_neg c]at g;cases g
  have O:=Za c;clear c;obtain⟨N,am,T⟩:=Y3 (M.o.trans d) k (av.o.sfr d C.o);clear d k;have aK:=Za hA;clear hA;go_wp2_with fail;refine(ab.o t.text _ am.o).mono ?_;intro e aP j
  cases hA:Ei f t.text a with
  |error n=>
   rw[hA]at j;obtain⟨d,rfl⟩:=j;have y:=Za (N.o.trans d);have l:Cg (f+1) (t::a)=.error n:=by rw[Cg,F.o];dsimp only;rw[Ah A.o];dsimp only;rw[Ah B.o];dsimp only;rw[if_neg z.o,if_pos O.o,hA]
   have m:=E.o.symm.trans l;subst m;clear l d;unfold Bv;go_wp2;exact⟨rfl,y.o,rfl⟩
  |ok q=>
   obtain⟨x,aI⟩:=q;rw[hA]at j;obtain⟨d,v,rfl,k,r⟩:=j;obtain⟨aM,rfl,hx,Y⟩:=r;obtain⟨V,W,rfl⟩:=hx.shape;obtain⟨az,ah⟩:=Y2 (hx.up (show w.heap.size+1≤aJ.heap.size from T.o.lt)) Y;clear hx Y;obtain⟨ag,an,D⟩:=Y3 (N.o.trans d) k (T.o.sfr d C.o);clear d k;have aa:=Za hA;clear hA;obtain⟨⟨aQ,aR,aS,aT,aU⟩,aV,aW,aX,aY,aZ⟩:=Ai D.o;have ba:=D.o.lt;go_wp2_with fail;have l:Cg (f+1) (t::a)=.ok (x,aI):=by rw[Cg,F.o];dsimp only;rw[Ah A.o];dsimp only;rw[Ah B.o];dsimp only;rw[if_neg z.o,if_pos O.o,aa.o]
   have m:=E.o.symm.trans l;subst m;obtain⟨⟨aA,aB,aC,aD,aE⟩,_⟩:=Ai (Ho D.o (ι x.kind) (ι x.op) (ι x.n) (σ x.name) (ρ V x.args W));exact Ya (v:=.agg #[ι x.kind,ι x.op,ι x.n,σ x.name,ρ V x.args W]) (by simp [results,Zs,go_sem,aA,aB,aC,aD,aE]) rfl (Oc (x:=x) ao.o ag.o an.o az.o ah.o)
theorem kE(f:Nat)(h:Sm f)(e:Ol f)(g:Wy f):Sm (f+1):=by
 intro l w p d b a;obtain⟨t,c,rfl⟩:=a.ends.ne
 cases hu:Fz (t::c)with
 |some q=>
  obtain⟨op,q⟩:=q;obtain⟨rfl,_⟩:=Rj hu;exact fH f h t w p d b a op hu
 |none=>
  cases h1:isP [40] t with
  |true=>exact Yw f e t c w p d b a hu h1
  |false=>
   cases h2:isP [114,101,97,100] t with
   |true=>exact cD f t c w p d b a hu h1 h2
   |false=>
    by_cases hk:t.kind=3
    ·exact eP f t c w p d b a hu h1 h2 hk
    ·exact cE f g t c w p d b a hu h1 h2 hk
theorem kK(f:Nat)(e:gS f)(g:Ol f):Wy (f+1):=by
 intro s l w p c d a;obtain⟨t,b,rfl⟩:=a.ends.ne
 cases h1:isP [40] t with
 |true=>exact cG f e s t b w p c d a h1
 |false=>
  cases h2:isP [91] t with
  |true=>exact fR f g s t b w p c d a h1 h2
  |false=>exact fE f s t b w p c a h1 h2
theorem expr_of(f:Nat)(z:Vs f):Ol f:=by
 intro l w p D A c;have M:=Za c.lt;have J:Zv (w.heap.size≠p):=by show _≠_;have:=c.lt;omega
 have k:Zx w.heap.size w (w.alloc (ζ)):=bA;have m:Zv (SFr p w (w.alloc (ζ))):=Zb k;obtain⟨r,K⟩:=Y2 (Zd w η 35) (c.old k);clear k;obtain⟨t,j⟩:∃t,Bk f 1 l=t:=⟨_,rfl⟩;rw[j];have s:=Za j;clear j;have F:Zv (∀g,Ps g p D l→_):=fun g T=>z 1 l g p D A T
 clear A z;clear c;go_enter func33,ntmps33;go_wp2_with fail;refine(F.o _ K.o).mono ?_;intro e g d
 cases hA:Bk f 1 l with
 |error n=>
  rw[hA]at d;obtain⟨a,rfl⟩:=d;have G:=Za (m.o.trans a);have b:Bk f 1 l=.error n:=hA;have i:=s.o.symm.trans b;subst i;clear b a;unfold Bv;go_wp2;exact⟨rfl,G.o,rfl⟩
 |ok q=>
  obtain⟨x,V⟩:=q;rw[hA]at d;obtain⟨a,v,rfl,C,U⟩:=d;obtain⟨W,rfl,hx,B⟩:=U;obtain⟨u,y,rfl⟩:=hx.shape;obtain⟨N,I⟩:=Y2 (hx.up (show w.heap.size+1≤_ from r.o.lt)) B;clear hx B;obtain⟨H,L,h⟩:=Y3 (m.o.trans a) C (r.o.sfr a J.o);clear a C;have E:=Za hA;clear hA;obtain⟨⟨X,Y,Z,aa,ab⟩,ac,ad,ae,af,ag⟩:=Ai h.o;have ah:=h.o.lt;go_wp2_with fail;have b:Bk f 1 l=.ok (x,V):=E.o;have i:=s.o.symm.trans b;subst i;obtain⟨⟨O,P,Q,R,S⟩,_⟩:=Ai (Ho h.o (ι x.kind) (ι x.op) (ι x.n) (σ x.name) (ρ u x.args y));exact Ya (v:=.agg #[ι x.kind,ι x.op,ι x.n,σ x.name,ρ u x.args y]) (by simp [results,results33,go_sem,O,P,Q,R,S]) rfl (Oc (x:=x) M.o H.o L.o N.o I.o)
def Dz(p:Nat)(w:Zw):Nat:=match w.cell? ⟨p,0,none⟩with
 |some (.slice _ n _)=>n
 |_=>0
theorem Ps.len {w:Zw}{p b:Nat}{l:List Tk}(a:Ps w p b l):Dz p w=l.length:=by
 obtain⟨c,cap,a⟩:=a;have:=a.own.at 0 _ rfl;unfold Dz;rw[this]
theorem sQ {lv:Int}{t:Tk}{c:List Tk}(a:Eg lv (t::c)≠0):t.kind≠5:=by
 intro b;apply a
 rw[gF];refine Wl _ (fun j d=>?_);have:isP (As ((j:Int)+1)) t=false:=by unfold isP;rw[b];rfl
 show(isP (As ((j:Int)+1)) t && _)=false
 rw[this];rfl
theorem dZ(op:Int):0≤Ao op∧Ao op≤8:=by
 unfold Ao
 repeat' split
 all_goals omega
structure Sj (w:Zw)(p tb be:Nat)(lv:Int)(f:Nat)(R:PR Ex)(g:Nat)(x:Ex)(s:Value)(l:List Tk)(wr:Zw):Prop where
 sfr:SFr p w wr
 ps:Ps wr p tb l
 own:Ad wr w.heap.size [.int .i64 0,.int .i64 0,.int .i64 0,.string ⟨#[]⟩,.slice none 0 0] 35
 e:Ad wr be [.int .i64 x.kind,.int .i64 x.op,.int .i64 x.n,.string (Aa x.name),s] 35
 tree:Ag (fun b=>w.heap.size+1≤b∧b≠be) wr x.args s
 n:I64 x.n
 fuel:4*l.length+5≤g
 le:g≤f
 res:Gs g lv x l=R
theorem Sj.old {w:Zw}{p h d:Nat}{lv:Int}{f:Nat}{c:PR Ex}{g:Nat}{x:Ex}{s:Value}{l:List Tk}{wr w':Zw}(a:Sj w p h d lv f c g x s l wr)(b:Zx wr.heap.size wr w'):Sj w p h d lv f c g x s l w':=
 ⟨a.sfr.trans (Zb b),a.ps.old b,a.own.old b,a.e.old b,a.tree.old b,a.n,a.fuel,a.le,a.res⟩
theorem set5_ne(w:Zw)(b:Nat){c d e f g:Value}{k:Nat}(a:k≠b):(((((w.setCell ⟨b,0,none⟩ c).setCell ⟨b,1,none⟩ d).setCell ⟨b,2,none⟩ e).setCell ⟨b,3,none⟩ f).setCell ⟨b,4,none⟩ g).heap[k]? =w.heap[k]? :=by
 rw[Zh _ _ _ _ (show k≠b from a),Zh _ _ _ _ (show k≠b from a),Zh _ _ _ _ (show k≠b from a),Zh _ _ _ _ (show k≠b from a),Zh _ _ _ _ (show k≠b from a)]
theorem lM {w:Zw}{p i a:Nat}{lv:Int}{f:Nat}{e:PR Ex}{g:Nat}{x y:Ex}{s u:Value}{op:Int}{l:List Tk}{c:Zw}(H:p<w.heap.size)(F:w.heap.size<a)(j:SFr p w c)(m:Ps c p i l)
  (k:Ad c w.heap.size [.int .i64 0,.int .i64 0,.int .i64 0,.string ⟨#[]⟩,.slice none 0 0] 35) (h:Ad c a [.int .i64 x.kind,.int .i64 x.op,.int .i64 x.n,.string (Aa x.name),s] 35)
  (o:Ag (fun b=>w.heap.size+1≤b∧b≠a) c x.args s) (z:I64 x.n) (q:Ag (fun b=>w.heap.size+1≤b∧b≠a) c y.args u) (v:I64 y.n) (r:4*l.length+5≤g) (t:g≤f) (A:Gs g lv (.mk 4 op 0 [] [x,y]) l=e):
  Sj w p i a lv f e g (.mk 4 op 0 [] [x,y]) (.slice (some ⟨c.heap.size,0,none⟩) 2 2) l ((((((c.setCell ⟨a,0,none⟩ (.int .i64 4)).setCell ⟨a,1,none⟩ (.int .i64 op)).setCell ⟨a,2,none⟩ (.int .i64 0)).setCell ⟨a,3,none⟩ (.string ⟨#[]⟩)).setCell ⟨a,4,none⟩ (.slice (some ⟨c.heap.size,0,none⟩) 2 2)).alloc
   (.cells #[.int .i64 x.kind,.int .i64 x.op,.int .i64 x.n,.string (Aa x.name),s,.int .i64 y.kind,.int .i64 y.op,.int .i64 y.n,.string (Aa y.name),u] 35)):=by
 have G:=h.lt;have C:=o.keep (Ha c (show ¬(w.heap.size+1≤a∧a≠a)from fun d=>d.2 rfl) (ι 4) (ι op) (ι 0) (ε) (κ c.heap.size 2 2));have E:=q.keep (Ha c (show ¬(w.heap.size+1≤a∧a≠a)from fun d=>d.2 rfl) (ι 4) (ι op) (ι 0) (ε) (κ c.heap.size 2 2));have B:=Hi c a (ι 4) (ι op) (ι 0) (ε) (κ c.heap.size 2 2);refine⟨(sfr5 j (by omega) _ _ _ _ _).trans (Zb (bA)),(ps5 m (by omega) _ _ _ _ _).alloc _,?_,(Ho h _ _ _ _ _).alloc _,?_,Eo,r,t,A⟩
 ·refine Ad.alloc ?_ _
  exact(set5_ne c a (by omega)).trans k
 ·have:=Ag.two (D:=fun b=>w.heap.size+1≤b∧b≠a) x y s u (b:=c.heap.size) ⟨by omega,by omega⟩ (by
   have:=Dv.new (((((c.setCell ⟨a,0,none⟩ (ι 4)).setCell ⟨a,1,none⟩ (ι op)).setCell ⟨a,2,none⟩ (ι 0)).setCell ⟨a,3,none⟩ (ε)).setCell ⟨a,4,none⟩ (κ c.heap.size 2 2)) (Ba x s++Ba y u) 35;rw[B]at this;exact this) (C.old (bA)) z (E.old (bA)) v
  exact this
theorem lW(f:Nat)(bd:Sm f)(bm:∀g,g≤f→Vs g):Vs (f+1):=by
 intro lv l w p A bg S;have P:=Za S.lt;have ac:Zv (w.heap.size≠p):=by show _≠_;have:=S.lt;omega
 have al:Zx w.heap.size w (w.alloc (ζ)):=bA;have aa:Zv (SFr p w (w.alloc (ζ))):=Zb al;obtain⟨ag,aJ⟩:=Y2 (Zd w η 35) (S.old al);clear al;obtain⟨D,K⟩:∃D,Bk (f+1) lv l=D:=⟨_,rfl⟩;rw[K];have ai:=Za K;clear K;have au:Zv (∀d,Ps d p A l→_):=fun d h=>bd l d p A (by omega) h
 obtain⟨bN,aG⟩:=Y2 bm bg;clear bg bd bm;clear S;go_enter func78,ntmps78;go_wp2_with fail;refine(au.o _ aJ.o).mono ?_;intro e d z
 cases hA:Cg f l with
 |error n=>
  rw[hA]at z;obtain⟨i,rfl⟩:=z;have Z:=Za (aa.o.trans i);have J:Bk (f+1) lv l=.error n:=by rw[Bk,hA]
  have o:=ai.o.symm.trans J;subst o;clear J i;unfold Bv;go_wp2;exact⟨rfl,Z.o,rfl⟩
 |ok q=>
  obtain⟨x,U⟩:=q;rw[hA]at z;obtain⟨i,v,rfl,N,an⟩:=z;obtain⟨cv,rfl,hx,F⟩:=an;obtain⟨Q,R,rfl⟩:=hx.shape;obtain⟨aj,aH⟩:=Y2 (hx.up (show w.heap.size+1≤_ from ag.o.lt)) F;clear hx F;obtain⟨az,ad,ah⟩:=Y3 (aa.o.trans i) N (ag.o.sfr i ac.o);clear i N;have V:=Za hA;clear hA;have aP:=Za aj.o.strong;go_upto_region 2 with(fail);obtain⟨E,T⟩:∃E,d.alloc (ξ x (ρ Q x.args R))=E:=⟨_,rfl⟩;rw[T];have m:Zx d.heap.size d E:=T ▸ bA;obtain⟨aA,ae,aL,aO,aQ,av⟩:=Y6 (az.o.trans (Zb m)) (ad.o.old m) (ah.o.old m) (aj.o.old m) (aP.o.old m) (T ▸ Zd d (χ x (ρ Q x.args R)) 35);have Y:Zv (d.heap.size≠p):=by show _≠_;have:=ad.o.lt;omega
  clear m T;obtain⟨w2,bU⟩:∃w2,w2=E:=⟨_,rfl⟩;subst bU;have ar:Zv (∀ao d,Ps d p A ao→_):=fun ao d h=>cY p A ao lv d h
  go_wp2_with fail;refine(ar.o _ _ ae.o).mono ?_;rintro e bn ⟨rfl,a⟩;obtain⟨aB,af,aM,aw,bH,aR⟩:=Y6 (aA.o.trans (Zb a)) (ae.o.old a) (aL.o.old a) (av.o.old a) (aO.o.old a) (aQ.o.old a);clear a;have M:4*U.length+5≤f:=by
   have h:=(Cw f).2.2.1 _ _ _ V.o;have ak:=aG.o;omega
  have bk:Gs f lv x U=D:=by
   have:=ai.o;rw[Bk,V.o]at this;exact this
  have L:w.heap.size<d.heap.size:=ah.o.lt;have bl:Ag (fun b=>w.heap.size+1≤b∧b≠d.heap.size) bn x.args (ρ Q x.args R):=aR.o.mono (fun b a=>⟨a.1,by have:=a.2;omega⟩);have ab:Zv (Sj w p A d.heap.size lv f D f x (ρ Q x.args R) U bn):=⟨aB.o,af.o,aM.o,aw.o,bl,aH.o,M,Zg _,bk⟩;have W:=Za L;have bX:=af.o;clear M bk bl L aj aO bH aP aQ aR az aA aB aa aJ ad ae af ag ah aL aM av aw V aG ai au aH;obtain⟨r,L⟩:∃r,d.heap.size=r:=⟨_,rfl⟩;rw[L]at ab W Y ⊢;clear L;go_wp2
  go_loopw [6] (fun cf wr=> ∃(g:Nat) (x:Ex) (s:Value) (l:List Tk),cf= ι (Eg lv l)∧Zv (Sj w p A r lv f D g x s l wr)) (fun _ wr=>Dz p wr)
  case atStart=>exact⟨f,x,_,U,rfl,ab⟩
  case round=>
   obtain⟨g,y,s,l2,rfl,c⟩:=hrel;clear ab bX;obtain⟨op,C⟩:∃op,Eg lv l2=op:=⟨_,rfl⟩;rw[C];obtain⟨aq,sc,rfl⟩:=c.o.tree.shape;obtain⟨⟨aV,J,o,aW,aX⟩,aY,aZ,ba,bb,bc⟩:=Ai c.o.e;have bT:=c.o.e.lt
   by_cases h0:op=0
   ·subst h0
    have K:Except.ok (y,l2)=D:=by
     have h:=c.o.res;have cq:=c.o.fuel;obtain⟨k,rfl⟩:∃k,g=k+1:=⟨g-1,by omega⟩;rw[Gs,if_pos C]at h;exact h
    subst K;obtain⟨⟨cy,cz,cA,cB,cC⟩,cD,cE,cF,cG,cH⟩:=Ai c.o.own;have cI:=c.o.own.lt;clear C;go_wp2_with fail;obtain⟨⟨bO,bP,bQ,bR,bS⟩,_⟩:=Ai (Ho c.o.own (ι y.kind) (ι y.op) (ι y.n) (σ y.name) (ρ aq y.args sc));exact Ya (v:=.agg #[ι y.kind,ι y.op,ι y.n,σ y.name,ρ aq y.args sc]) (by simp [results,results78,go_sem,bO,bP,bQ,bR,bS]) rfl (Oc (x:=y) P.o c.o.sfr c.o.ps (c.o.tree.mono (fun b a=>a.1)) c.o.n)
   ·obtain⟨t,G,rfl⟩:=c.o.ps.ends.ne
    have am:t.kind≠5:=sQ (by rw[C];exact h0);have ct:(op !=0)=true:=by simp [h0]
    have cu:(op==0)=false:=by simp [h0]
    have cr:=dZ op;have cs:IntKind.i64.wrap (Ao op+1)=Ao op+1:=IntWalk.i64_in _ (by omega);obtain⟨k,bW⟩:∃k,g=k+1:=⟨g-1,by have:=c.o.fuel;omega⟩;subst bW;have aN:Zv ((match Bk k (Ao op+1) G with|.error e=>.error e|.ok (j,q)=>Gs k lv (.mk 4 op 0 [] [y,j]) q)=D):=by
     have h:=c.o.res;rw[Gs,if_neg (by rw[C];exact h0),C,List.drop_one,List.tail_cons]at h;exact h
    have bo:Zv (∀d,Ps d p A G→_):=fun d h=>bN.out k (by have:=c.o.le;omega) (Ao op+1) G d p A (by have:=c.o.fuel;rw[Ze]at this;omega) h
    have bw:Zv (∀d,_):=fun d=>Km op d
    obtain⟨ce,cap,h⟩:=c.o.ps;have B:=Za (h.take am);have aU:=h.own.at 0 _ rfl;have ch:=h.own.fz 0;have bY:=h.own.lt;have bf:=h.hcap;have bV:=h.fit;obtain⟨n,F⟩:∃n,G.length=n:=⟨_,rfl⟩;rw[Ze,F]at aU bf;rw[F]at B;have bZ:0<n:=by
     obtain⟨u,q,rfl⟩:=(h.ends.tail am).ne;rw[←F];simp
    have ca:(1:Int)≤(n:Int)+1:=by omega
    have cb:((n:Int)+1)≤(cap:Int):=by omega
    have cc:¬(cap:Int)-1=0:=by omega
    have cd:¬cap-1=0:=by omega
    have ci:=Za C;clear h C am;clear aV J o aW aX aY aZ ba bb bc;go_upto_region 6 with(fail);obtain⟨aT,be⟩:∃aT,wr.setCell ⟨p,0,none⟩ (.slice (some ⟨A,ce+4,none⟩) n (cap-1))=aT:=⟨_,rfl⟩;rw[be]at B ⊢;obtain⟨ay,aI,aS,aD,aK⟩:=Y5 (c.o.e.sfr B.o.2 Y.o) (c.o.own.sfr B.o.2 ac.o) (c.o.tree.keep (B.o.2.keepsD (fun b a=>by have:=P.o;have:=a.1;omega))) (c.o.sfr.trans B.o.2) B.o.1;clear aU ch bY bf bV bZ ca cb cc cd be B;go_wp2_with fail;refine(bw.o _).mono ?_;rintro e cg ⟨rfl,a⟩;obtain⟨ax,bz,bI,aC,bD⟩:=Y5 (ay.o.old a) (aI.o.old a) (aS.o.old a) (aD.o.trans (Zb a)) (aK.o.old a);clear a ay aI aS aD aK;go_wp2_with fail;refine(bo.o _ bD.o).mono ?_;intro e O z
    cases hA:Bk k (Ao op+1) G with
    |error n=>
     rw[hA]at z;obtain⟨i,rfl⟩:=z;have Z:=Za (aC.o.trans i);have o:=aN.o;rw[hA]at o;dsimp only at o;subst o;clear i;unfold Bv;go_wp2;exact⟨rfl,Z.o,rfl⟩
    |ok q=>
     obtain⟨j,ap⟩:=q;rw[hA]at z;obtain⟨i,v,rfl,N,an⟩:=z;obtain⟨cw,rfl,hx,bj⟩:=an;obtain⟨H,I,rfl⟩:=hx.shape;obtain⟨bq,bE,bp,bB,bJ,bL,bx⟩:=Y7 (aC.o.trans i) N (ax.o.sfr i Y.o) (bz.o.sfr i ac.o) (bI.o.keep (i.keepsD (fun b a=>by have:=P.o;have:=a.1;omega))) (hx.mono (D':=fun b=>w.heap.size+1≤b∧b≠r) (fun b a=>by have h:cg.heap.size≤b:=a;have ak:=ax.o.lt;have cp:=W.o;exact⟨by omega,by omega⟩)) bj;have o:=aN.o;rw[hA]at o;dsimp only at o;have bG:=Za o;have M:4*ap.length+5≤k:=by
      have h:=(Cw k).1 _ _ _ _ hA;have ak:=c.o.fuel;rw[Ze]at ak;omega
     have bh:k≤f:=by have:=c.o.le;omega
     obtain⟨bs,bu⟩:=Y2 M bh;have bi:ap.length<G.length:=(Cw k).1 _ _ _ _ hA;have bv:=Za bi;clear i N hx bj o M bh bi;go_upto_region 7 with(fail);have m:Zx O.heap.size O (O.alloc (ξ j (ρ H j.args I))):=bA;obtain⟨X,bC,bK,bM,br,bF,bt⟩:=Y7 (bp.o.old m) (bB.o.old m) (bJ.o.old m) (bL.o.old m) (bq.o.trans (Zb m)) (bE.o.old m) (Zd O (χ j (ρ H j.args I)) 35);clear m;generalize O.alloc (ξ j (ρ H j.args I))=E at*;obtain⟨⟨aV,J,o,aW,aX⟩,aY,aZ,ba,bb,bc⟩:=Ai X.o;obtain⟨⟨ck,cl,cm,cn,co⟩,_⟩:=Ai bt.o;have bT:=X.o.lt;have aE:=Za (lM (u:= ρ H j.args I) P.o W.o br.o bF.o bC.o X.o bK.o c.o.n bM.o bx.o bs.o bu.o bG.o);go_upto_region 4 with(fail);generalize (((((E.setCell ⟨r,0,none⟩ (ι 4)).setCell ⟨r,1,none⟩ (ι op)).setCell ⟨r,2,none⟩ (ι 0)).setCell ⟨r,3,none⟩ (ε)).setCell ⟨r,4,none⟩ (κ E.heap.size 2 2)).alloc (.cells #[ι y.kind,ι y.op,ι y.n,σ y.name,ρ aq y.args sc,ι j.kind,ι j.op,ι j.n,σ j.name,ρ H j.args I] 35)=cj at*
     go_wp2_with fail;refine(ar.o _ _ aE.o.ps).mono ?_;rintro e cx ⟨rfl,a⟩;have aF:=Za (aE.o.old a);clear a;go_wp2;go_roundw
     case rel=>exact⟨k,.mk 4 op 0 [] [y,j],_,ap,rfl,aF⟩
     case measure=>
      rw[aF.o.ps.len,c.o.ps.len,Ze];have:=bv.o;omega
structure AFr (p ob base:Nat)(w w':Zw):Prop where
 os:w'.os=w.os
 tape:w'.tape=w.tape
 output:w'.output=w.output
 size:w.heap.size≤w'.heap.size
 block:∀k,k<w.heap.size→k<base→k≠p→k≠ob→w'.heap[k]? =w.heap[k]?
section
variable {p ob base:Nat} {u v w:Zw}
theorem AFr.refl(p b a:Nat)(w:Zw):AFr p b a w w:=⟨rfl,rfl,rfl,Zg _,fun _ _ _ _ _=>rfl⟩
theorem AFr.trans(a:AFr p ob base u v)(k:AFr p ob base v w):AFr p ob base u w:=
 ⟨k.os.trans a.os,k.tape.trans a.tape,k.output.trans a.output,Zi a.size k.size,fun i e d b c=>(k.block i (Zt e a.size) d b c).trans (a.block i e d b c)⟩
theorem AFr.of_sfr(a:SFr p v w):AFr p ob base v w:=⟨a.os,a.tape,a.output,a.size,fun k c _ b _=>a.block k c b⟩
theorem AFr.of_below(a:Zx v.heap.size v w):AFr p ob base v w:=AFr.of_sfr (Zb a)
theorem AFr.old(a:AFr p ob base u v)(b:Zx v.heap.size v w):AFr p ob base u w:=a.trans (AFr.of_below b)
theorem AFr.set(a:AFr p ob base u v)(i:Nat)(x:Value):AFr p ob base u (v.setCell ⟨ob,i,none⟩ x):=
 ⟨a.os,a.tape,a.output,by simpa [World.setCell]using a.size,fun k e d c b=>(Zh _ _ _ _ (show k≠ob from b)).trans (a.block k e d c b)⟩
theorem AFr.high(a:AFr p ob base u v){g:Nat}(f:base≤g)(i:Nat)(x:Value):AFr p ob base u (v.setCell ⟨g,i,none⟩ x):=
 ⟨a.os,a.tape,a.output,by simpa [World.setCell]using a.size,fun k e d b c=>(Zh _ _ _ _ (show k≠g by omega)).trans (a.block k e d b c)⟩
theorem AFr.grown(a:AFr p ob base u v){row:Option Nat}(b:v.grownBy w row)(h:∀k,row=some k→base≤k):AFr p ob base u w:=
 ⟨b.os.trans a.os,b.tape.trans a.tape,b.output.trans a.output,Zi a.size b.size,fun k c g d f=>(b.block k (Zt c a.size) (fun e=>by have:=h k e.symm;omega)).trans (a.block k c g d f)⟩
theorem Ad.afr {b:Nat}{c:List Value}{a:TypeId}(d:Ad v b c a)(h:AFr p ob base v w)(e:b<base)(f:b≠p)(g:b≠ob):Ad w b c a:=(h.block b d.lt e f g).trans d
theorem Ad.grew {b:Nat}{c:List Value}{a:TypeId}(d:Ad v b c a){row:Option Nat}(f:v.grownBy w row)(g:row≠some b):Ad w b c a:=(f.block b d.lt (fun e=>g e.symm)).trans d
end
theorem Ps.grown {w w':Zw}{p c:Nat}{l:List Tk}(a:Ps w p c l){row:Option Nat}(g:w.grownBy w' row){d:Nat}(h:∀k,row=some k→d≤k)(m:p<d):Ps w' p c l:=by
 obtain⟨i,cap,a⟩:=a;have j:=a.lt;refine⟨i,cap,a.own.grew g (fun e=>by have:=h p e;omega),a.row.keep (fun b n x f hx=>?_),a.hcap,a.fit,a.lt,a.ends,a.nums⟩;have f:b=c:=f;rw[World.cell?_of_block (w:=w) (g.block b (World.block_lt_of_cell? _ _ hx) (fun e=>by have:=h b e.symm;omega))];exact hx
theorem Br.sfrB {p:Nat}{w w':Zw}{a:Nat}{b:List (Ex ×Value)}{v:Value}(c:Br w a b v)(e:SFr p w w')(g:p<a):Br w' a b v:=c.keep (fun k d f=>e.block k d (by omega))
theorem Br.old {w w':Zw}{a:Nat}{b:List (Ex ×Value)}{v:Value}(c:Br w a b v)(e:Zx w.heap.size w w'):Br w' a b v:=c.keep (fun k d _=>e.block k d)
theorem Br.low {w:Zw}{a:Nat}{b:List (Ex ×Value)}{v:Value}(c:Br w a b v){k:Nat}(e:k<a)(i:Nat)(x:Value):Br (w.setCell ⟨k,i,none⟩ x) a b v:=c.keep (fun j _ d=>Zh _ _ _ _ (show j≠k by omega))
theorem Br.rowGe {w:Zw}{a:Nat}{c:List (Ex ×Value)}{v:Value}(b:Br w a c v):∀k,v.ownBlock=some k→a≤k:=fun k e=>(World.ownsRow.lt b.1 k e).1
theorem Br.yshape {w:Zw}{c:Nat}{b:List (Ex ×Value)}{v:Value}(d:Br w c b v):∃a cap,v=.slice a b.length cap:=by
 rcases d.1.2 with⟨rfl,e⟩|⟨g,cap,f,rfl,_⟩
 ·exact⟨none,0,by rw[e]⟩
 ·exact⟨_,_,rfl⟩
def exZ:Ex:=.mk 0 0 0 [] []
theorem Br.setLast {w:Zw}{c g cap:Nat}{a:List (Ex ×Value)}{j:Value}{i:Ex}(l:Br w c (a++[(i,j)]) (.slice (some ⟨g,0,none⟩) (a.length+1) cap)){x:Ex}{s:Value}(hx:Ag (fun b=>c≤b∧b≠g) w x.args s)(v:I64 x.n):
  Br (((((w.setCell ⟨g,a.length*5,none⟩ (.int .i64 x.kind)).setCell ⟨g,a.length*5+1,none⟩ (.int .i64 x.op)).setCell ⟨g,a.length*5+2,none⟩ (.int .i64 x.n)).setCell ⟨g,a.length*5+3,none⟩ (.string (Aa x.name))).setCell ⟨g,a.length*5+4,none⟩ s) c (a++[(x,s)]) (.slice (some ⟨g,0,none⟩) (a.length+1) cap):=by
 have t:(a++[(i,j)]).length=a.length+1:=by simp
 have m:=l.1;rw[t]at m;have o:=((((m.stored (a.length*5) (ι x.kind)).1.stored (a.length*5+1) (ι x.op)).1.stored (a.length*5+2) (ι x.n)).1.stored (a.length*5+3) (σ x.name)).1.stored (a.length*5+4) s;have r:(((((Dl (a++[(i,j)])).set (a.length*5) (ι x.kind)).set (a.length*5+1) (ι x.op)).set (a.length*5+2) (ι x.n)).set (a.length*5+3) (σ x.name)).set (a.length*5+4) s=Dl (a++[(x,s)]):=by
  rw[Qe,Qe];have d:=Qc a;rw[←d];simp [Dl,Ba,List.set_append]
 rw[r]at o;have p:Db (fun b=>c≤b∧b≠g) w (((((w.setCell ⟨g,a.length*5,none⟩ (ι x.kind)).setCell ⟨g,a.length*5+1,none⟩ (ι x.op)).setCell ⟨g,a.length*5+2,none⟩ (ι x.n)).setCell ⟨g,a.length*5+3,none⟩ (σ x.name)).setCell ⟨g,a.length*5+4,none⟩ s):=by
  have h:¬(c≤g∧g≠g):=fun e=>e.2 rfl
  exact((((Al w h _ _).trans (Al _ h _ _)).trans (Al _ h _ _)).trans (Al _ h _ _)).trans (Al _ h _ _)
 have u:(a++[(x,s)]).length=a.length+1:=by simp
 refine⟨by rw[u];exact o.1,fun q d=>?_⟩;have y:∀b,(c≤b∧(Value.slice (some ⟨g,0,none⟩) (a.length+1) cap).ownBlock≠some b)→c≤b∧b≠g:=fun b f=>⟨f.1,fun e=>f.2 (by rw[e];rfl)⟩
 have k:∀b,c≤b∧b≠g→(c≤b∧(Value.slice (some ⟨g,0,none⟩) (a.length+1) cap).ownBlock≠some b):=fun b f=>⟨f.1,fun e=>f.2 (by injection e with e;exact e.symm)⟩
 rcases List.mem_append.1 d with d|d
 ·have:=l.2 q (List.mem_append.2 (.inl d))
  exact⟨((this.1.mono y).keep p).mono k,this.2⟩
 ·rw[List.mem_singleton.1 d]
  exact⟨(hx.keep p).mono k,v⟩
section
variable (w:Zw) {o:Oper} {a:Act} {K:Act→Zw→Prop} {Q:Exit→Act→Zw→Prop}
theorem pY(s x:Operand)(t:o.op=.call {callee:=.builtin .append,args:= #[s,x],argTypes:= #[33,33]})
  (e:Nat) (d:List (Ex ×Value)) (v:Value) (z:a.eval s=v) (k:Br w e d v) (b c:Nat) (hx:a.eval x=.slice (some ⟨b,0,none⟩) 1 c) (r:Ad w b (Ba exZ (.slice none 0 0)) 35)
  (E:d.length≤1000000) (n:e≤w.heap.size)
  (l:∀g cap w',Br w' e (d++[(exZ,.slice none 0 0)]) (.slice (some ⟨g,0,none⟩) (d.length+1) cap)→w.grownBy w' v.ownBlock→(v.ownBlock=some g∨g=w.heap.size)→g<w'.heap.size→K (a.put o.dst (.slice (some ⟨g,0,none⟩) (d.length+1) cap)) w'):o.wp Zc a w K Q:=by
 obtain⟨D,p,A,B,C⟩:=info_parts Mo;refine wp_append_lies (P:=Zc) w s x _ t e 35 D _ 5 _ underlying33 p A B C rfl (by decide) v d.length (Dl d) z k.1 ⟨b,0,none⟩ 1 c (Ba exZ (ν)) hx rfl ?_ ?_ (by decide) (by unfold maxLen;omega) (by omega) n _ rfl ?_
 ·intro j u f
  have m:(⟨b,0,none⟩:Zz).add j=⟨b,j,none⟩:=by unfold Addr.add;split<;>simp_all
  rw[m];exact r.at j u f
 ·intro u f
  simp only[Ba,List.mem_cons,List.not_mem_nil,or_false]at f;rcases f with rfl|rfl|rfl|rfl|rfl<;>rfl
 ·intro g cap w' y i h q
  exact l g cap w' (k.snoc exZ (ν) Zp Eo y i h) i h q
end
structure VY1 (p tb cb ob base:Nat)(va:Option Zz)(vc:Nat)(ps:List (Ex ×Value))(l r2:List Tk)(x:Ex)(W:Zw)(L:Nat→Bool)(sa:Option Zz)(sc:Nat)(nb:Nat)(gn:Nat)(cn:Nat)(z2 z3 z4 z5 z6 z7 z8:Value)(wx:Zw):Prop where
 p5_0:L 5=true→L 0=true
 p5_2:L 5=true→L 2=true
 p5_4:L 5=true→L 4=true
 p6_5:L 6=true→L 5=true
 p7_2:L 7=true→L 2=true
 p7_4:L 7=true→L 4=true
 p7_5:L 7=true→L 5=true
 p8_2:L 8=true→L 2=true
 p8_4:L 8=true→L 4=true
 p8_5:L 8=true→L 5=true
 c0:L 0=true→z2=.slice va ps.length vc
 c1:L 1=true→z3=.pointer (some ⟨p,0,none⟩)
 c2:L 2=true→z4=exV x (.slice sa x.args.length sc)
 c3:L 3=true→z5=.int .i64 ps.length
 c4:L 4=true→z6=.slice (some ⟨nb,0,none⟩) 1 1
 c5:L 5=true→z7=.slice (some ⟨gn,0,none⟩) (ps.length+1) cn
 c6:L 6=true→z8=.pointer (some ⟨gn,ps.length*5,none⟩)
 fr:AFr p ob base W wx
 pa:L 2=false→Ps wx p tb l
 pb:L 2=true→Ps wx p tb r2
 c:Ad wx cb [.pointer (some ⟨p,0,none⟩)] 79
 oa:L 8=false→Ad wx ob [.slice va ps.length vc] 33
 ob:L 8=true→Ad wx ob [.slice (some ⟨gn,0,none⟩) (ps.length+1) cn] 33
 ra:L 5=false→Br wx base ps (.slice va ps.length vc)
 g4:L 4=true→L 5=false→Ad wx nb (Ba exZ (.slice none 0 0)) 35∧base≤nb∧(Value.slice va ps.length vc).ownBlock≠some nb
 xa:L 2=true→L 5=false→Ag (fun b=>base≤b∧(Value.slice va ps.length vc).ownBlock≠some b) wx x.args (.slice sa x.args.length sc)
 xn:L 2=true→I64 x.n
 rb:L 5=true→L 7=false→Br wx base (ps++[(exZ,.slice none 0 0)]) (.slice (some ⟨gn,0,none⟩) (ps.length+1) cn)
 xb:L 5=true→Ag (fun b=>base≤b∧b≠gn) wx x.args (.slice sa x.args.length sc)
 rc:L 7=true→Br wx base (ps++[(x,.slice sa x.args.length sc)]) (.slice (some ⟨gn,0,none⟩) (ps.length+1) cn)
 gb:L 5=true→base≤gn∧gn<wx.heap.size
def IY1(p u a b m:Nat)(v:Option Zz)(w:Nat)(r:List (Ex ×Value))(l s:List Tk)(x:Ex)(j:Zw)(L:Nat→Bool)(k:Act)(w':Zw):Prop:=
 ∃t:Option Zz,∃sc:Nat,∃q:Nat,∃o:Nat,∃n:Nat,∃c d e f g h i:Value,VY1 p u a b m v w r l s x j L t sc q o n c d e f g h i w'∧k=⟨[.pointer (some ⟨b,0,none⟩),.pointer (some ⟨a,0,none⟩),c,d,e,f,g,h,i].toArray,[]⟩
def RY1(p m f d e:Nat)(n:Option Zz)(o:Nat)(a:List (Ex ×Value))(l k:List Tk)(x:Ex)(h:Zw)(i:Act)(w':Zw):Prop:=
 ∃g:Option Zz,∃sc:Nat,∃j:Nat,∃b:Nat,∃c:Nat,(AFr p d e h w'∧Ps w' p m k∧Ad w' f [.pointer (some ⟨p,0,none⟩)] 79∧Ad w' d [.slice (some ⟨b,0,none⟩) (a.length+1) c] 33∧Br w' e (a++[(x,.slice g x.args.length sc)]) (.slice (some ⟨b,0,none⟩) (a.length+1) c))∧i=⟨[.pointer (some ⟨d,0,none⟩),.pointer (some ⟨f,0,none⟩),.slice n a.length o,.pointer (some ⟨p,0,none⟩),exV x (.slice g x.args.length sc),.int .i64 a.length,.slice (some ⟨j,0,none⟩) 1 1,.slice (some ⟨b,0,none⟩) (a.length+1) c,.pointer (some ⟨b,a.length*5,none⟩)].toArray,[]⟩
theorem reg_Y1(p ab V S E:Nat)(H:Option Zz)(I:Nat)(h:List (Ex ×Value))(l am:List Tk)(x:Ex)(C:Zw)(ad:Ps C p ab l)(au:Ad C V [.pointer (some ⟨p,0,none⟩)] 79)(aj:Ad C S [.slice H h.length I] 33)(ay:Br C E h (.slice H h.length I))(bp:p<V)(bo:V<S)(ak:S<E)(aS:E≤C.heap.size)(aW:h.length≤1000000)(aK:Zv (∀ae,Ps ae p ab l→Zy Zc 33 #[.pointer (some ⟨p,0,none⟩)] ae fun e w'=> ∃s,e=.returned (exV x s)∧SFr p ae w'∧Ps w' p ab am∧Ag (ae.heap.size≤ ·) w' x.args s∧I64 x.n))(aC aD aE aF aG aH aI:Value){an t:Act→Zw→Prop}(hJ:∀Y w',RY1 p ab V S E H I h l am x C Y w'→an Y w')(hM:∀Y w',Met an Y w'→t Y w'):
  Code.wp Zc ((Tryz.f201.body.bind (La 0)).getD .skip) (Exit.then t (fun _ _ _=>False)) ⟨[.pointer (some ⟨S,0,none⟩),.pointer (some ⟨V,0,none⟩),aC,aD,aE,aF,aG,aH,aI].toArray,[]⟩ C:=by
 obtain⟨aM,aJ,aL,aN⟩:=Y4 ad au aj ay;clear ad au aj ay
 conv=>arg 2;whnf
 (try dsimp only);refine Fv (by kernel_rfl) (by kernel_rfl) (IY1 p ab V S E H I h l am x C) ?_ ?_ ?_
 ·exact⟨none,0,0,0,0,aC,aD,aE,aF,aG,aH,aI,⟨(fun d=>by cases d),(fun d=>by cases d),(fun d=>by cases d),(fun d=>by cases d),(fun d=>by cases d),(fun d=>by cases d),(fun d=>by cases d),(fun d=>by cases d),(fun d=>by cases d),(fun d=>by cases d),(fun d=>by cases d),(fun d=>by cases d),(fun d=>by cases d),(fun d=>by cases d),(fun d=>by cases d),(fun d=>by cases d),(fun d=>by cases d),((AFr.refl p S E C).old (Zf _ _).drew),(fun _=>aM.o.old (Zf _ _).drew),(fun d=>by cases d),(aJ.o.old (Zf _ _).drew),(fun _=>aL.o.old (Zf _ _).drew),(fun d=>by cases d),(fun _=>aN.o.old (Zf _ _).drew),(fun d=>fun _=>by cases d),(fun d=>fun _=>by cases d),(fun d=>by cases d),(fun d=>fun _=>by cases d),(fun d=>by cases d),(fun d=>by cases d),(fun d=>by cases d)⟩,rfl⟩
 ·intro L aO D k ah ai j v
  obtain⟨A,sc,r,m,q,T,J,K,M,N,U,O,a,rfl⟩:=ah;have ai:k=0∨k=1∨k=2∨k=3∨k=4∨k=5∨k=6∨k=7∨k=8:=by
   have:k<9:=ai;omega
  rcases ai with rfl|rfl|rfl|rfl|rfl|rfl|rfl|rfl|rfl
  ·have z:L 5=false:=by
    cases e:L 5 with
    |false=>rfl
    |true=>have:=a.p5_0 e;rw[j]at this;cases this
   have R:L 8=false:=by
    cases e:L 8 with
    |false=>rfl
    |true=>have:=a.p8_5 e;rw[z]at this;cases this
   have aj:=(a.oa R).at 0 _ rfl;refine Bh rfl rfl (fun t F=>?_)
   conv=>arg 2;whnf
   go_wp2;exact⟨A,sc,r,m,q,ρ H h I,J,K,M,N,U,O,⟨(fun _=>Bo L 0),kq a.p5_2,kq a.p5_4,kq a.p6_5,kq a.p7_2,kq a.p7_4,kq a.p7_5,kq a.p8_2,kq a.p8_4,kq a.p8_5,(fun _=>rfl),kc a.c1,kc a.c2,kc a.c3,kc a.c4,kc a.c5,kc a.c6,a.fr,(fun f=>a.pa (kb f)),kc a.pb,a.c,(fun f=>a.oa (kb f)),kc a.ob,(fun f=>a.ra (kb f)),(fun f=>fun g=>a.g4 (kb f) (kb g)),(fun f=>fun g=>a.xa (kb f) (kb g)),kc a.xn,(fun f=>fun g=>a.rb (kb f) (kb g)),kc a.xb,kc a.rc,kc a.gb⟩,rfl⟩
  ·have bn:=a.c.at 0 _ rfl
   refine Bh rfl rfl (fun t F=>?_)
   conv=>arg 2;whnf
   go_wp2;exact⟨A,sc,r,m,q,T,π p,K,M,N,U,O,⟨kq a.p5_0,kq a.p5_2,kq a.p5_4,kq a.p6_5,kq a.p7_2,kq a.p7_4,kq a.p7_5,kq a.p8_2,kq a.p8_4,kq a.p8_5,kc a.c0,(fun _=>rfl),kc a.c2,kc a.c3,kc a.c4,kc a.c5,kc a.c6,a.fr,(fun f=>a.pa (kb f)),kc a.pb,a.c,(fun f=>a.oa (kb f)),kc a.ob,(fun f=>a.ra (kb f)),(fun f=>fun g=>a.g4 (kb f) (kb g)),(fun f=>fun g=>a.xa (kb f) (kb g)),kc a.xn,(fun f=>fun g=>a.rb (kb f) (kb g)),kc a.xb,kc a.rc,kc a.gb⟩,rfl⟩
  ·have aP:L 1=true:=v _ rfl ⟨1,.data⟩ (by simp) rfl
   obtain rfl:=(a.c1 aP).symm;have z:L 5=false:=by
    cases e:L 5 with
    |false=>rfl
    |true=>have:=a.p5_2 e;rw[j]at this;cases this
   have R:L 8=false:=by
    cases e:L 8 with
    |false=>rfl
    |true=>have:=a.p8_5 e;rw[z]at this;cases this
   have al:L 7=false:=by
    cases e:L 7 with
    |false=>rfl
    |true=>have:=a.p7_5 e;rw[z]at this;cases this
   have ad:=a.pa j;refine Bh rfl rfl (fun t F=>?_)
   conv=>arg 2;whnf
   go_wp2_with fail;refine(aK.o _ ad).mono ?_;rintro e bt ⟨bs,rfl,Z,aY,az,aX⟩;obtain⟨ao,ap,rfl⟩:=az.shape;go_wp2;exact⟨ao,ap,r,m,q,T,π p,exV x (.slice (ao) x.args.length (ap)),M,N,U,O,⟨kq a.p5_0,(fun _=>Bo L 2),kq a.p5_4,kq a.p6_5,(fun _=>Bo L 2),kq a.p7_4,kq a.p7_5,(fun _=>Bo L 2),kq a.p8_4,kq a.p8_5,kc a.c0,kc a.c1,(fun _=>rfl),kc a.c3,kc a.c4,kc a.c5,kc a.c6,(a.fr.trans (AFr.of_sfr Z)),(ks),(fun _=>aY),(a.c.sfr Z (by omega)),(fun _=>(a.oa R).sfr Z (by omega)),(fun d=>by rw[Ay L (by decide)]at d;rw[R]at d;cases d),(fun _=>(a.ra z).sfrB Z (by omega)),(fun g W=>⟨Ad.sfr (a.g4 (kb g) (kb W)).1 Z (by have:=(a.g4 (kb g) (kb W)).2.1;omega),(a.g4 (kb g) (kb W)).2⟩),(fun _ _=>az.mono (fun b Q=>by have g:D.heap.size≤b:=Q;have W:=a.fr.size;exact⟨by omega,fun e=>by have:=(World.ownsRow.lt (a.ra z).1 _ e).2;omega⟩)),(fun _=>aX),(fun d _=>by rw[Ay L (by decide)]at d;rw[z]at d;cases d),(fun d=>by rw[Ay L (by decide)]at d;rw[z]at d;cases d),(fun d=>by rw[Ay L (by decide)]at d;rw[al]at d;cases d),(fun d=>by rw[Ay L (by decide)]at d;rw[z]at d;cases d)⟩,rfl⟩
  ·have ac:L 0=true:=v _ rfl ⟨0,.data⟩ (by simp) rfl
   obtain rfl:=(a.c0 ac).symm;refine Bh rfl rfl (fun t F=>?_)
   conv=>arg 2;whnf
   go_wp2;exact⟨A,sc,r,m,q,ρ H h I,J,K,ι h.length,N,U,O,⟨kq a.p5_0,kq a.p5_2,kq a.p5_4,kq a.p6_5,kq a.p7_2,kq a.p7_4,kq a.p7_5,kq a.p8_2,kq a.p8_4,kq a.p8_5,kc a.c0,kc a.c1,kc a.c2,(fun _=>rfl),kc a.c4,kc a.c5,kc a.c6,a.fr,(fun f=>a.pa (kb f)),kc a.pb,a.c,(fun f=>a.oa (kb f)),kc a.ob,(fun f=>a.ra (kb f)),(fun f=>fun g=>a.g4 (kb f) (kb g)),(fun f=>fun g=>a.xa (kb f) (kb g)),kc a.xn,(fun f=>fun g=>a.rb (kb f) (kb g)),kc a.xb,kc a.rc,kc a.gb⟩,rfl⟩
  ·have P:Zx D.heap.size D (D.alloc (ζ)):=bA
   have av:=a.fr.size;have z:L 5=false:=by
    cases e:L 5 with
    |false=>rfl
    |true=>have:=a.p5_4 e;rw[j]at this;cases this
   refine Bh rfl rfl (fun t F=>?_)
   conv=>arg 2;whnf
   go_wp2;exact⟨A,sc,D.heap.size,m,q,T,J,K,M,.slice (some ⟨(D.heap.size),0,none⟩) 1 1,U,O,⟨kq a.p5_0,kq a.p5_2,(fun _=>Bo L 4),kq a.p6_5,kq a.p7_2,(fun _=>Bo L 4),kq a.p7_5,kq a.p8_2,(fun _=>Bo L 4),kq a.p8_5,kc a.c0,kc a.c1,kc a.c2,kc a.c3,(fun _=>rfl),kc a.c5,kc a.c6,(AFr.old (a.fr) P),(fun f=>Ps.old (a.pa (kb f)) P),(fun f=>Ps.old (a.pb (kb f)) P),(Zl (a.c) P),(fun f=>Zl (a.oa (kb f)) P),(kn a.p8_4 j),(fun f=>Br.old (a.ra (kb f)) P),(fun _ _=>⟨Zd D (Ba exZ (ν)) 35,by omega,fun e=>by have:=(World.ownsRow.lt (a.ra z).1 _ e).2;omega⟩),(fun f=>fun g=>Ag.old P (a.xa (kb f) (kb g))),(fun f=>(a.xn (kb f))),(kn a.p5_4 j),(kn a.p5_4 j),(kn a.p7_4 j),(kn a.p5_4 j)⟩,rfl⟩
  ·have ac:L 0=true:=v _ rfl ⟨0,.data⟩ (by simp) rfl
   obtain rfl:=(a.c0 ac).symm;have u:L 2=true:=v _ rfl ⟨2,.chain⟩ (by simp) rfl;have af:L 4=true:=v _ rfl ⟨4,.data⟩ (by simp) rfl;obtain rfl:=(a.c4 af).symm;have R:L 8=false:=by
    cases e:L 8 with
    |false=>rfl
    |true=>have:=a.p8_5 e;rw[j]at this;cases this
   have al:L 7=false:=by
    cases e:L 7 with
    |false=>rfl
    |true=>have:=a.p7_5 e;rw[j]at this;cases this
   have aT:=a.g4 af j;have X:=a.ra j;have ba:=a.xa u j;have av:=a.fr.size;refine Bh rfl rfl (fun t F=>?_)
   conv=>arg 2;whnf
   refine pY D _ _ rfl E h (ρ H h I) rfl X r 1 rfl aT.1 aW (Zi aS av) ?_;intro ag aq w2 aZ aa ar aV;have aU:E≤ag:=by
    rcases ar with e|e
    ·exact X.rowGe _ e
    ·omega
   go_wp2;exact⟨A,sc,r,ag,aq,ρ H h I,J,K,M,κ r 1 1,.slice (some ⟨(ag),0,none⟩) (h.length+1) (aq),O,⟨(kd (ac)),(kd (u)),(kd (af)),(fun _=>Bo L 5),kq a.p7_2,kq a.p7_4,(fun _=>Bo L 5),kq a.p8_2,kq a.p8_4,(fun _=>Bo L 5),kc a.c0,kc a.c1,kc a.c2,kc a.c3,kc a.c4,(fun _=>rfl),(kn a.p6_5 j),(a.fr.grown aa X.rowGe),(fun d=>by rw[Ay L (by decide)]at d;rw[u]at d;cases d),(fun _=>(a.pb u).grown aa X.rowGe (by omega)),(a.c.grew aa (fun e=>by have:=X.rowGe _ e;omega)),(fun _=>(a.oa R).grew aa (fun e=>by have:=X.rowGe _ e;omega)),(fun d=>by rw[Ay L (by decide)]at d;rw[R]at d;cases d),(ks),(fun _=>ks),(fun _=>ks),(fun _=>a.xn u),(fun _ _=>aZ),(fun _=>by have g:=ba.strong.keep (w':=w2) (fun b br y Q bb=>aa.cell bb (fun e=>Q.1.2 e.symm));exact g.mono (fun b Q=>⟨Q.1.1,by rintro rfl;rcases ar with e|e;exact Q.1.2 e;have:=Q.2;omega⟩)),(fun d=>by rw[Ay L (by decide)]at d;rw[al]at d;cases d),(fun _=>⟨aU,aV⟩)⟩,rfl⟩
  ·have aQ:L 3=true:=v _ rfl ⟨3,.data⟩ (by simp) rfl
   obtain rfl:=(a.c3 aQ).symm;have i:L 5=true:=v _ rfl ⟨5,.data⟩ (by simp) rfl;obtain rfl:=(a.c5 i).symm;have G:=a.gb i;refine Bh rfl rfl (fun t F=>?_)
   conv=>arg 2;whnf
   go_wp2;exact⟨A,sc,r,m,q,T,J,K,ι h.length,N,.slice (some ⟨m,0,none⟩) (h.length+1) q,.pointer (some ⟨m,h.length*5,none⟩),⟨kq a.p5_0,kq a.p5_2,kq a.p5_4,(kd (i)),kq a.p7_2,kq a.p7_4,kq a.p7_5,kq a.p8_2,kq a.p8_4,kq a.p8_5,kc a.c0,kc a.c1,kc a.c2,kc a.c3,kc a.c4,kc a.c5,(fun _=>rfl),a.fr,(fun f=>a.pa (kb f)),kc a.pb,a.c,(fun f=>a.oa (kb f)),kc a.ob,(fun f=>a.ra (kb f)),(fun f=>fun g=>a.g4 (kb f) (kb g)),(fun f=>fun g=>a.xa (kb f) (kb g)),kc a.xn,(fun f=>fun g=>a.rb (kb f) (kb g)),kc a.xb,kc a.rc,kc a.gb⟩,rfl⟩
  ·have u:L 2=true:=v _ rfl ⟨2,.data⟩ (by simp) rfl
   obtain rfl:=(a.c2 u).symm;have i:L 5=true:=v _ rfl ⟨5,.chain⟩ (by simp) rfl;have aR:L 6=true:=v _ rfl ⟨6,.data⟩ (by simp) rfl;obtain rfl:=(a.c6 aR).symm;have ax:=a.rb i j;have aA:=a.xb i;have aB:=a.xn u;have G:=a.gb i;have aw:(h++[(exZ,Value.slice none 0 0)]).length=h.length+1:=by simp
   have w:=ax.1;rw[aw]at w;have bc:=w.cellAt (h.length*5) (by omega);have bd:=w.cellAt (h.length*5+1) (by omega);have be:=w.cellAt (h.length*5+2) (by omega);have bf:=w.cellAt (h.length*5+3) (by omega);have bg:=w.cellAt (h.length*5+4) (by omega);rw[Zo (by rw[Qc,aw];omega)]at bc bd be bf bg;have bh:=w.frozenAt (h.length*5);have bi:=w.frozenAt (h.length*5+1);have bj:=w.frozenAt (h.length*5+2);have bk:=w.frozenAt (h.length*5+3);have bl:=w.frozenAt (h.length*5+4);refine Bh rfl rfl (fun t F=>?_)
   conv=>arg 2;whnf
   go_wp2;exact⟨A,sc,r,m,q,T,J,exV x (ρ A x.args sc),M,N,U,.pointer (some ⟨m,h.length*5,none⟩),⟨kq a.p5_0,kq a.p5_2,kq a.p5_4,kq a.p6_5,(kd (u)),(kd (a.p5_4 i)),(kd (i)),kq a.p8_2,kq a.p8_4,kq a.p8_5,kc a.c0,kc a.c1,kc a.c2,kc a.c3,kc a.c4,kc a.c5,kc a.c6,(((((a.fr.high G.1 _ _).high G.1 _ _).high G.1 _ _).high G.1 _ _).high G.1 _ _),(fun d=>by rw[Ay L (by decide)]at d;rw[u]at d;cases d),(fun _=>((((((a.pb u).other (by omega) _ _).other (by omega) _ _).other (by omega) _ _).other (by omega) _ _).other (by omega) _ _)),(((((a.c.other (by omega) _ _).other (by omega) _ _).other (by omega) _ _).other (by omega) _ _).other (by omega) _ _),(fun d=>((((((a.oa (kb d)).other (by omega) _ _).other (by omega) _ _).other (by omega) _ _).other (by omega) _ _).other (by omega) _ _)),(fun d=>((((((a.ob (kb d)).other (by omega) _ _).other (by omega) _ _).other (by omega) _ _).other (by omega) _ _).other (by omega) _ _)),(fun d=>by rw[Ay L (by decide)]at d;rw[i]at d;cases d),(fun _ d=>by rw[Ay L (by decide)]at d;rw[i]at d;cases d),(fun _ d=>by rw[Ay L (by decide)]at d;rw[i]at d;cases d),(fun _=>aB),(fun _=>ks),(fun _=>((((aA.keep (Al _ (fun e=>e.2 rfl) _ _)).keep (Al _ (fun e=>e.2 rfl) _ _)).keep (Al _ (fun e=>e.2 rfl) _ _)).keep (Al _ (fun e=>e.2 rfl) _ _)).keep (Al _ (fun e=>e.2 rfl) _ _)),(fun _=>ax.setLast aA aB),(fun _=>by simpa [World.setCell]using G)⟩,rfl⟩
  ·have i:L 5=true:=v _ rfl ⟨5,.data⟩ (by simp) rfl
   obtain rfl:=(a.c5 i).symm;have hx:=a.oa j;have bu:=hx.at 0 _ rfl;have bm:=hx.fz 0;have bq:=hx.lt;have G:=a.gb i;refine Bh rfl rfl (fun t F=>?_)
   conv=>arg 2;whnf
   go_wp2;exact⟨A,sc,r,m,q,T,J,K,M,N,.slice (some ⟨m,0,none⟩) (h.length+1) q,O,⟨kq a.p5_0,kq a.p5_2,kq a.p5_4,kq a.p6_5,kq a.p7_2,kq a.p7_4,kq a.p7_5,(kd (a.p5_2 i)),(kd (a.p5_4 i)),(kd (i)),kc a.c0,kc a.c1,kc a.c2,kc a.c3,kc a.c4,kc a.c5,kc a.c6,(a.fr.set _ _),(fun d=>(a.pa (kb d)).other (by omega) _ _),(fun d=>(a.pb (kb d)).other (by omega) _ _),(a.c.other (by omega) _ _),(ks),(fun _=>hx.set 0 (.slice (some ⟨m,0,none⟩) (h.length+1) q)),(fun d=>(a.ra (kb d)).low ak _ _),(fun _ d=>by rw[Ay L (by decide)]at d;rw[i]at d;cases d),(fun _ d=>by rw[Ay L (by decide)]at d;rw[i]at d;cases d),(fun d=>a.xn (kb d)),(fun g W=>(a.rb (kb g) (kb W)).low ak _ _),(fun d=>(a.xb (kb d)).keep (Al _ (fun e=>by have:=e.1;omega) _ _)),(fun d=>(a.rc (kb d)).low ak _ _),(fun d=>by simpa [World.setCell]using a.gb (kb d))⟩,rfl⟩
 ·intro L aO D ah B
  obtain⟨A,sc,r,m,q,T,J,K,M,N,U,O,a,rfl⟩:=ah;obtain rfl:=(a.c0 (B 0 (by decide))).symm;obtain rfl:=(a.c1 (B 1 (by decide))).symm;obtain rfl:=(a.c2 (B 2 (by decide))).symm;obtain rfl:=(a.c3 (B 3 (by decide))).symm;obtain rfl:=(a.c4 (B 4 (by decide))).symm;obtain rfl:=(a.c5 (B 5 (by decide))).symm;obtain rfl:=(a.c6 (B 6 (by decide))).symm;exact hM _ _ (Met.intro (hJ _ _ ⟨A,sc,r,m,q,⟨a.fr,a.pb (B 2 (by decide)),a.c,a.ob (B 8 (by decide)),a.rc (B 7 (by decide))⟩,rfl⟩))
structure If (W:Zw)(p tb cb ob base:Nat)(va:Option Zz)(vc:Nat)(ps:List (Ex ×Value))(l:List Tk)(wx:Zw):Prop where
 fr:AFr p ob base W wx
 par:Ps wx p tb l
 c:Ad wx cb [.pointer (some ⟨p,0,none⟩)] 79
 o:Ad wx ob [.slice va ps.length vc] 33
 row:Br wx base ps (.slice va ps.length vc)
 len:ps.length+l.length≤1000000
structure Oz (p cb ob base:Nat)(W:Zw):Prop where
 pc:p<cb
 co:cb<ob
 ob:ob<base
 bs:base≤W.heap.size
theorem If.old {e:Zw}{p j g h f:Nat}{k:Option Zz}{m:Nat}{i:List (Ex ×Value)}{l:List Tk}{d w':Zw}(a:If e p j g h f k m i l d)(b:Zx d.heap.size d w'):If e p j g h f k m i l w':=
 ⟨a.fr.old b,a.par.old b,a.c.old b,a.o.old b,a.row.old b,a.len⟩
theorem If.next {e:Zw}{p j g h f:Nat}{m:Option Zz}{n:Nat}{k:List (Ex ×Value)}{l i:List Tk}{q w':Zw}(b:If e p j g h f m n k l q)(a:Oz p g h f e)(d:SFr p q w')(r:Ps w' p j i)(s:i.length≤l.length):If e p j g h f m n k i w':=
 ⟨b.fr.trans (AFr.of_sfr d),r,b.c.sfr d (by have:=a.pc;omega),b.o.sfr d (by have:=a.pc;have:=a.co;omega),b.row.sfrB d (by have:=a.pc;have:=a.co;have:=a.ob;omega),by have:=b.len;omega⟩
theorem xE(f:Nat)(A:Ol f)(t r:Zw)(p n d h b:Nat)(F:Option Zz)(G:Nat)(i:List (Ex ×Value))(l k:List Tk)(x:Ex)(g:Oz p d h b t)(a:If t p n d h b F G i l r)(B:4*l.length+2≤f)(hx:Bk f 1 l=.ok (x,k)):
  Zy Zc 201 #[.pointer (some ⟨h,0,none⟩),.pointer (some ⟨d,0,none⟩)] r fun e w'=>e=.returned (.tuple #[])∧∃m sc w u,If t p n d h b (some ⟨w,0,none⟩) u (i++[(x,.slice m x.args.length sc)]) k w':=by
 have E:b≤r.heap.size:=Zi g.bs a.fr.size;have C:k.length<l.length:=(Cw f).1 _ _ _ _ hx;have R:=reg_Y1 p n d h b F G i l k x r a.par a.c a.o a.row g.pc g.co g.ob E (by have:=a.len;omega) (fun S y=>by
  have j:=A l S p n B y;rw[hx]at j;refine j.mono ?_;rintro e w' ⟨N,v,rfl,P,s,rfl,Q,O⟩;exact⟨s,rfl,N,P,Q,O⟩) Yb Yb Yb Yb Yb Yb Yb (fun _ _ q=>q) (fun _ _ q=>q)
 obtain⟨H,J,I⟩:=Y3 a.fr a.len C;clear a A B hx E C g;go_enter func201,ntmps201;refine wp_mono R ?_;intro e T w' D
 cases e with
 |normal=>
  obtain⟨m,sc,U,w,u,⟨y,j,K,L,M⟩,rfl⟩:=D;have z:(i++[(x,Value.slice m x.args.length sc)]).length=i.length+1:=by simp
  refine bodyPost_end (v:=.tuple #[]) (by simp [results,results201,go_sem]) rfl ⟨rfl,m,sc,w,u,H.o.trans y,j,K,?_,?_,?_⟩
  ·rw[z];exact L
  ·rw[z];exact M
  ·rw[z];have:=J.o;have:=I.o;omega
 |_=>exact False.elim D
structure ErrI (W:Zw)(p tb cb ob base:Nat)(va:Option Zz)(vc:Nat)(ps:List (Ex ×Value))(l:List Tk)(L:Nat→Bool)(z2 z3:Value)(wx:Zw):Prop where
 at0:If W p tb cb ob base va vc ps l wx
 l2:L 2=false
 l5:L 5=false
 c0:L 0=true→z2=.slice va ps.length vc
 c1:L 1=true→z3=.pointer (some ⟨p,0,none⟩)
theorem qN(f:Nat)(N:Ol f)(B b:Zw)(p E u q C:Nat)(F:Option Zz)(G:Nat)(y:List (Ex ×Value))(l:List Tk)(n:Int)(O:Oz p u q C B)(m:If B p E u q C F G y l b)(J:4*l.length+2≤f)(hx:Bk f 1 l=.error n):
  Zy Zc 201 #[.pointer (some ⟨q,0,none⟩),.pointer (some ⟨u,0,none⟩)] b fun e w'=>e=Bv n∧AFr p q C B w':=by
 have Q:Zv (∀z,Ps z p E l→Zy Zc 33 #[π p] z fun e w'=>e=Bv n∧SFr p z w'):=fun z X=>by
  have M:=N l z p E J X;rw[hx]at M;refine M.mono ?_;rintro e w' ⟨D,rfl⟩;exact⟨rfl,D⟩
 obtain⟨aa,P⟩:=Y2 O m;clear N J hx O m;go_enter func201,ntmps201;refine Fv (by kernel_rfl) (by kernel_rfl) (fun L S w'=> ∃r g h s t i j:Value,ErrI B p E u q C F G y l L r g w'∧S=⟨[π q,π u,r,g,h,s,t,i,j].toArray,[]⟩) ?_ ?_ ?_
 ·exact⟨Yb,Yb,Yb,Yb,Yb,Yb,Yb,⟨P.o.old (Zf _ _).drew,rfl,rfl,(fun m=>by cases m),(fun m=>by cases m)⟩,rfl⟩
 ·intro L T b k H I J d
  obtain⟨r,g,h,s,t,i,j,a,rfl⟩:=H;have I:k=0∨k=1∨k=2∨k=3∨k=4∨k=5∨k=6∨k=7∨k=8:=by
   have:k<9:=I;omega
  rcases I with rfl|rfl|rfl|rfl|rfl|rfl|rfl|rfl|rfl
  ·have W:=a.at0.o.at 0 _ rfl
   refine Bh rfl rfl (fun A x=>?_)
   conv=>arg 2;whnf
   go_wp2;exact⟨.slice F y.length G,g,h,s,t,i,j,⟨a.at0,(Ay L (by decide)).trans a.l2,(Ay L (by decide)).trans a.l5,(fun _=>rfl),kc a.c1⟩,rfl⟩
  ·have W:=a.at0.c.at 0 _ rfl
   refine Bh rfl rfl (fun A x=>?_)
   conv=>arg 2;whnf
   go_wp2;exact⟨r,π p,h,s,t,i,j,⟨a.at0,(Ay L (by decide)).trans a.l2,(Ay L (by decide)).trans a.l5,kc a.c0,(fun _=>rfl)⟩,rfl⟩
  ·have V:L 1=true:=d _ rfl ⟨1,.data⟩ (by simp) rfl
   obtain rfl:=(a.c1 V).symm;have K:=Za a.at0;clear a d;refine Bh rfl rfl (fun A x=>?_);clear x
   conv=>arg 2;whnf
   go_wp2_with fail;refine(Q.o _ K.o.par).mono ?_;rintro e ab ⟨rfl,D⟩;unfold Bv;have R:=Za (K.o.fr.trans (AFr.of_sfr D));clear D;go_wp2;exact⟨rfl,rfl,R.o⟩
  ·have U:L 0=true:=d _ rfl ⟨0,.data⟩ (by simp) rfl
   obtain rfl:=(a.c0 U).symm;refine Bh rfl rfl (fun A x=>?_)
   conv=>arg 2;whnf
   go_wp2;exact⟨.slice F y.length G,g,h,ι y.length,t,i,j,⟨a.at0,(Ay L (by decide)).trans a.l2,(Ay L (by decide)).trans a.l5,kc a.c0,kc a.c1⟩,rfl⟩
  ·have Y:Zx b.heap.size b (b.alloc (ζ)):=bA
   refine Bh rfl rfl (fun A x=>?_)
   conv=>arg 2;whnf
   go_wp2;exact⟨r,g,h,s,κ b.heap.size 1 1,i,j,⟨a.at0.old Y,(Ay L (by decide)).trans a.l2,(Ay L (by decide)).trans a.l5,kc a.c0,kc a.c1⟩,rfl⟩
  ·have v:L 2=true:=d _ rfl ⟨2,.chain⟩ (by simp) rfl
   rw[a.l2]at v;cases v
  ·have w:L 5=true:=d _ rfl ⟨5,.data⟩ (by simp) rfl
   rw[a.l5]at w;cases w
  ·have v:L 2=true:=d _ rfl ⟨2,.data⟩ (by simp) rfl
   rw[a.l2]at v;cases v
  ·have w:L 5=true:=d _ rfl ⟨5,.data⟩ (by simp) rfl
   rw[a.l5]at w;cases w
 ·intro L T b H Z
  obtain⟨r,g,h,s,t,i,j,a,rfl⟩:=H;have:=Z 2 (by decide);rw[a.l2]at this;cases this
def mJ(g:Nat)(a:List Ex)(l:List Tk):PR (List Ex):=match Bi [44] l with
 |some r=>Lo g a r
 |none=>match An [41] l with
  |.error e=>.error e
  |.ok r=>.ok (a,r)
theorem aV {g:Nat}{a:List Ex}{l b:List Tk}{x:Ex}(c:Bk g 1 l=.ok (x,b)):Lo (g+1) a l=mJ g (a++[x]) b:=by
 rw[Lo,c];rfl
theorem eZ {g:Nat}{a:List Ex}{l:List Tk}{n:Int}(b:Bk g 1 l=.error n):Lo (g+1) a l=.error n:=by
 rw[Lo,b]
def cV(b:Zw)(p i h d c:Nat)(g:PR (List Ex))(e:Ending)(w':Zw):Prop:=
 match g with
 |.ok (a,r)=>e=.returned (.tuple #[])∧∃j k f,f.map (·.1)=a∧If b p i h d c j k f r w'
 |.error n=>e=Bv n∧AFr p d c b w'
def qC(b a:Nat):Value:=.func (.func 201) #[] #[.pointer (some ⟨b,0,none⟩),.pointer (some ⟨a,0,none⟩)]
theorem fV(f:Nat)(w:Zw)(p h:Nat){b c d:Nat}(t:Tk)(a:List Tk)(k:Oz p b c d w)(g:If w p h b c d none 0 [] (t::a) w)(y:isP [41] t=true):
  Zy Zc 105 #[.pointer (some ⟨p,0,none⟩),qC c b] w (cV w p h b c d (In (f+1) (t::a))):=by
 have i:In (f+1) (t::a)=.ok ([],a):=by rw[In,Bt y]
 rw[i];obtain⟨r,m,q⟩:=Y3 (Bz p h t a [41] w g.par y) g k;clear i y g k;unfold qC;go_enter func105,ntmps105;go_wp2_with fail;refine r.o.mono ?_;rintro e s ⟨rfl,j,l⟩;have n:=Za (m.o.next q.o j l (by simp));clear j l;go_wp2_with fail
 first
  |(refine Ya (results_none rfl _ _ _) rfl ?_)
  |go_end0
 exact⟨rfl,none,0,[],rfl,n.o⟩
structure sL (w:Zw)(p tb cb ob base:Nat)(f:Nat)(R:PR (List Ex))(g:Nat)(va:Option Zz)(vc:Nat)(ps:List (Ex ×Value))(l:List Tk)(wr:Zw):Prop where
 arg:If w p tb cb ob base va vc ps l wr
 le:g≤f
 fuel:4*l.length+2≤g
 res:mJ g (ps.map (·.1)) l=R
theorem dG(f:Nat)(aj:∀g,g≤f→Ol g)(w:Zw)(p i:Nat){h c r:Nat}(t:Tk)(k:List Tk)(ai:Oz p h c r w)(T:If w p i h c r none 0 [] (t::k) w)(I:4*(t::k).length+4≤f+1)(n:isP [41] t=false):
  Zy Zc 105 #[.pointer (some ⟨p,0,none⟩),qC c h] w (cV w p i h c r (In (f+1) (t::k))):=by
 have ad:In (f+1) (t::k)=Lo f [] (t::k):=by rw[In,Ah n]
 rw[ad];obtain⟨g,rfl⟩:∃g,f=g+1:=⟨f-1,by omega⟩;obtain⟨D,U⟩:∃D,Lo (g+1) [] (t::k)=D:=⟨_,rfl⟩;rw[U];obtain⟨ab,ao,al,L,P,ac⟩:=Y6 U (Aq p i t k [41] w T.par n) T ai I aj;clear ad n T ai U I aj;unfold qC;go_enter func105,ntmps105;go_wp2_with fail;refine ao.o.mono ?_;rintro e ak ⟨rfl,H⟩;have Y:=Za (al.o.old H);clear H;have M:Zv (∀a,a≤g+1→∀(s:Option Zz) (v:Nat) (d:List (Ex ×Value)) (l:List Tk) (F:Zw),If w p i h c r s v d l F→4*l.length+2≤a→(∀n,Bk a 1 l=.error n→Zy Zc 201 #[π c,π h] F fun e w'=>e=Bv n∧AFr p c r w w')∧
   (∀x q,Bk a 1 l=.ok (x,q)→Zy Zc 201 #[π c,π h] F fun e w'=>e=.returned (.tuple #[])∧∃W sc S R,If w p i h c r (some ⟨S,0,none⟩) R (d++[(x,ρ W x.args sc)]) q w')):=
  fun a ag s v d l F A I=>⟨fun n hx=>qN a (ac.out a ag) w F p i h c r s v d l n L.o A I hx,fun x q hx=>xE a (ac.out a ag) w F p i h c r s v d l q x L.o A I hx⟩
 go_wp2_with fail
 cases hc:Bk g 1 (t::k)with
 |error n=>
  have B:=(M.o g (by omega) none 0 [] (t::k) ak Y.o (by have:=P.o;omega)).1 n hc;have E:=ab.o;rw[eZ hc]at E;subst E;clear hc;refine B.mono ?_;rintro e w2 ⟨rfl,b⟩;have G:=Za b;clear b;unfold Bv;go_wp2;exact⟨rfl,rfl,G.o⟩
 |ok q=>
  obtain⟨x,q⟩:=q;have B:=(M.o g (by omega) none 0 [] (t::k) ak Y.o (by have:=P.o;omega)).2 x q hc;have E:=ab.o;rw[aV hc]at E;have V:=(Cw g).1 _ _ _ _ hc;refine B.mono ?_;rintro e w2 ⟨rfl,W,sc,S,R,A⟩;have Z:Zv (sL w p i h c r (g+1) D g (some ⟨S,0,none⟩) R [(x,ρ W x.args sc)] q w2):=⟨A,by omega,by have:=P.o;omega,E⟩;clear A hc V E;go_wp2
  go_loopw [] (fun wr=> ∃(a:Nat) (s:Option Zz) (v:Nat) (d:List (Ex ×Value)) (l:List Tk),Zv (sL w p i h c r (g+1) D a s v d l wr)) (fun wr=>Dz p wr)
  case atStart=>exact⟨g,_,_,_,q,Z⟩
  case round=>
   obtain⟨a,s,v,d,l,m⟩:=hrel;clear Z;obtain⟨u,l,rfl⟩:=m.o.arg.par.ends.ne
   cases hu:isP [44] u with
   |true=>
    have Q:=Za (Bz p i u l [44] wr m.o.arg.par hu);have j:Lo a (d.map (·.1)) l=D:=by
     have:=m.o.res;unfold mJ at this;rw[Bt hu]at this;exact this
    clear hu;go_wp2_with fail;refine Q.o.mono ?_;rintro e C ⟨rfl,b,J⟩;have K:=Za (m.o.arg.next L.o b J (by simp));clear b J;obtain⟨z,au⟩:∃z,a=z+1:=⟨a-1,by have:=m.o.fuel;omega⟩;subst au;have af:=m.o.fuel;rw[Ze]at af;have av:=m.o.le;go_wp2_with fail
    cases hc:Bk z 1 l with
    |error n=>
     have B:=(M.o z (by omega) s v d l C K.o (by omega)).1 n hc;rw[eZ hc]at j;subst j;clear hc;refine B.mono ?_;rintro e X ⟨rfl,b⟩;have G:=Za b;clear b;unfold Bv;go_wp2;exact⟨rfl,rfl,G.o⟩
    |ok q2=>
     obtain⟨y,q2⟩:=q2;have B:=(M.o z (by omega) s v d l C K.o (by omega)).2 y q2 hc;rw[aV hc]at j;have V:=(Cw z).1 _ _ _ _ hc;refine B.mono ?_;rintro e X ⟨rfl,aw,ax,ar,aq,A⟩;have aa:Zv (sL w p i h c r (g+1) D z (some ⟨ar,0,none⟩) aq (d++[(y,ρ aw y.args ax)]) q2 X):=⟨A,by omega,by omega,by rw[List.map_append];exact j⟩;have ah:Dz p X<Dz p wr:=by
      rw[aa.o.arg.par.len,m.o.arg.par.len,Ze];omega
     have an:=Za ah;clear A hc V j ah af av B;go_wp2;go_roundw
     case rel=>exact⟨z,_,_,_,q2,aa⟩
     case measure=>exact an.o
   |false=>
    have Q:=Za (Aq p i u l [44] wr m.o.arg.par hu);have j:(match An [41] (u::l)with|.error e=>.error e|.ok k=>.ok (d.map (·.1),k))=D:=by
     have:=m.o.res;unfold mJ at this;rw[Ah hu]at this;exact this
    clear hu;go_wp2_with fail;refine Q.o.mono ?_;rintro e C ⟨rfl,H⟩;have K:=Za (m.o.arg.old H);have ae:Zx C.heap.size C (C.alloc (.cells #[.string ⟨#[41]⟩] 9)):=bA;have O:=Za (K.o.old ae);have ap:=Za (Dn p i (u::l) [41] O.o.par C.heap.size 1 ((Zd C [.string ⟨#[41]⟩] 9).at 0 _ rfl));clear H ae;go_wp2_with fail;refine ap.o.mono ?_;intro e ay N
    cases hw:An [41] (u::l)with
    |error n=>
     rw[hw]at N j;obtain⟨b,rfl⟩:=N;have G:=Za (O.o.fr.trans (AFr.of_sfr b));dsimp only at j;subst j;clear b hw;unfold Bv;go_wp2;exact⟨rfl,rfl,G.o⟩
    |ok q3=>
     rw[hw]at N j;obtain⟨b,rfl,J⟩:=N;have am:=Za (O.o.next L.o b J (Nat.le_of_lt (Bp hw)));dsimp only at j;subst j;clear b hw J;go_wp2_with fail
     first
      |go_end0
      |(refine Ya (results_none rfl _ _ _) rfl ?_)
     exact⟨rfl,s,v,d,rfl,am.o⟩
theorem qR(f:Nat)(W:∀g,g≤f→Ol g):gS (f+1):=by
 intro l w p s V h;have ae:∀(M:Fn) (first cap:Array Value) (w:Zw),(Instr.makeFunc M first cap).run Zc w=.ok (.func M first cap) w:=fun _ _ _ _=>rfl
 have E:Zx w.heap.size w ((w.alloc (.cells #[π p] 79)).alloc (.cells #[ν] 33)):=(bA).alloc (by simp) _;have j:=(Zd w [π p] 79).alloc (.cells #[ν] 33);have m:=Zd (w.alloc (.cells #[π p] 79)) [ν] 33;rw[show(w.alloc (.cells #[π p] 79)).heap.size=w.heap.size+1 by simp]at m;have r:=h.old E;have G:l.length≤1000000:=by obtain⟨_,_,T⟩:=h;exact T.fit
 have c:=Za E;have J:=h.lt;obtain⟨d,B⟩:∃d,(w.alloc (.cells #[π p] 79)).alloc (.cells #[ν] 33)=d:=⟨_,rfl⟩;have O:d.heap.size=w.heap.size+2:=by rw[←B];simp
 rw[B]at j m r c;have H:Oz p w.heap.size (w.heap.size+1) (w.heap.size+2) d:=⟨J,by omega,by omega,by omega⟩;have D:If d p s w.heap.size (w.heap.size+1) (w.heap.size+2) none 0 [] l d:=⟨AFr.refl _ _ _ _,r,j,m,Br.zero _ _,by simpa using G⟩;have P:Zy Zc 105 #[π p,qC (w.heap.size+1) w.heap.size] d (cV d p s w.heap.size (w.heap.size+1) (w.heap.size+2) (In (f+1) l)):=by
  obtain⟨t,K,rfl⟩:=r.ends.ne
  cases y:isP [41] t with
  |true=>exact fV f d p s t K H D y
  |false=>exact dG f W d p s t K H D V y
 obtain⟨x,aa,Z,L⟩:=Y4 P J G O;have ad:=j.at 0 _ rfl;have ab:=Za h;have af:w.heap.size<d.heap.size:=by omega
 clear P H D r E j m h G J O;unfold qC at x;obtain⟨z,A⟩:∃z,In (f+1) l=z:=⟨_,rfl⟩;rw[A]at x ⊢;have ac:=Za A;clear A;go_enter func192,ntmps192;go_upto_region 1 with(fail);clear B;go_wp2_with fail;refine x.o.mono ?_;intro e R N
 cases z with
 |error n=>
  obtain⟨rfl,b⟩:=N;have u:Zv (SFr p w R):=⟨b.os.trans c.o.os,b.tape.trans c.o.tape,b.output.trans c.o.output,Zi c.o.size b.size,fun k F I=>(b.block k (by have:=L.o;omega) (by omega) I (by omega)).trans (c.o.block k F)⟩;clear b;unfold Bv;go_wp2;exact⟨rfl,u.o,rfl⟩
 |ok q=>
  obtain⟨a,K⟩:=q;obtain⟨rfl,X,Y,Q,rfl,C⟩:=N;have b:=C.fr;have u:Zv (SFr p w R):=⟨b.os.trans c.o.os,b.tape.trans c.o.tape,b.output.trans c.o.output,Zi c.o.size b.size,fun k F I=>(b.block k (by have:=L.o;omega) (by omega) I (by omega)).trans (c.o.block k F)⟩;have i:=Za C;clear b C;go_wp2_with fail;have S:=i.o.o.at 0 _ rfl;have U:=i.o.row.exs (show Q.length≤140737488355328 by have:=i.o.len;omega);exact Ya (v:= ρ X Q Y) (by simp [results,results192,go_sem,S]) rfl ⟨u.o,_,rfl,i.o.par,U.up (by omega)⟩
theorem Nk:∀f:Nat,Vs f∧Ol f∧Sm f∧Wy f∧gS f
 |0=>⟨fun lv l w p c a=>by omega,fun l w p c a=>by omega,fun l w p c a=>by omega,fun s l w p c a=>by omega,fun l w p c a=>by omega⟩
 |f+1=>by
  have d:∀g,g≤f→Vs g∧Ol g∧Sm g∧Wy g∧gS g:=fun g b=>Nk g
  obtain⟨m,e,h,k,j⟩:=d f (Zg _);have i:=lW f h (fun g b=>(d g b).1);exact⟨i,expr_of (f+1) i,kE f h e k,kK f j e,qR f (fun g b=>(d g b).2.1)⟩
abbrev rO(x:St)(a t e:Value):Value:=.agg #[.int .i64 x.kind,.string (Aa x.name),a,t,e]
def StsH(B:Nat)(l:List St)(v:Value)(w:Zw):Prop:=Au (B≤ ·) w l v
def StH(B:Nat)(x:St)(v:Value)(w:Zw):Prop:= ∃a t e,v=rO x a t e∧Ag (B≤ ·) w x.args a∧Au (B≤ ·) w x.thn t∧Au (B≤ ·) w x.els e
def InH(B:Nat)(x:Ex)(v:Value)(w:Zw):Prop:=Ag (B≤ ·) w [x] v
def Fe(f:Nat)(l:List Tk):PR (List St):=match An [123] l with
 |.error e=>.error e
 |.ok r=>Ep f [] r
def InsideC(f:Nat):Prop:= ∀l w p a,4*l.length≤f→Ps w p a l→Zy Zc 186 #[.pointer (some ⟨p,0,none⟩)] w (Gw (InH w.heap.size) w p a (Cu f l))
def SimpleC(f:Nat):Prop:= ∀l w p a,4*l.length≤f→Ps w p a l→Zy Zc 188 #[.pointer (some ⟨p,0,none⟩)] w (Gw (StH w.heap.size) w p a (Bd f l))
def Ss(f:Nat):Prop:= ∀l w p a,4*l.length≤f→Ps w p a l→Zy Zc 187 #[.pointer (some ⟨p,0,none⟩)] w (Gw (StsH w.heap.size) w p a (Fe f l))
def nF(f:Nat):Prop:= ∀l w p a,4*l.length+1≤f→Ps w p a l→Zy Zc 166 #[.pointer (some ⟨p,0,none⟩)] w (Gw (StH w.heap.size) w p a (Fa f l))
def dA(f:Nat):Prop:= ∀l w p a,4*l.length+2≤f→Ps w p a l→Zy Zc 107 #[.pointer (some ⟨p,0,none⟩)] w (Gw (StsH w.heap.size) w p a (Ep f [] l))
theorem Au.up {B a:Nat}{w:Zw}{l:List St}{v:Value}(c:Au (B≤ ·) w l v)(d:a≤B):Au (a≤ ·) w l v:=c.mono (fun b hx=>Zi d hx)
theorem Pk(f:Nat):InsideC f:=by
 intro l w p C O A;have al:=Za A.lt;have ax:Zv (w.heap.size≠p):=by show _≠_;have:=A.lt;omega
 obtain⟨Y,ae⟩:=Y2 (SFr.refl p w) A;obtain⟨M,E⟩:∃M,Cu f l=M:=⟨_,rfl⟩;rw[E];have t:=Za E;clear E;have N:=(Nk f).2.1;obtain⟨U,ac⟩:=Y2 N O;clear O N;clear A;go_enter func186,ntmps186;have b:Zx w.heap.size w (w.alloc (.cells #[.string ⟨#[40]⟩] 9)):=bA;obtain⟨I,af⟩:=Y2 (Y.o.trans (Zb b)) (ae.o.old b);have k:=Za (Dn p C l [40] af.o w.heap.size 1 ((Zd w [.string ⟨#[40]⟩] 9).at 0 _ rfl));clear b;go_wp2_with fail;refine(k.o).mono ?_;intro e w2 c
 cases hA:An [40] l with
 |error n=>
  rw[hA]at c;obtain⟨a,rfl⟩:=c;have j:=Za (I.o.trans a);have d:Cu f l=.error n:=by unfold Cu;rw[hA]
  have g:=t.o.symm.trans d;subst g;clear d a;unfold Bv;go_wp2;exact⟨rfl,j.o,rfl⟩
 |ok r=>
  rw[hA]at c;obtain⟨a,rfl,h⟩:=c;obtain⟨D,ag⟩:=Y2 (I.o.trans a) h;clear a h;have s:=Za hA;clear hA;clear k;have au:=Bp s.o;have T:Zv (∀F,Ps F p C r→_):=fun F aq=>U.o r F p C (by have:=ac.o;omega) aq
  clear au;go_wp2_with fail;refine(T.o _ ag.o).mono ?_;intro e m c
  cases hA:Bk f 1 r with
  |error n=>
   rw[hA]at c;obtain⟨a,rfl⟩:=c;have j:=Za (D.o.trans a);have d:Cu f l=.error n:=by unfold Cu;rw[s.o];dsimp only;rw[hA]
   have g:=t.o.symm.trans d;subst g;clear d a;unfold Bv;go_wp2;exact⟨rfl,j.o,rfl⟩
  |ok q=>
   obtain⟨x,Q⟩:=q;rw[hA]at c;obtain⟨a,v,rfl,h,av⟩:=c;obtain⟨aH,rfl,hx,P⟩:=av;obtain⟨y,z,rfl⟩:=hx.shape;obtain⟨am,ad⟩:=Y2 (hx.up D.o.size) P;clear hx P;obtain⟨Z,L⟩:=Y2 (D.o.trans a) h;clear a h;have G:=Za hA;clear hA;go_upto_region 3 with(fail);obtain⟨u,B⟩:∃u,m.alloc (ξ x (ρ y x.args z))=u:=⟨_,rfl⟩;rw[B];have b:Zx m.heap.size m u:=B ▸ bA;obtain⟨aa,ah,an,V⟩:=Y4 (Z.o.trans (Zb b)) (L.o.old b) (am.o.old b) (B ▸ Zd m (χ x (ρ y x.args z)) 35);have X:Zv (m.heap.size≠p):=by show _≠_;have:=L.o.lt;omega
   clear b B;obtain⟨i,ar⟩:∃i,i=u:=⟨_,rfl⟩;subst ar;have b:Zx i.heap.size i (i.alloc (.cells #[.string ⟨#[41]⟩] 9)):=bA;obtain⟨J,ai,W,ao⟩:=Y4 (aa.o.trans (Zb b)) (ah.o.old b) (V.o.old b) (an.o.old b);have k:=Za (Dn p C Q [41] ai.o i.heap.size 1 ((Zd i [.string ⟨#[41]⟩] 9).at 0 _ rfl));clear b;go_wp2_with fail;refine(k.o).mono ?_;intro e aw c
   cases hA:An [41] Q with
   |error n=>
    rw[hA]at c;obtain⟨a,rfl⟩:=c;have j:=Za (J.o.trans a);have d:Cu f l=.error n:=by unfold Cu;rw[s.o];dsimp only;rw[G.o];dsimp only;rw[hA]
    have g:=t.o.symm.trans d;subst g;clear d a;unfold Bv;go_wp2;exact⟨rfl,j.o,rfl⟩
   |ok r3=>
    rw[hA]at c;obtain⟨a,rfl,h⟩:=c;obtain⟨K,aj,H,ap⟩:=Y4 (J.o.trans a) h (W.o.sfr a X.o) (ao.o.keep (a.fresh (by have:=al.o;omega)));clear a h;have R:=Za hA;clear hA;clear k;obtain⟨⟨ay,d,g,az,aA⟩,aB,aC,aD,aE,aF⟩:=Ai H.o;have aG:=H.o.lt;have S:=Za (Oa ap.o ad.o K.o.size);have ab:Zv (SFr p w (aw.alloc (ξ x (ρ y x.args z)))):=K.o.trans (Zb (bA));have ak:=Za (aj.o.alloc (ξ x (ρ y x.args z)));go_wp2_with fail;have d:Cu f l=.ok (x,r3):=by unfold Cu;rw[s.o];dsimp only;rw[G.o];dsimp only;rw[R.o]
    have g:=t.o.symm.trans d;subst g;go_ret
    exact⟨ab.o,_,rfl,ak.o,S.o⟩
theorem fG(f:Nat)(D:dA f):Ss f:=by
 intro l w p y E i;have V:=Za i.lt;have U:Zv (w.heap.size≠p):=by show _≠_;have:=i.lt;omega
 obtain⟨H,K⟩:=Y2 (SFr.refl p w) i;obtain⟨C,t⟩:∃C,Fe f l=C:=⟨_,rfl⟩;rw[t];have s:=Za t;clear t;obtain⟨O,J⟩:=Y2 D E;clear E D;clear i;go_enter func187,ntmps187;have u:Zx w.heap.size w (w.alloc (.cells #[.string ⟨#[123]⟩] 9)):=bA;obtain⟨A,L⟩:=Y2 (H.o.trans (Zb u)) (K.o.old u);have B:=Za (Dn p y l [123] L.o w.heap.size 1 ((Zd w [.string ⟨#[123]⟩] 9).at 0 _ rfl));clear u;go_wp2_with fail;refine(B.o).mono ?_;intro e w2 b
 cases hA:An [123] l with
 |error n=>
  rw[hA]at b;obtain⟨a,rfl⟩:=b;have k:=Za (A.o.trans a);have c:Fe f l=.error n:=by unfold Fe;rw[hA]
  have d:=s.o.symm.trans c;subst d;clear c a;unfold Bv;go_wp2;exact⟨rfl,k.o,rfl⟩
 |ok r=>
  rw[hA]at b;obtain⟨a,rfl,g⟩:=b;obtain⟨m,M⟩:=Y2 (A.o.trans a) g;clear a g;have j:=Za hA;clear hA;clear B;have R:=Bp j.o;have G:Zv (∀z,Ps z p y r→_):=fun z Q=>O.o r z p y (by have:=J.o;omega) Q
  clear R;go_wp2_with fail;refine(G.o _ M.o).mono ?_;intro e T b
  cases hA:Ep f [] r with
  |error n=>
   rw[hA]at b;obtain⟨a,rfl⟩:=b;have k:=Za (m.o.trans a);have c:Fe f l=.error n:=by unfold Fe;rw[j.o];exact hA
   have d:=s.o.symm.trans c;subst d;clear c a;unfold Bv;go_wp2;exact⟨rfl,k.o,rfl⟩
  |ok q=>
   obtain⟨x,S⟩:=q;rw[hA]at b;obtain⟨a,v,rfl,g,h⟩:=b;have h:Au (w2.heap.size≤ ·) T x v:=h;obtain⟨W,X,rfl⟩:=h.shape;have P:=Za (h.up m.o.size);clear h;obtain⟨I,N⟩:=Y2 (m.o.trans a) g;clear a g;have F:=Za hA;clear hA;go_wp2_with fail;have c:Fe f l=.ok (x,S):=by unfold Fe;rw[j.o];exact F.o
   have d:=s.o.symm.trans c;subst d;go_ret
   exact⟨I.o,_,rfl,N.o,P.o⟩
theorem cK {w a:Zw}{p c:Nat}{l:List Tk}{k:Int}{nm:Bs}{xs:List Ex}{s:Value}(o:p<w.heap.size)(d:SFr p w a)(e:Ps a p c l)(f:Ag (w.heap.size+1≤ ·) a xs s){g h i j m:Value}:
  Gw (StH w.heap.size) w p c (.ok (.mk k nm xs [] [],l)) (.returned (.agg #[.int .i64 k,.string (Aa nm),s,.slice none 0 0,.slice none 0 0])) (((((a.setCell ⟨w.heap.size,0,none⟩ g).setCell ⟨w.heap.size,1,none⟩ h).setCell ⟨w.heap.size,2,none⟩ i).setCell ⟨w.heap.size,3,none⟩ j).setCell ⟨w.heap.size,4,none⟩ m):=
 ⟨sfr5 d (Zg _) _ _ _ _ _,_,rfl,ps5 e o _ _ _ _ _,_,_,_,rfl,(f.keep (Ha a (by show ¬w.heap.size+1≤w.heap.size;omega) _ _ _ _ _)).mono (fun b n=>by have:w.heap.size+1≤b:=n;omega),Zm,Zm⟩
theorem eH {w a:Zw}{p i:Nat}{l:List Tk}{k:Int}{nm:Bs}{x:Ex}{s:Value}(u:p<w.heap.size)(j:SFr p w a)(m:Ps a p i l)(o:Ag (w.heap.size+1≤ ·) a x.args s)(t:I64 x.n)(v:w.heap.size<a.heap.size){c d e f g:Value}:
  Gw (StH w.heap.size) w p i (.ok (.mk k nm [x] [] [],l)) (.returned (.agg #[.int .i64 k,.string (Aa nm),.slice (some ⟨a.heap.size,0,none⟩) 1 1,.slice none 0 0,.slice none 0 0])) ((((((a.setCell ⟨w.heap.size,0,none⟩ c).setCell ⟨w.heap.size,1,none⟩ d).setCell ⟨w.heap.size,2,none⟩ e).setCell ⟨w.heap.size,3,none⟩ f).setCell ⟨w.heap.size,4,none⟩ g).alloc (.cells #[.int .i64 x.kind,.int .i64 x.op,.int .i64 x.n,.string (Aa x.name),s] 35)):=by
 have q:=o.keep (Ha a (show ¬w.heap.size+1≤w.heap.size by omega) c d e f g);have h:=Oa q t (by rw[Hi];omega);rw[Hi]at h;exact⟨(sfr5 j (Zg _) c d e f g).trans (Zb (bA)),_,rfl,(ps5 m u c d e f g).alloc _,_,_,_,rfl,h.mono (fun b r=>by have:w.heap.size+1≤b:=r;omega),Zm,Zm⟩
theorem jX(f:Nat)(t:Tk)(a:List Tk)(w:Zw)(p c:Nat)(l:4*(t::a).length≤f)(b:Ps w p c (t::a))(y:isP [98,114,101,97,107] t=true):
  Zy Zc 188 #[.pointer (some ⟨p,0,none⟩)] w (Gw (StH w.heap.size) w p c (Bd f (t::a))):=by
 have x:=Za b.lt;have r:Zv (w.heap.size≠p):=by show _≠_;have:=b.lt;omega
 have i:Zx w.heap.size w (w.alloc (ϑ)):=bA;have n:Zv (SFr p w (w.alloc (ϑ))):=Zb i;obtain⟨z,s⟩:=Y2 (Zd w θ 50) (b.old i);clear i;obtain⟨k,h⟩:∃k,Bd f (t::a)=k:=⟨_,rfl⟩;rw[h];have A:=Za h;clear h;have C:=Za y;have B:Zv (∀d,Ps d p c (t::a)→_):=fun d K=>Bz p c t a [98,114,101,97,107] d K y
 rw[Ze]at l;clear l y;clear b;go_enter Zj,Zk;go_wp2_with fail;refine(B.o _ s.o).mono ?_;rintro e d ⟨rfl,j,m⟩;obtain⟨q,u,g⟩:=Y3 (n.o.trans j) m (z.o.sfr j r.o);clear j m;obtain⟨⟨L,M,N,O,P⟩,Q,R,S,T,U⟩:=Ai g.o;have V:=g.o.lt;go_wp2_with fail;have I:Bd f (t::a)=.ok (.mk 5 [] [] [] [],a):=by unfold Bd;rw[Bt C.o]
 have J:=A.o.symm.trans I;subst J;obtain⟨⟨D,E,F,G,H⟩,_⟩:=Ai (Ho g.o (ι 5) (ε) (ν) (ν) (ν));exact Ya (v:=.agg #[ι 5,ε,ν,ν,ν]) (by simp [results,Zn,go_sem,D,E,F,G,H]) rfl (cK x.o q.o u.o Zp)
theorem gQ(f:Nat)(t:Tk)(a:List Tk)(w:Zw)(p c:Nat)(r:4*(t::a).length≤f)(d:Ps w p c (t::a))(m:isP [98,114,101,97,107] t=false)(y:isP [99,111,110,116,105,110,117,101] t=true):
  Zy Zc 188 #[.pointer (some ⟨p,0,none⟩)] w (Gw (StH w.heap.size) w p c (Bd f (t::a))):=by
 have E:=Za d.lt;have B:Zv (w.heap.size≠p):=by show _≠_;have:=d.lt;omega
 have k:Zx w.heap.size w (w.alloc (ϑ)):=bA;have u:Zv (SFr p w (w.alloc (ϑ))):=Zb k;obtain⟨F,n⟩:=Y2 (Zd w θ 50) (d.old k);clear k;obtain⟨q,j⟩:∃q,Bd f (t::a)=q:=⟨_,rfl⟩;rw[j];have H:=Za j;clear j;have A:=Za m;have I:Zv (∀b,Ps b p c (t::a)→_):=fun b i=>Aq p c t a [98,114,101,97,107] b i m
 have K:=Za y;have J:Zv (∀b,Ps b p c (t::a)→_):=fun b i=>Bz p c t a [99,111,110,116,105,110,117,101] b i y
 rw[Ze]at r;clear r m y;clear d;go_enter Zj,Zk;go_wp2_with fail;refine(I.o _ n.o).mono ?_;rintro e b ⟨rfl,g⟩;obtain⟨x,C,G⟩:=Y3 (u.o.trans (Zb g)) (n.o.old g) (F.o.old g);clear g;go_wp2_with fail;refine(J.o _ C.o).mono ?_;rintro e w2 ⟨rfl,l,s⟩;obtain⟨z,D,h⟩:=Y3 (x.o.trans l) s (G.o.sfr l B.o);clear l s;obtain⟨⟨S,T,U,V,W⟩,X,Y,Z,aa,ab⟩:=Ai h.o;have ac:=h.o.lt;go_wp2_with fail;have Q:Bd f (t::a)=.ok (.mk 6 [] [] [] [],a):=by unfold Bd;rw[Ah A.o];dsimp only;rw[Bt K.o]
 have R:=H.o.symm.trans Q;subst R;obtain⟨⟨L,M,N,O,P⟩,_⟩:=Ai (Ho h.o (ι 6) (ε) (ν) (ν) (ν));exact Ya (v:=.agg #[ι 6,ε,ν,ν,ν]) (by simp [results,Zn,go_sem,L,M,N,O,P]) rfl (cK E.o z.o D.o Zp)
theorem lA(f:Nat)(t:Tk)(b:List Tk)(w:Zw)(p d:Nat)(M:4*(t::b).length≤f)(l:Ps w p d (t::b))(z:isP [98,114,101,97,107] t=false)(A:isP [99,111,110,116,105,110,117,101] t=false)(y:isP [114,101,116,117,114,110] t=true):
  Zy Zc 188 #[.pointer (some ⟨p,0,none⟩)] w (Gw (StH w.heap.size) w p d (Bd f (t::b))):=by
 have aa:=Za l.lt;have E:Zv (w.heap.size≠p):=by show _≠_;have:=l.lt;omega
 have u:Zx w.heap.size w (w.alloc (ϑ)):=bA;have S:Zv (SFr p w (w.alloc (ϑ))):=Zb u;obtain⟨ab,F⟩:=Y2 (Zd w θ 50) (l.old u);clear u;obtain⟨K,s⟩:∃K,Bd f (t::b)=K:=⟨_,rfl⟩;rw[s];have I:=Za s;clear s;have C:=Za z;have ae:Zv (∀a,Ps a p d (t::b)→_):=fun a h=>Aq p d t b [98,114,101,97,107] a h z
 have D:=Za A;have af:Zv (∀a,Ps a p d (t::b)→_):=fun a h=>Aq p d t b [99,111,110,116,105,110,117,101] a h A
 have J:=Za y;have ag:Zv (∀a,Ps a p d (t::b)→_):=fun a h=>Bz p d t b [114,101,116,117,114,110] a h y
 rw[Ze]at M;have L:=(Nk f).2.1;have Q:Zv (∀a,Ps a p d b→_):=fun a h=>L b a p d (by omega) h
 clear L;clear M z A y;clear l;go_enter Zj,Zk;go_wp2_with fail;refine(ae.o _ F.o).mono ?_;rintro e a ⟨rfl,g⟩;obtain⟨T,G,ac⟩:=Y3 (S.o.trans (Zb g)) (F.o.old g) (ab.o.old g);clear g;go_wp2_with fail;refine(af.o _ G.o).mono ?_;rintro e w2 ⟨rfl,g⟩;obtain⟨U,X,ad⟩:=Y3 (T.o.trans (Zb g)) (G.o.old g) (ac.o.old g);clear g;go_wp2_with fail;refine(ag.o _ X.o).mono ?_;rintro e ar ⟨rfl,c,i⟩;obtain⟨B,Y,H⟩:=Y3 (U.o.trans c) i (ad.o.sfr c E.o);clear c i;go_wp2_with fail;refine(Q.o _ Y.o).mono ?_;intro e O m
 cases hA:Bk f 1 b with
 |error n=>
  rw[hA]at m;obtain⟨c,rfl⟩:=m;have R:=Za (B.o.trans c);have k:Bd f (t::b)=.error n:=by unfold Bd;rw[Ah C.o];dsimp only;rw[Ah D.o];dsimp only;rw[Bt J.o];dsimp only;rw[hA]
  have r:=I.o.symm.trans k;subst r;clear k c;unfold Bv;go_wp2;exact⟨rfl,R.o,rfl⟩
 |ok q=>
  obtain⟨x,aq⟩:=q;rw[hA]at m;obtain⟨c,v,rfl,i,ap⟩:=m;obtain⟨au,rfl,hx,N⟩:=ap;obtain⟨ai,aj,rfl⟩:=hx.shape;obtain⟨ah,W⟩:=Y2 (hx.up (show w.heap.size+1≤ar.heap.size from H.o.lt)) N;clear hx N;obtain⟨V,Z,j⟩:=Y3 (B.o.trans c) i (H.o.sfr c E.o);clear c i;have P:=Za hA;clear hA;obtain⟨⟨av,aw,ax,ay,az⟩,aA,aB,aC,aD,aE⟩:=Ai j.o;have aF:=j.o.lt;go_wp2_with fail;have k:Bd f (t::b)=.ok (.mk 7 [] [x] [] [],aq):=by unfold Bd;rw[Ah C.o];dsimp only;rw[Ah D.o];dsimp only;rw[Bt J.o];dsimp only;rw[P.o]
  have r:=I.o.symm.trans k;subst r;obtain⟨⟨ak,al,am,an,ao⟩,_⟩:=Ai ((Ho j.o (ι 7) (ε) (κ O.heap.size 1 1) (ν) (ν)).alloc (ξ x (ρ ai x.args aj)));exact Ya (v:=.agg #[ι 7,ε,κ O.heap.size 1 1,ν,ν]) (by simp [results,Zn,go_sem,ak,al,am,an,ao]) rfl (eH aa.o V.o Z.o ah.o W.o j.o.lt)
theorem dN(f:Nat)(t:Tk)(b:List Tk)(w:Zw)(p d:Nat)(S:4*(t::b).length≤f)(l:Ps w p d (t::b))(A:isP [98,114,101,97,107] t=false)(B:isP [99,111,110,116,105,110,117,101] t=false)(C:isP [114,101,116,117,114,110] t=false)(y:isP [112,114,105,110,116] t=true):
  Zy Zc 188 #[.pointer (some ⟨p,0,none⟩)] w (Gw (StH w.heap.size) w p d (Bd f (t::b))):=by
 have af:=Za l.lt;have H:Zv (w.heap.size≠p):=by show _≠_;have:=l.lt;omega
 have z:Zx w.heap.size w (w.alloc (ϑ)):=bA;have X:Zv (SFr p w (w.alloc (ϑ))):=Zb z;obtain⟨ag,I⟩:=Y2 (Zd w θ 50) (l.old z);clear z;obtain⟨O,u⟩:∃O,Bd f (t::b)=O:=⟨_,rfl⟩;rw[u];have M:=Za u;clear u;have E:=Za A;have ak:Zv (∀a,Ps a p d (t::b)→_):=fun a h=>Aq p d t b [98,114,101,97,107] a h A
 have F:=Za B;have al:Zv (∀a,Ps a p d (t::b)→_):=fun a h=>Aq p d t b [99,111,110,116,105,110,117,101] a h B
 have G:=Za C;have am:Zv (∀a,Ps a p d (t::b)→_):=fun a h=>Aq p d t b [114,101,116,117,114,110] a h C
 have N:=Za y;have an:Zv (∀a,Ps a p d (t::b)→_):=fun a h=>Bz p d t b [112,114,105,110,116] a h y
 rw[Ze]at S;have R:=Pk f;have V:Zv (∀a,Ps a p d b→_):=fun a h=>R b a p d (by omega) h
 clear R;clear S A B C y;clear l;go_enter Zj,Zk;go_wp2_with fail;refine(ak.o _ I.o).mono ?_;rintro e a ⟨rfl,c⟩;obtain⟨Y,J,ah⟩:=Y3 (X.o.trans (Zb c)) (I.o.old c) (ag.o.old c);clear c;go_wp2_with fail;refine(al.o _ J.o).mono ?_;rintro e w2 ⟨rfl,c⟩;obtain⟨Z,K,ai⟩:=Y3 (Y.o.trans (Zb c)) (J.o.old c) (ah.o.old c);clear c;go_wp2_with fail;refine(am.o _ K.o).mono ?_;rintro e ay ⟨rfl,c⟩;obtain⟨aa,ac,aj⟩:=Y3 (Z.o.trans (Zb c)) (K.o.old c) (ai.o.old c);clear c;go_wp2_with fail;refine(an.o _ ac.o).mono ?_;rintro e T ⟨rfl,g,i⟩;obtain⟨D,ad,L⟩:=Y3 (aa.o.trans g) i (aj.o.sfr g H.o);clear g i;go_wp2_with fail;refine(V.o _ ad.o).mono ?_;intro e ax m
 cases hA:Cu f b with
 |error n=>
  rw[hA]at m;obtain⟨g,rfl⟩:=m;have W:=Za (D.o.trans g);have k:Bd f (t::b)=.error n:=by unfold Bd;rw[Ah E.o];dsimp only;rw[Ah F.o];dsimp only;rw[Ah G.o];dsimp only;rw[Bt N.o];dsimp only;rw[hA]
  have s:=M.o.symm.trans k;subst s;clear k g;unfold Bv;go_wp2;exact⟨rfl,W.o,rfl⟩
 |ok q=>
  obtain⟨x,aw⟩:=q;rw[hA]at m;obtain⟨g,v,rfl,i,j⟩:=m;have j:Ag (T.heap.size≤ ·) ax [x] v:=j;obtain⟨P,Q,rfl⟩:=j.shape;have ao:=Za (j.up (show w.heap.size+1≤T.heap.size from L.o.lt));clear j;obtain⟨ab,ae,r⟩:=Y3 (D.o.trans g) i (L.o.sfr g H.o);clear g i;have U:=Za hA;clear hA;obtain⟨⟨az,aA,aB,aC,aD⟩,aE,aF,aG,aH,aI⟩:=Ai r.o;have aJ:=r.o.lt;go_wp2_with fail;have k:Bd f (t::b)=.ok (.mk 8 [] [x] [] [],aw):=by unfold Bd;rw[Ah E.o];dsimp only;rw[Ah F.o];dsimp only;rw[Ah G.o];dsimp only;rw[Bt N.o];dsimp only;rw[U.o]
  have s:=M.o.symm.trans k;subst s;obtain⟨⟨ap,aq,ar,au,av⟩,_⟩:=Ai (Ho r.o (ι 8) (ε) (.slice P 1 Q) (ν) (ν));exact Ya (v:=.agg #[ι 8,ε,.slice P 1 Q,ν,ν]) (by simp [results,Zn,go_sem,ap,aq,ar,au,av]) rfl (cK af.o ab.o ae.o ao.o)
theorem iF(f:Nat)(t:Tk)(c:List Tk)(w:Zw)(p d:Nat)(V:4*(t::c).length≤f)(l:Ps w p d (t::c))(A:isP [98,114,101,97,107] t=false)(B:isP [99,111,110,116,105,110,117,101] t=false)(C:isP [114,101,116,117,114,110] t=false)(D:isP [112,114,105,110,116] t=false)(y:isP [116,114,97,112] t=true):
  Zy Zc 188 #[.pointer (some ⟨p,0,none⟩)] w (Gw (StH w.heap.size) w p d (Bd f (t::c))):=by
 have aj:=Za l.lt;have J:Zv (w.heap.size≠p):=by show _≠_;have:=l.lt;omega
 have z:Zx w.heap.size w (w.alloc (ϑ)):=bA;have aa:Zv (SFr p w (w.alloc (ϑ))):=Zb z;obtain⟨ak,K⟩:=Y2 (Zd w θ 50) (l.old z);clear z;obtain⟨R,u⟩:∃R,Bd f (t::c)=R:=⟨_,rfl⟩;rw[u];have P:=Za u;clear u;have F:=Za A;have ap:Zv (∀a,Ps a p d (t::c)→_):=fun a g=>Aq p d t c [98,114,101,97,107] a g A
 have G:=Za B;have aq:Zv (∀a,Ps a p d (t::c)→_):=fun a g=>Aq p d t c [99,111,110,116,105,110,117,101] a g B
 have H:=Za C;have ar:Zv (∀a,Ps a p d (t::c)→_):=fun a g=>Aq p d t c [114,101,116,117,114,110] a g C
 have I:=Za D;have au:Zv (∀a,Ps a p d (t::c)→_):=fun a g=>Aq p d t c [112,114,105,110,116] a g D
 have Q:=Za y;have av:Zv (∀a,Ps a p d (t::c)→_):=fun a g=>Bz p d t c [116,114,97,112] a g y
 rw[Ze]at V;have U:=Pk f;have Y:Zv (∀a,Ps a p d c→_):=fun a g=>U c a p d (by omega) g
 clear U;clear V A B C D y;clear l;go_enter Zj,Zk;go_wp2_with fail;refine(ap.o _ K.o).mono ?_;rintro e a ⟨rfl,b⟩;obtain⟨ab,L,al⟩:=Y3 (aa.o.trans (Zb b)) (K.o.old b) (ak.o.old b);clear b;go_wp2_with fail;refine(aq.o _ L.o).mono ?_;rintro e w2 ⟨rfl,b⟩;obtain⟨ac,M,am⟩:=Y3 (ab.o.trans (Zb b)) (L.o.old b) (al.o.old b);clear b;go_wp2_with fail;refine(ar.o _ M.o).mono ?_;rintro e aE ⟨rfl,b⟩;obtain⟨ad,N,an⟩:=Y3 (ac.o.trans (Zb b)) (M.o.old b) (am.o.old b);clear b;go_wp2_with fail;refine(au.o _ N.o).mono ?_;rintro e aF ⟨rfl,b⟩;obtain⟨ae,ag,ao⟩:=Y3 (ad.o.trans (Zb b)) (N.o.old b) (an.o.old b);clear b;go_wp2_with fail;refine(av.o _ ag.o).mono ?_;rintro e W ⟨rfl,h,i⟩;obtain⟨E,ah,O⟩:=Y3 (ae.o.trans h) i (ao.o.sfr h J.o);clear h i;go_wp2_with fail;refine(Y.o _ ah.o).mono ?_;intro e aD m
 cases hA:Cu f c with
 |error n=>
  rw[hA]at m;obtain⟨h,rfl⟩:=m;have Z:=Za (E.o.trans h);have k:Bd f (t::c)=.error n:=by unfold Bd;rw[Ah F.o];dsimp only;rw[Ah G.o];dsimp only;rw[Ah H.o];dsimp only;rw[Ah I.o];dsimp only;rw[Bt Q.o];dsimp only;rw[hA]
  have s:=P.o.symm.trans k;subst s;clear k h;unfold Bv;go_wp2;exact⟨rfl,Z.o,rfl⟩
 |ok q=>
  obtain⟨x,aC⟩:=q;rw[hA]at m;obtain⟨h,v,rfl,i,j⟩:=m;have j:Ag (W.heap.size≤ ·) aD [x] v:=j;obtain⟨S,T,rfl⟩:=j.shape;have aw:=Za (j.up (show w.heap.size+1≤W.heap.size from O.o.lt));clear j;obtain⟨af,ai,r⟩:=Y3 (E.o.trans h) i (O.o.sfr h J.o);clear h i;have X:=Za hA;clear hA;obtain⟨⟨aG,aH,aI,aJ,aK⟩,aL,aM,aN,aO,aP⟩:=Ai r.o;have aQ:=r.o.lt;go_wp2_with fail;have k:Bd f (t::c)=.ok (.mk 9 [] [x] [] [],aC):=by unfold Bd;rw[Ah F.o];dsimp only;rw[Ah G.o];dsimp only;rw[Ah H.o];dsimp only;rw[Ah I.o];dsimp only;rw[Bt Q.o];dsimp only;rw[X.o]
  have s:=P.o.symm.trans k;subst s;obtain⟨⟨ax,ay,az,aA,aB⟩,_⟩:=Ai (Ho r.o (ι 9) (ε) (.slice S 1 T) (ν) (ν));exact Ya (v:=.agg #[ι 9,ε,.slice S 1 T,ν,ν]) (by simp [results,Zn,go_sem,ax,ay,az,aA,aB]) rfl (cK aj.o af.o ai.o aw.o)
theorem Xt(f:Nat)(t:Tk)(c:List Tk)(w:Zw)(p d:Nat)(E:4*(t::c).length≤f)(h:Ps w p d (t::c))(k:isP [98,114,101,97,107] t=false)(l:isP [99,111,110,116,105,110,117,101] t=false)(m:isP [114,101,116,117,114,110] t=false)(q:isP [112,114,105,110,116] t=false)(r:isP [116,114,97,112] t=false)(n:Int)(F:Ew (t::c)=.error n):
  Zy Zc 188 #[.pointer (some ⟨p,0,none⟩)] w (Gw (StH w.heap.size) w p d (Bd f (t::c))):=by
 have ah:=Za h.lt;have ag:Zv (w.heap.size≠p):=by show _≠_;have:=h.lt;omega
 have j:Zx w.heap.size w (w.alloc (ϑ)):=bA;have H:Zv (SFr p w (w.alloc (ϑ))):=Zb j;obtain⟨U,u⟩:=Y2 (Zd w θ 50) (h.old j);clear j;obtain⟨A,i⟩:∃A,Bd f (t::c)=A:=⟨_,rfl⟩;rw[i];have Z:=Za i;clear i;have N:=Za k;have aa:Zv (∀b,Ps b p d (t::c)→_):=fun b g=>Aq p d t c [98,114,101,97,107] b g k
 have O:=Za l;have ab:Zv (∀b,Ps b p d (t::c)→_):=fun b g=>Aq p d t c [99,111,110,116,105,110,117,101] b g l
 have P:=Za m;have ac:Zv (∀b,Ps b p d (t::c)→_):=fun b g=>Aq p d t c [114,101,116,117,114,110] b g m
 have Q:=Za q;have ad:Zv (∀b,Ps b p d (t::c)→_):=fun b g=>Aq p d t c [112,114,105,110,116] b g q
 have R:=Za r;have ae:Zv (∀b,Ps b p d (t::c)→_):=fun b g=>Aq p d t c [116,114,97,112] b g r
 rw[Ze]at E;have S:Zv (∀b,Ps b p d (t::c)→_):=fun b g=>Gb p d (t::c) b g
 have s:=Za F;clear F;clear E k l m q r;clear h;go_enter Zj,Zk;go_wp2_with fail;refine(aa.o _ u.o).mono ?_;rintro e b ⟨rfl,a⟩;obtain⟨I,v,V⟩:=Y3 (H.o.trans (Zb a)) (u.o.old a) (U.o.old a);clear a;go_wp2_with fail;refine(ab.o _ v.o).mono ?_;rintro e w2 ⟨rfl,a⟩;obtain⟨J,x,W⟩:=Y3 (I.o.trans (Zb a)) (v.o.old a) (V.o.old a);clear a;go_wp2_with fail;refine(ac.o _ x.o).mono ?_;rintro e aj ⟨rfl,a⟩;obtain⟨K,y,X⟩:=Y3 (J.o.trans (Zb a)) (x.o.old a) (W.o.old a);clear a;go_wp2_with fail;refine(ad.o _ y.o).mono ?_;rintro e ak ⟨rfl,a⟩;obtain⟨L,z,Y⟩:=Y3 (K.o.trans (Zb a)) (y.o.old a) (X.o.old a);clear a;go_wp2_with fail;refine(ae.o _ z.o).mono ?_;rintro e al ⟨rfl,a⟩;obtain⟨M,T,ai⟩:=Y3 (L.o.trans (Zb a)) (z.o.old a) (Y.o.old a);clear a;go_wp2_with fail;refine(S.o _ T.o).mono ?_;intro e am C;rw[s.o]at C;obtain⟨D,rfl⟩:=C;have G:=Za (M.o.trans D);have B:Bd f (t::c)=.error n:=by unfold Bd;rw[Ah N.o];dsimp only;rw[Ah O.o];dsimp only;rw[Ah P.o];dsimp only;rw[Ah Q.o];dsimp only;rw[Ah R.o];dsimp only;rw[s.o]
 have af:=Z.o.symm.trans B;subst af;clear B D;unfold Bv;go_wp2;exact⟨rfl,G.o,rfl⟩
theorem fQ(f:Nat)(t:Tk)(c:List Tk)(w:Zw)(p d:Nat)(ab:4*(t::c).length≤f)(y:Ps w p d (t::c))(F:isP [98,114,101,97,107] t=false)(G:isP [99,111,110,116,105,110,117,101] t=false)(H:isP [114,101,116,117,114,110] t=false)(I:isP [112,114,105,110,116] t=false)(J:isP [116,114,97,112] t=false)(s:Bs)(u:Tk)(q:List Tk)(E:Ew (t::c)=.ok (s,u::q))(L:isP [40] u=true):
  Zy Zc 188 #[.pointer (some ⟨p,0,none⟩)] w (Gw (StH w.heap.size) w p d (Bd f (t::c))):=by
 have aw:=Za y.lt;have z:Zv (w.heap.size≠p):=by show _≠_;have:=y.lt;omega
 have D:Zx w.heap.size w (w.alloc (ϑ)):=bA;have ah:Zv (SFr p w (w.alloc (ϑ))):=Zb D;obtain⟨ax,S⟩:=Y2 (Zd w θ 50) (y.old D);clear D;obtain⟨aa,C⟩:∃aa,Bd f (t::c)=aa:=⟨_,rfl⟩;rw[C];have Y:=Za C;clear C;have N:=Za F;have aE:Zv (∀a,Ps a p d (t::c)→_):=fun a g=>Aq p d t c [98,114,101,97,107] a g F
 have O:=Za G;have aF:Zv (∀a,Ps a p d (t::c)→_):=fun a g=>Aq p d t c [99,111,110,116,105,110,117,101] a g G
 have P:=Za H;have aG:Zv (∀a,Ps a p d (t::c)→_):=fun a g=>Aq p d t c [114,101,116,117,114,110] a g H
 have Q:=Za I;have aH:Zv (∀a,Ps a p d (t::c)→_):=fun a g=>Aq p d t c [112,114,105,110,116] a g I
 have R:=Za J;have aI:Zv (∀a,Ps a p d (t::c)→_):=fun a g=>Aq p d t c [116,114,97,112] a g J
 rw[Ze]at ab;have ap:Zv (∀a,Ps a p d (t::c)→_):=fun a g=>Gb p d (t::c) a g
 have A:=Za E;have ac:=Gu E;simp only[Ze]at ac;have Z:=Za L;have aJ:Zv (∀a,Ps a p d (u::q)→_):=fun a g=>Bz p d u q [40] a g L
 have j:=(Nk f).2.2.2.2;have af:Zv (∀a,Ps a p d q→_):=fun a g=>j q a p d (by omega) g
 clear L j;clear E ac;clear ab F G H I J;clear y;go_enter Zj,Zk;go_wp2_with fail;refine(aE.o _ S.o).mono ?_;rintro e a ⟨rfl,b⟩;obtain⟨ai,T,ay⟩:=Y3 (ah.o.trans (Zb b)) (S.o.old b) (ax.o.old b);clear b;go_wp2_with fail;refine(aF.o _ T.o).mono ?_;rintro e w2 ⟨rfl,b⟩;obtain⟨aj,U,az⟩:=Y3 (ai.o.trans (Zb b)) (T.o.old b) (ay.o.old b);clear b;go_wp2_with fail;refine(aG.o _ U.o).mono ?_;rintro e aT ⟨rfl,b⟩;obtain⟨ak,V,aA⟩:=Y3 (aj.o.trans (Zb b)) (U.o.old b) (az.o.old b);clear b;go_wp2_with fail;refine(aH.o _ V.o).mono ?_;rintro e aU ⟨rfl,b⟩;obtain⟨al,W,aB⟩:=Y3 (ak.o.trans (Zb b)) (V.o.old b) (aA.o.old b);clear b;go_wp2_with fail;refine(aI.o _ W.o).mono ?_;rintro e aV ⟨rfl,b⟩;obtain⟨am,aq,aC⟩:=Y3 (al.o.trans (Zb b)) (W.o.old b) (aB.o.old b);clear b;go_wp2_with fail;refine(ap.o _ aq.o).mono ?_;intro e aW l;rw[A.o]at l;obtain⟨h,v,rfl,k,i⟩:=l;have i:v= σ s:=i;subst i;obtain⟨an,ar,aD⟩:=Y3 (am.o.trans h) k (aC.o.sfr h z.o);clear h k;go_wp2_with fail;refine(aJ.o _ ar.o).mono ?_;rintro e ad ⟨rfl,h,k⟩;obtain⟨M,au,X⟩:=Y3 (an.o.trans h) k (aD.o.sfr h z.o);clear h k;go_wp2_with fail;refine(af.o _ au.o).mono ?_;intro e K l
 cases j:In f q with
 |error n=>
  rw[j]at l;obtain⟨h,rfl⟩:=l;have ag:=Za (M.o.trans h);have r:Bd f (t::c)=.error n:=by unfold Bd;rw[Ah N.o];dsimp only;rw[Ah O.o];dsimp only;rw[Ah P.o];dsimp only;rw[Ah Q.o];dsimp only;rw[Ah R.o];dsimp only;rw[A.o];dsimp only;rw[Bt Z.o];dsimp only;rw[j]
  have B:=Y.o.symm.trans r;subst B;clear r h;unfold Bv;go_wp2;exact⟨rfl,ag.o,rfl⟩
 |ok q=>
  obtain⟨xs,aS⟩:=q;rw[j]at l;obtain⟨h,v,rfl,k,i⟩:=l;have i:Ag (ad.heap.size≤ ·) K xs v:=i;obtain⟨aL,aM,rfl⟩:=i.shape;have aK:=Za (i.up (show w.heap.size+1≤ad.heap.size from X.o.lt));clear i;obtain⟨ao,av,m⟩:=Y3 (M.o.trans h) k (X.o.sfr h z.o);clear h k;have ae:=Za j;clear j;obtain⟨⟨aX,aY,aZ,ba,bb⟩,bc,bd,be,bf,bg⟩:=Ai m.o;have bh:=m.o.lt;go_wp2_with fail;have r:Bd f (t::c)=.ok (.mk 10 [] [.mk 5 0 0 s xs] [] [],aS):=by unfold Bd;rw[Ah N.o];dsimp only;rw[Ah O.o];dsimp only;rw[Ah P.o];dsimp only;rw[Ah Q.o];dsimp only;rw[Ah R.o];dsimp only;rw[A.o];dsimp only;rw[Bt Z.o];dsimp only;rw[ae.o]
  have B:=Y.o.symm.trans r;subst B;obtain⟨⟨aN,aO,aP,aQ,aR⟩,_⟩:=Ai ((Ho m.o (ι 10) (ε) (κ K.heap.size 1 1) (ν) (ν)).alloc (.cells #[ι 5,ι 0,ι 0,σ s,ρ aL xs aM] 35));exact Ya (v:=.agg #[ι 10,ε,κ K.heap.size 1 1,ν,ν]) (by simp [results,Zn,go_sem,aN,aO,aP,aQ,aR]) rfl (eH (x:=.mk 5 0 0 s xs) aw.o ao.o av.o aK.o Eo m.o.lt)
theorem iT(f:Nat)(t:Tk)(d:List Tk)(w:Zw)(p c:Nat)(aj:4*(t::d).length≤f)(A:Ps w p c (t::d))(Q:isP [98,114,101,97,107] t=false)(R:isP [99,111,110,116,105,110,117,101] t=false)(S:isP [114,101,116,117,114,110] t=false)(T:isP [112,114,105,110,116] t=false)(U:isP [116,114,97,112] t=false)(s:Bs)(u:Tk)(q:List Tk)(P:Ew (t::d)=.ok (s,u::q))(no:isP [40] u=false)(V:isP [91] u=false):
  Zy Zc 188 #[.pointer (some ⟨p,0,none⟩)] w (Gw (StH w.heap.size) w p c (Bd f (t::d))):=by
 have aK:=Za A.lt;have J:Zv (w.heap.size≠p):=by show _≠_;have:=A.lt;omega
 have O:Zx w.heap.size w (w.alloc (ϑ)):=bA;have aq:Zv (SFr p w (w.alloc (ϑ))):=Zb O;obtain⟨aL,Y⟩:=Y2 (Zd w θ 50) (A.old O);clear O;obtain⟨ah,N⟩:∃ah,Bd f (t::d)=ah:=⟨_,rfl⟩;rw[N];have M:=Za N;clear N;have E:=Za Q;have aV:Zv (∀a,Ps a p c (t::d)→_):=fun a g=>Aq p c t d [98,114,101,97,107] a g Q
 have F:=Za R;have aW:Zv (∀a,Ps a p c (t::d)→_):=fun a g=>Aq p c t d [99,111,110,116,105,110,117,101] a g R
 have G:=Za S;have aX:Zv (∀a,Ps a p c (t::d)→_):=fun a g=>Aq p c t d [114,101,116,117,114,110] a g S
 have H:=Za T;have aY:Zv (∀a,Ps a p c (t::d)→_):=fun a g=>Aq p c t d [112,114,105,110,116] a g T
 have I:=Za U;have aZ:Zv (∀a,Ps a p c (t::d)→_):=fun a g=>Aq p c t d [116,114,97,112] a g U
 rw[Ze]at aj;have aE:Zv (∀a,Ps a p c (t::d)→_):=fun a g=>Gb p c (t::d) a g
 have y:=Za P;have am:=Gu P;simp only[Ze]at am;obtain⟨L,K⟩:=Y2 no V;have bb:Zv (∀a,Ps a p c (u::q)→_):=fun a g=>Aq p c u q [40] a g no
 have ba:Zv (∀a,Ps a p c (u::q)→_):=fun a g=>Aq p c u q [91] a g V
 have ai:=(Nk f).2.1;have ap:Zv (∀q2 a,4*q2.length+2≤f→Ps a p c q2→_):=fun q2 a bk g=>ai q2 a p c bk g
 have aC:Zv (4*(u::q).length+4≤f):=by show _≤_;simp only[Ze];omega
 clear no V ai;clear P am;clear aj Q R S T U;clear A;go_enter Zj,Zk;go_wp2_with fail;refine(aV.o _ Y.o).mono ?_;rintro e a ⟨rfl,b⟩;obtain⟨ar,Z,aM⟩:=Y3 (aq.o.trans (Zb b)) (Y.o.old b) (aL.o.old b);clear b;go_wp2_with fail;refine(aW.o _ Z.o).mono ?_;rintro e w2 ⟨rfl,b⟩;obtain⟨av,aa,aN⟩:=Y3 (ar.o.trans (Zb b)) (Z.o.old b) (aM.o.old b);clear b;go_wp2_with fail;refine(aX.o _ aa.o).mono ?_;rintro e bp ⟨rfl,b⟩;obtain⟨aw,ab,aO⟩:=Y3 (av.o.trans (Zb b)) (aa.o.old b) (aN.o.old b);clear b;go_wp2_with fail;refine(aY.o _ ab.o).mono ?_;rintro e bq ⟨rfl,b⟩;obtain⟨ax,ac,aP⟩:=Y3 (aw.o.trans (Zb b)) (ab.o.old b) (aO.o.old b);clear b;go_wp2_with fail;refine(aZ.o _ ac.o).mono ?_;rintro e br ⟨rfl,b⟩;obtain⟨ay,aH,aQ⟩:=Y3 (ax.o.trans (Zb b)) (ac.o.old b) (aP.o.old b);clear b;go_wp2_with fail;refine(aE.o _ aH.o).mono ?_;intro e bs i;rw[y.o]at i;obtain⟨h,v,rfl,j,m⟩:=i;have m:v= σ s:=m;subst m;obtain⟨az,ad,aR⟩:=Y3 (ay.o.trans h) j (aQ.o.sfr h J.o);clear h j;go_wp2_with fail;refine(bb.o _ ad.o).mono ?_;rintro e bt ⟨rfl,b⟩;obtain⟨aA,ae,aS⟩:=Y3 (az.o.trans (Zb b)) (ad.o.old b) (aR.o.old b);clear b;go_wp2_with fail;refine(ba.o _ ae.o).mono ?_;rintro e r ⟨rfl,b⟩;obtain⟨aB,aI,aT⟩:=Y3 (aA.o.trans (Zb b)) (ae.o.old b) (aS.o.old b);clear b;go_upto_region 18 with(fail);have B:Zx r.heap.size r (r.alloc (.cells #[.string ⟨#[61]⟩] 9)):=bA;obtain⟨X,aJ,aU⟩:=Y3 (aB.o.trans (Zb B)) (aI.o.old B) (aT.o.old B);have ag:=Za (Dn p c (u::q) [61] aJ.o r.heap.size 1 ((Zd r [.string ⟨#[61]⟩] 9).at 0 _ rfl));clear B;go_wp2_with fail;refine(ag.o).mono ?_;intro e bm i
 cases hA:An [61] (u::q)with
 |error n=>
  rw[hA]at i;obtain⟨h,rfl⟩:=i;have D:=Za (X.o.trans h);have k:Bd f (t::d)=.error n:=by unfold Bd;rw[Ah E.o];dsimp only;rw[Ah F.o];dsimp only;rw[Ah G.o];dsimp only;rw[Ah H.o];dsimp only;rw[Ah I.o];dsimp only;rw[y.o];dsimp only;rw[Ah L.o];dsimp only;rw[Ah K.o];dsimp only;rw[hA]
  have l:=M.o.symm.trans k;subst l;clear k h;unfold Bv;go_wp2;exact⟨rfl,D.o,rfl⟩
 |ok q2=>
  rw[hA]at i;obtain⟨h,rfl,j⟩:=i;obtain⟨W,aF,af⟩:=Y3 (X.o.trans h) j (aU.o.sfr h J.o);clear h j;have C:=Za hA;clear hA;clear ag;have ak:4*q2.length+2≤f:=by have g:=Bp C.o;have bn:=aC.o;omega
  go_wp2_with fail;refine(ap.o q2 _ ak aF.o).mono ?_;intro e an i
  cases hA:Bk f 1 q2 with
  |error n=>
   rw[hA]at i;obtain⟨h,rfl⟩:=i;have D:=Za (W.o.trans h);have k:Bd f (t::d)=.error n:=by unfold Bd;rw[Ah E.o];dsimp only;rw[Ah F.o];dsimp only;rw[Ah G.o];dsimp only;rw[Ah H.o];dsimp only;rw[Ah I.o];dsimp only;rw[y.o];dsimp only;rw[Ah L.o];dsimp only;rw[Ah K.o];dsimp only;rw[C.o];dsimp only;rw[hA]
   have l:=M.o.symm.trans k;subst l;clear k h;unfold Bv;go_wp2;exact⟨rfl,D.o,rfl⟩
  |ok q=>
   obtain⟨x,bl⟩:=q;rw[hA]at i;obtain⟨h,v,rfl,j,m⟩:=i;obtain⟨bo,rfl,hx,al⟩:=m;obtain⟨bd,be,rfl⟩:=hx.shape;obtain⟨bc,aD⟩:=Y2 (hx.up (show w.heap.size+1≤bm.heap.size from af.o.lt)) al;clear hx al;obtain⟨au,aG,z⟩:=Y3 (W.o.trans h) j (af.o.sfr h J.o);clear h j;have ao:=Za hA;clear hA;clear ak;obtain⟨⟨bu,bv,bw,bx,bz⟩,bB,bC,bD,bE,bF⟩:=Ai z.o;have bG:=z.o.lt;go_wp2_with fail;have k:Bd f (t::d)=.ok (.mk 1 s [x] [] [],bl):=by unfold Bd;rw[Ah E.o];dsimp only;rw[Ah F.o];dsimp only;rw[Ah G.o];dsimp only;rw[Ah H.o];dsimp only;rw[Ah I.o];dsimp only;rw[y.o];dsimp only;rw[Ah L.o];dsimp only;rw[Ah K.o];dsimp only;rw[C.o];dsimp only;rw[ao.o]
   have l:=M.o.symm.trans k;subst l;obtain⟨⟨bf,bg,bh,bi,bj⟩,_⟩:=Ai ((Ho z.o (ι 1) (σ s) (κ an.heap.size 1 1) (ν) (ν)).alloc (ξ x (ρ bd x.args be)));exact Ya (v:=.agg #[ι 1,σ s,κ an.heap.size 1 1,ν,ν]) (by simp [results,Zn,go_sem,bf,bg,bh,bi,bj]) rfl (eH aK.o au.o aG.o bc.o aD.o z.o.lt)
structure VY2 (p tb b0 be:Nat)(nm:Bs)(x y:Ex)(xa:Option Zz)(xc:Nat)(l r2:List Tk)(err:Option Int)(W:Zw)(L:Nat→Bool)(sa:Option Zz)(sc:Nat)(nb:Nat)(z51 z52 z53 z54 z55 z56:Value)(wx:Zw):Prop where
 ord:L 6=true→∀j,j<6→L j=true
 p4_3:L 4=true→L 3=true
 p5_4:L 5=true→L 4=true
 p6_4:L 6=true→L 4=true
 c0:L 0=true→z51=.string (Aa nm)
 c1:L 1=true→z52=exV x (.slice xa x.args.length xc)
 c2:L 2=true→z53=.pointer (some ⟨p,0,none⟩)
 c3:L 3=true→z54=exV y (.slice sa y.args.length sc)
 c4:L 4=true→z55=.slice (some ⟨nb,0,none⟩) 2 2
 c5:L 5=true→z56=.agg #[.int .i64 2,.string (Aa nm),.slice (some ⟨nb,0,none⟩) 2 2,.slice none 0 0,.slice none 0 0]
 fr:AFr p b0 W.heap.size W wx
 pa:L 3=false→Ps wx p tb l
 pb:L 3=true→Ps wx p tb r2
 e:Ad wx be [.int .i64 x.kind,.int .i64 x.op,.int .i64 x.n,.string (Aa x.name),.slice xa x.args.length xc] 35
 r0:L 6=false→Ad wx b0 [.int .i64 0,.string ⟨#[]⟩,.slice none 0 0,.slice none 0 0,.slice none 0 0] 50
 r1:L 6=true→Ad wx b0 [.int .i64 2,.string (Aa nm),.slice (some ⟨nb,0,none⟩) 2 2,.slice none 0 0,.slice none 0 0] 50
 xx:Ag (b0+1≤ ·) wx x.args (.slice xa x.args.length xc)
 ya:L 3=true→Ag (b0+1≤ ·) wx y.args (.slice sa y.args.length sc)
 yn:L 3=true→I64 y.n
 xy:L 4=true→Ag (b0+1≤ ·) wx [x,y] (.slice (some ⟨nb,0,none⟩) 2 2)
def IY2(p ay a b:Nat)(nm:Bs)(x y:Ex)(az:Option Zz)(aA:Nat)(l aw:List Tk)(k:Option Int)(i:Zw)(n ag al ar au av o q r s t u v w z A B C D E F G H I J K M N O P Q R S T U V W X Y Z aa ab ac ad ae af ah ai aj ak am an ao ap aq:Value)(L:Nat→Bool)(j:Act)(w':Zw):Prop:=
 ∃ax:Option Zz,∃sc:Nat,∃m:Nat,∃c d e f g h:Value,VY2 p ay a b nm x y az aA l aw k i L ax sc m c d e f g h w'∧j=⟨[.pointer (some ⟨p,0,none⟩),n,.pointer (some ⟨a,0,none⟩),.string (Aa nm),.pointer (some ⟨b,0,none⟩),ag,al,ar,au,av,o,q,r,s,t,u,v,w,z,A,B,C,D,E,F,G,H,I,J,K,M,N,O,P,Q,R,S,T,U,V,W,X,Y,Z,aa,ab,ac,ad,ae,af,ah,c,d,e,f,g,h,ai,aj,ak,am,an,ao,ap,aq].toArray,[]⟩
def RY2(p ao a e:Nat)(nm:Bs)(x y:Ex)(ap:Option Zz)(aq:Nat)(l am:List Tk)(ar:Option Int)(c:Zw)(f Y ad aj ak al g h i j k m n o q r s t u v w z A B C D E F G H I J K L M N O P Q R S T U V W X Z aa ab ac ae af ag ah ai:Value)(d:Act)(w':Zw):Prop:=
 ∃an:Option Zz,∃sc:Nat,∃b:Nat,(AFr p a c.heap.size c w'∧Ps w' p ao am∧Ad w' a [.int .i64 2,.string (Aa nm),.slice (some ⟨b,0,none⟩) 2 2,.slice none 0 0,.slice none 0 0] 50∧Ag (a+1≤ ·) w' [x,y] (.slice (some ⟨b,0,none⟩) 2 2))∧d=⟨[.pointer (some ⟨p,0,none⟩),f,.pointer (some ⟨a,0,none⟩),.string (Aa nm),.pointer (some ⟨e,0,none⟩),Y,ad,aj,ak,al,g,h,i,j,k,m,n,o,q,r,s,t,u,v,w,z,A,B,C,D,E,F,G,H,I,J,K,L,M,N,O,P,Q,R,S,T,U,V,W,X,Z,.string (Aa nm),exV x (.slice ap x.args.length aq),.pointer (some ⟨p,0,none⟩),exV y (.slice an y.args.length sc),.slice (some ⟨b,0,none⟩) 2 2,.agg #[.int .i64 2,.string (Aa nm),.slice (some ⟨b,0,none⟩) 2 2,.slice none 0 0,.slice none 0 0],aa,ab,ac,ae,af,ag,ah,ai].toArray,[]⟩
theorem tS(p S g G:Nat)(nm:Bs)(x y:Ex)(E:Option Zz)(F:Nat)(l be:List Tk)(P:Option Int)(i:Zw)(R:Ps i p S l)(H:Ad i G [.int .i64 x.kind,.int .i64 x.op,.int .i64 x.n,.string (Aa x.name),.slice E x.args.length F] 35)(m:Ad i g [.int .i64 0,.string ⟨#[]⟩,.slice none 0 0,.slice none 0 0,.slice none 0 0] 50)(hx:Ag (g+1≤ ·) i x.args (.slice E x.args.length F))(bm:I64 x.n)(bN:p<g)(ca:g<G)(bt:Zv (∀T,Ps T p S l→Zy Zc 33 #[.pointer (some ⟨p,0,none⟩)] T fun e w'=>match P with|some n=>e=Bv n∧SFr p T w'|none=> ∃s,e=.returned (exV y s)∧SFr p T w'∧Ps w' p S be∧Ag (T.heap.size≤ ·) w' y.args s∧I64 y.n))(Q:Exit→Act→Zw→Prop)(bj:∀n A w',P=some n→A.defers=[]→AFr p g i.heap.size i w'→Q (.panic [{v:=.iface 110 (.agg #[.int .i64 n]),recovered:=false}]) A w'){Z aQ aV bb bc bd aa ab ac ad ae af ag ah ai aj ak al am an ao ap aq ar au av aw ax ay az aA aB aC aD aE aF aG aH aI aJ aK aL aM aN aO aP aR bn bo bp bq br bs aS aT aU aW aX aY aZ ba:Value}(bf u:Act→Zw→Prop)(hJ:∀A w',RY2 p S g G nm x y E F l be P i Z aQ aV bb bc bd aa ab ac ad ae af ag ah ai aj ak al am an ao ap aq ar au av aw ax ay az aA aB aC aD aE aF aG aH aI aJ aK aL aM aN aO aP aR aS aT aU aW aX aY aZ ba A w'→bf A w')(hM:∀A w',Met bf A w'→u A w'):
  Code.wp Zc ((Tryz.f188.body.bind (La 17)).getD .skip) (Exit.then u Q) ⟨[.pointer (some ⟨p,0,none⟩),Z,.pointer (some ⟨g,0,none⟩),.string (Aa nm),.pointer (some ⟨G,0,none⟩),aQ,aV,bb,bc,bd,aa,ab,ac,ad,ae,af,ag,ah,ai,aj,ak,al,am,an,ao,ap,aq,ar,au,av,aw,ax,ay,az,aA,aB,aC,aD,aE,aF,aG,aH,aI,aJ,aK,aL,aM,aN,aO,aP,aR,bn,bo,bp,bq,br,bs,aS,aT,aU,aW,aX,aY,aZ,ba].toArray,[]⟩ i:=by
 obtain⟨bx,bu,bC,bE,bD,bB⟩:=Y6 R H m hx bm bj;have cb:G<i.heap.size:=H.lt;clear R H m hx bm bj
 conv=>arg 2;whnf
 (try dsimp only);refine Fv (by kernel_rfl) (by kernel_rfl) (IY2 p S g G nm x y E F l be P i Z aQ aV bb bc bd aa ab ac ad ae af ag ah ai aj ak al am an ao ap aq ar au av aw ax ay az aA aB aC aD aE aF aG aH aI aJ aK aL aM aN aO aP aR aS aT aU aW aX aY aZ ba) ?_ ?_ ?_
 ·exact⟨none,0,0,bn,bo,bp,bq,br,bs,⟨(fun c=>by cases c),(fun c=>by cases c),(fun c=>by cases c),(fun c=>by cases c),(fun c=>by cases c),(fun c=>by cases c),(fun c=>by cases c),(fun c=>by cases c),(fun c=>by cases c),(fun c=>by cases c),((AFr.refl p g i.heap.size i).old (Zf _ _).drew),(fun _=>bx.o.old (Zf _ _).drew),(fun c=>by cases c),(bu.o.old (Zf _ _).drew),(fun _=>bC.o.old (Zf _ _).drew),(fun c=>by cases c),(bE.o.old (Zf _ _).drew),(fun c=>by cases c),(fun c=>by cases c),(fun c=>by cases c)⟩,rfl⟩
 ·intro L bF D k X Y r h
  obtain⟨t,sc,q,I,J,K,M,N,O,a,rfl⟩:=X;have Y:k=0∨k=1∨k=2∨k=3∨k=4∨k=5∨k=6:=by
   have:k<7:=Y;omega
  rcases Y with rfl|rfl|rfl|rfl|rfl|rfl|rfl
  ·have f:=kf a.ord r
   refine Bh rfl rfl (fun u B=>?_)
   conv=>arg 2;whnf
   go_wp2;exact⟨t,sc,q,σ nm,J,K,M,N,O,⟨kl f,kq a.p4_3,kq a.p5_4,kq a.p6_4,(fun _=>rfl),kc a.c1,kc a.c2,kc a.c3,kc a.c4,kc a.c5,a.fr,(fun d=>a.pa (kb d)),kc a.pb,a.e,(fun d=>a.r0 (kb d)),kl f,a.xx,kc a.ya,kc a.yn,kc a.xy⟩,rfl⟩
  ·have f:=kf a.ord r
   have hx:=a.e;obtain ⟨bO, bP, bQ, bR, bS⟩ := τ5 hx;refine Bh rfl rfl (fun u B=>?_)
   conv=>arg 2;whnf
   go_wp2;exact⟨t,sc,q,I,exV x (ρ E x.args F),K,M,N,O,⟨kl f,kq a.p4_3,kq a.p5_4,kq a.p6_4,kc a.c0,(fun _=>rfl),kc a.c2,kc a.c3,kc a.c4,kc a.c5,a.fr,(fun d=>a.pa (kb d)),kc a.pb,a.e,(fun d=>a.r0 (kb d)),kl f,a.xx,kc a.ya,kc a.yn,kc a.xy⟩,rfl⟩
  ·have f:=kf a.ord r
   refine Bh rfl rfl (fun u B=>?_)
   conv=>arg 2;whnf
   go_wp2;exact⟨t,sc,q,I,J,π p,M,N,O,⟨kl f,kq a.p4_3,kq a.p5_4,kq a.p6_4,kc a.c0,kc a.c1,(fun _=>rfl),kc a.c3,kc a.c4,kc a.c5,a.fr,(fun d=>a.pa (kb d)),kc a.pb,a.e,(fun d=>a.r0 (kb d)),kl f,a.xx,kc a.ya,kc a.yn,kc a.xy⟩,rfl⟩
  ·have f:=kf a.ord r
   have bI:L 2=true:=h _ rfl ⟨2,.data⟩ (by simp) rfl;obtain rfl:=(a.c2 bI).symm;have R:=a.pa r;refine Bh rfl rfl (fun u B=>?_)
   conv=>arg 2;whnf
   obtain⟨bz,bw⟩:=Y2 R a.fr;clear R;go_wp2_with fail;refine(bt.o _ bz.o).mono ?_;intro e cf H
   cases P with
   |some n=>
    obtain⟨rfl,bk⟩:=H;unfold Bv;have bv:=Za (bw.o.trans (AFr.of_sfr bk));clear bk B a;go_wp2_with fail;exact bB.o n _ _ rfl rfl bv.o
   |none=>
   obtain⟨ce,rfl,U,bM,bl,bL⟩:=H;obtain⟨bg,bh,rfl⟩:=bl.shape;go_wp2;exact⟨bg,bh,q,I,J,π p,exV y (.slice (bg) y.args.length (bh)),N,O,⟨kl f,(fun _=>Bo L 3),kq a.p5_4,kq a.p6_4,kc a.c0,kc a.c1,kc a.c2,(fun _=>rfl),kc a.c4,kc a.c5,(a.fr.trans (AFr.of_sfr U)),(ks),(fun _=>bM),(a.e.sfr U (by omega)),(fun c=>(a.r0 (kb c)).sfr U (by omega)),kl f,(a.xx.keep (U.fresh (by omega))),(fun _=>bl.mono (fun b bK=>by have bY:D.heap.size≤b:=bK;have bZ:=a.fr.size;omega)),(fun _=>bL),(kn a.p4_3 r)⟩,rfl⟩
  ·have f:=kf a.ord r
   have bH:L 1=true:=h _ rfl ⟨1,.data⟩ (by simp) rfl;obtain rfl:=(a.c1 bH).symm;have w:L 3=true:=h _ rfl ⟨3,.data⟩ (by simp) rfl;obtain rfl:=(a.c3 w).symm;have C:Zx D.heap.size D (D.alloc (.cells #[ι x.kind,ι x.op,ι x.n,σ x.name,ρ E x.args F,ι y.kind,ι y.op,ι y.n,σ y.name,ρ t y.args sc] 35)):=bA;have cc:=a.fr.size;refine Bh rfl rfl (fun u B=>?_)
   conv=>arg 2;whnf
   go_wp2;exact⟨t,sc,D.heap.size,I,exV x (ρ E x.args F),K,exV y (ρ t y.args sc),.slice (some ⟨(D.heap.size),0,none⟩) 2 2,O,⟨kl f,(kd (w)),(fun _=>Bo L 4),(fun _=>Bo L 4),kc a.c0,kc a.c1,kc a.c2,kc a.c3,(fun _=>rfl),(kn a.p5_4 r),(AFr.old (a.fr) C),(fun d=>Ps.old (a.pa (kb d)) C),(fun d=>Ps.old (a.pb (kb d)) C),(Zl (a.e) C),(fun d=>Zl (a.r0 (kb d)) C),kl f,(Ag.old C (a.xx)),(fun d=>Ag.old C (a.ya (kb d))),(fun d=>(a.yn (kb d))),(fun _=>ex_box2 a.xx bD.o (a.ya w) (a.yn w) (by omega))⟩,rfl⟩
  ·have f:=kf a.ord r
   have bG:L 0=true:=h _ rfl ⟨0,.data⟩ (by simp) rfl;obtain rfl:=(a.c0 bG).symm;have bi:L 4=true:=h _ rfl ⟨4,.data⟩ (by simp) rfl;obtain rfl:=(a.c4 bi).symm;refine Bh rfl rfl (fun u B=>?_)
   conv=>arg 2;whnf
   go_wp2;exact⟨t,sc,q,σ nm,J,K,M,κ q 2 2,.agg #[ι 2,σ nm,κ q 2 2,ν,ν],⟨kl f,kq a.p4_3,(kd (bi)),kq a.p6_4,kc a.c0,kc a.c1,kc a.c2,kc a.c3,kc a.c4,(fun _=>rfl),a.fr,(fun d=>a.pa (kb d)),kc a.pb,a.e,(fun d=>a.r0 (kb d)),kl f,a.xx,kc a.ya,kc a.yn,kc a.xy⟩,rfl⟩
  ·have W:∀j,j<6→L j=true:=fun j V=>by
    have V:j=0∨j=1∨j=2∨j=3∨j=4∨j=5:=by omega
    rcases V with rfl|rfl|rfl|rfl|rfl|rfl
    ·exact h _ rfl ⟨0,.phase⟩ (by simp) rfl
    ·exact h _ rfl ⟨1,.phase⟩ (by simp) rfl
    ·exact h _ rfl ⟨2,.phase⟩ (by simp) rfl
    ·exact h _ rfl ⟨3,.chain⟩ (by simp) rfl
    ·exact h _ rfl ⟨4,.phase⟩ (by simp) rfl
    ·exact h _ rfl ⟨5,.data⟩ (by simp) rfl
   have w:L 3=true:=h _ rfl ⟨3,.chain⟩ (by simp) rfl;have bJ:L 5=true:=h _ rfl ⟨5,.data⟩ (by simp) rfl;obtain rfl:=(a.c5 bJ).symm;have m:=a.r0 r;obtain ⟨cg, ch, ci, cj, ck⟩ := τ5 m;have bT:=m.fz 0;have bU:=m.fz 1;have bV:=m.fz 2;have bW:=m.fz 3;have bX:=m.fz 4;have cd:=m.lt;refine Bh rfl rfl (fun u B=>?_)
   conv=>arg 2;whnf
   go_wp2;exact⟨t,sc,q,I,J,K,M,N,.agg #[ι 2,σ nm,κ q 2 2,ν,ν],⟨(fun _ j V=>by rw[Ay L (show j≠6 by omega)];exact W j V),kq a.p4_3,kq a.p5_4,(kd (W 4 (by decide))),kc a.c0,kc a.c1,kc a.c2,kc a.c3,kc a.c4,kc a.c5,(((((a.fr.set _ _).set _ _).set _ _).set _ _).set _ _),(fun c=>by rw[Ay L (by decide)]at c;rw[w]at c;cases c),(fun _=>ps5 (a.pb w) bN _ _ _ _ _),(((((a.e.other (by omega) _ _).other (by omega) _ _).other (by omega) _ _).other (by omega) _ _).other (by omega) _ _),(ks),(fun _=>Ho m _ _ _ _ _),(a.xx.keep (Ha _ (by show ¬g+1≤g;omega) _ _ _ _ _)),(fun _=>(a.ya w).keep (Ha _ (by show ¬g+1≤g;omega) _ _ _ _ _)),(fun _=>a.yn w),(fun _=>(a.xy (W 4 (by decide))).keep (Ha _ (by show ¬g+1≤g;omega) _ _ _ _ _))⟩,rfl⟩
 ·intro L bF D X z
  obtain⟨t,sc,q,I,J,K,M,N,O,a,rfl⟩:=X;obtain rfl:=(a.c0 (z 0 (by decide))).symm;obtain rfl:=(a.c1 (z 1 (by decide))).symm;obtain rfl:=(a.c2 (z 2 (by decide))).symm;obtain rfl:=(a.c3 (z 3 (by decide))).symm;obtain rfl:=(a.c4 (z 4 (by decide))).symm;obtain rfl:=(a.c5 (z 5 (by decide))).symm;exact hM _ _ (Met.intro (hJ _ _ ⟨t,sc,q,⟨a.fr,a.pb (z 3 (by decide)),a.r1 (z 6 (by decide)),a.xy (z 4 (by decide))⟩,rfl⟩))
theorem Uv {p f c:Nat}{w b w':Zw}(a:SFr p w b)(k:AFr p f c b w')(g:w.heap.size≤c)(h:w.heap.size≤f):SFr p w w':=
 ⟨k.os.trans a.os,k.tape.trans a.tape,k.output.trans a.output,Zi a.size k.size,fun i d e=>(k.block i (Zt d a.size) (by omega) e (by omega)).trans (a.block i d e)⟩
theorem cU(f:Nat)(t:Tk)(h:List Tk)(w:Zw)(p d:Nat)(aV:4*(t::h).length≤f)(A:Ps w p d (t::h))(ao:isP [98,114,101,97,107] t=false)(ap:isP [99,111,110,116,105,110,117,101] t=false)(P:isP [114,101,116,117,114,110] t=false)(aq:isP [112,114,105,110,116] t=false)(ar:isP [116,114,97,112] t=false)(s:Bs)(u:Tk)(q:List Tk)(al:Ew (t::h)=.ok (s,u::q))(no:isP [40] u=false)(av:isP [91] u=true):
  Zy Zc 188 #[.pointer (some ⟨p,0,none⟩)] w (Gw (StH w.heap.size) w p d (Bd f (t::h))):=by
 have ag:=Za A.lt;have X:Zv (w.heap.size≠p):=by show _≠_;have:=A.lt;omega
 have ai:Zx w.heap.size w (w.alloc (ϑ)):=bA;have be:Zv (SFr p w (w.alloc (ϑ))):=Zb ai;obtain⟨bu,aE⟩:=Y2 (Zd w θ 50) (A.old ai);clear ai;obtain⟨aR,ah⟩:∃aR,Bd f (t::h)=aR:=⟨_,rfl⟩;rw[ah];have aa:=Za ah;clear ah;have S:=Za ao;have bH:Zv (∀a,Ps a p d (t::h)→_):=fun a g=>Aq p d t h [98,114,101,97,107] a g ao
 have T:=Za ap;have bI:Zv (∀a,Ps a p d (t::h)→_):=fun a g=>Aq p d t h [99,111,110,116,105,110,117,101] a g ap
 have U:=Za P;have bJ:Zv (∀a,Ps a p d (t::h)→_):=fun a g=>Aq p d t h [114,101,116,117,114,110] a g P
 have V:=Za aq;have bK:Zv (∀a,Ps a p d (t::h)→_):=fun a g=>Aq p d t h [112,114,105,110,116] a g aq
 have W:=Za ar;have bL:Zv (∀a,Ps a p d (t::h)→_):=fun a g=>Aq p d t h [116,114,97,112] a g ar
 rw[Ze]at aV;have bo:Zv (∀a,Ps a p d (t::h)→_):=fun a g=>Gb p d (t::h) a g
 have L:=Za al;have aW:=Gu al;simp only[Ze]at aW;obtain⟨Y,ab⟩:=Y2 no av;have bN:Zv (∀a,Ps a p d (u::q)→_):=fun a g=>Aq p d u q [40] a g no
 have bM:Zv (∀a,Ps a p d (u::q)→_):=fun a g=>Bz p d u q [91] a g av
 have aS:=(Nk f).2.1;have ax:Zv (∀q2 a,4*q2.length+2≤f→Ps a p d q2→_):=fun q2 a bZ g=>aS q2 a p d bZ g
 have aC:Zv (4*(u::q).length+4≤f):=by show _≤_;simp only[Ze];omega
 clear no av aS;clear al aW;clear aV ao ap P aq ar;clear A;go_enter Zj,Zk;go_wp2_with fail;refine(bH.o _ aE.o).mono ?_;rintro e a ⟨rfl,b⟩;obtain⟨bf,aF,bv⟩:=Y3 (be.o.trans (Zb b)) (aE.o.old b) (bu.o.old b);clear b;go_wp2_with fail;refine(bI.o _ aF.o).mono ?_;rintro e w2 ⟨rfl,b⟩;obtain⟨bh,aI,bz⟩:=Y3 (bf.o.trans (Zb b)) (aF.o.old b) (bv.o.old b);clear b;go_wp2_with fail;refine(bJ.o _ aI.o).mono ?_;rintro e cm ⟨rfl,b⟩;obtain⟨bi,aJ,bB⟩:=Y3 (bh.o.trans (Zb b)) (aI.o.old b) (bz.o.old b);clear b;go_wp2_with fail;refine(bK.o _ aJ.o).mono ?_;rintro e cn ⟨rfl,b⟩;obtain⟨bj,aK,bC⟩:=Y3 (bi.o.trans (Zb b)) (aJ.o.old b) (bB.o.old b);clear b;go_wp2_with fail;refine(bL.o _ aK.o).mono ?_;rintro e co ⟨rfl,b⟩;obtain⟨bk,bq,bD⟩:=Y3 (bj.o.trans (Zb b)) (aK.o.old b) (bC.o.old b);clear b;go_wp2_with fail;refine(bo.o _ bq.o).mono ?_;intro e cp j;rw[L.o]at j;obtain⟨c,v,rfl,k,N⟩:=j;have N:v= σ s:=N;subst N;obtain⟨bl,aL,bE⟩:=Y3 (bk.o.trans c) k (bD.o.sfr c X.o);clear c k;go_wp2_with fail;refine(bN.o _ aL.o).mono ?_;rintro e cq ⟨rfl,b⟩;obtain⟨bm,br,bF⟩:=Y3 (bl.o.trans (Zb b)) (aL.o.old b) (bE.o.old b);clear b;go_wp2_with fail;refine(bM.o _ br.o).mono ?_;rintro e cf ⟨rfl,c,k⟩;obtain⟨aB,bs,aN⟩:=Y3 (bm.o.trans c) k (bF.o.sfr c X.o);clear c k;have M:4*q.length+2≤f:=by have:=aC.o;simp only[Ze]at this;omega
 go_wp2_with fail;refine(ax.o q _ M bs.o).mono ?_;intro e z j
 cases i:Bk f 1 q with
 |error n=>
  rw[i]at j;obtain⟨c,rfl⟩:=j;have af:=Za (aB.o.trans c);have m:Bd f (t::h)=.error n:=by unfold Bd;rw[Ah S.o];dsimp only;rw[Ah T.o];dsimp only;rw[Ah U.o];dsimp only;rw[Ah V.o];dsimp only;rw[Ah W.o];dsimp only;rw[L.o];dsimp only;rw[Ah Y.o];dsimp only;rw[Bt ab.o];dsimp only;rw[i]
  have G:=aa.o.symm.trans m;subst G;clear m c;unfold Bv;go_wp2;exact⟨rfl,af.o,rfl⟩
 |ok q=>
  obtain⟨x,K⟩:=q;rw[i]at j;obtain⟨c,v,rfl,k,N⟩:=j;obtain⟨cl,rfl,hx,D⟩:=N;obtain⟨C,F,rfl⟩:=hx.shape;obtain⟨bQ,aD⟩:=Y2 (hx.up (show w.heap.size+1≤cf.heap.size from aN.o.lt)) D;clear hx D;obtain⟨bn,aM,aO⟩:=Y3 (aB.o.trans c) k (aN.o.sfr c X.o);clear c k;have R:=Za i;clear i;clear M;go_upto_region 16 with(fail);obtain⟨ac,ad⟩:∃ac,z.alloc (ξ x (ρ C x.args F))=ac:=⟨_,rfl⟩;rw[ad];have l:Zx z.heap.size z ac:=ad ▸ bA;obtain⟨bg,aG,bw,bO,bb⟩:=Y5 (bn.o.trans (Zb l)) (aM.o.old l) (aO.o.old l) (bQ.o.old l) (ad ▸ Zd z (χ x (ρ C x.args F)) 35);have bd:Zv (z.heap.size≠p):=by show _≠_;have:=aM.o.lt;omega
  clear l ad;obtain⟨B,ca⟩:∃B,B=ac:=⟨_,rfl⟩;subst ca;have l:Zx B.heap.size B (B.alloc (.cells #[.string ⟨#[93]⟩,.string ⟨#[61]⟩] 9)):=bA;have aY:B.heap.size≠p:=by have:=aG.o.lt;omega
  obtain⟨az,bp,bx,bc,bP⟩:=Y5 (bg.o.trans (Zb l)) (aG.o.old l) (bw.o.old l) (bb.o.old l) (bO.o.old l);have aP:=Za (Qj p d K [93] [61] bp.o B.heap.size 2 ((Zd B [.string ⟨#[93]⟩,.string ⟨#[61]⟩] 9).at 0 _ rfl) ((Zd B [.string ⟨#[93]⟩,.string ⟨#[61]⟩] 9).at 1 _ rfl) aY);clear l aY;go_wp2_with fail;refine(aP.o).mono ?_;intro e I j
  cases i:Hz [93] [61] K with
  |error n=>
   rw[i]at j;obtain⟨c,rfl⟩:=j;have af:=Za (az.o.trans c);have m:Bd f (t::h)=.error n:=by unfold Bd;rw[Ah S.o];dsimp only;rw[Ah T.o];dsimp only;rw[Ah U.o];dsimp only;rw[Ah V.o];dsimp only;rw[Ah W.o];dsimp only;rw[L.o];dsimp only;rw[Ah Y.o];dsimp only;rw[Bt ab.o];dsimp only;rw[R.o];dsimp only;unfold Hz at i;cases hB:An [93] K with
    |error n=>rw[hB]at i;injection i with i;subst i;rfl
    |ok J=>rw[hB]at i;dsimp only at i ⊢;rw[i]
   have G:=aa.o.symm.trans m;subst G;clear m c;unfold Bv;go_wp2;exact⟨rfl,af.o,rfl⟩
  |ok q2=>
   rw[i]at j;obtain⟨c,rfl,k⟩:=j;obtain⟨aA,aH,Z,ay,aQ⟩:=Y5 (az.o.trans c) k (bx.o.sfr c X.o) (bc.o.sfr c bd.o) (bP.o.keep (c.fresh (by have:=ag.o;omega)));clear c k;have aw:=Za i;clear i;clear aP;go_upto_region 17 with(fail);have M:4*q2.length+2≤f:=by
    have g:=(Cw f).1 _ _ _ _ R.o;have H:=aC.o;have r:=aw.o;unfold Hz at r
    cases hB:An [93] K with
    |error n=>rw[hB]at r;cases r
    |ok J=>
     rw[hB]at r;have ci:=Bp hB;have cj:=Bp r;simp only[Ze]at H;omega
   have O:∃J,An [93] K=.ok J∧An [61] J=.ok q2:=by
    have r:=aw.o;unfold Hz at r
    cases hB:An [93] K with
    |error n=>rw[hB]at r;cases r
    |ok J=>rw[hB]at r;exact⟨J,rfl,r⟩
   obtain⟨J,an,O⟩:=O;have aT:w.heap.size<z.heap.size:=aO.o.lt;have aj:=fun a g=>ax.o q2 a M g
   cases hy:Bk f 1 q2 with
   |error n=>
    have m:Bd f (t::h)=.error n:=by unfold Bd;rw[Ah S.o];dsimp only;rw[Ah T.o];dsimp only;rw[Ah U.o];dsimp only;rw[Ah V.o];dsimp only;rw[Ah W.o];dsimp only;rw[L.o];dsimp only;rw[Ah Y.o];dsimp only;rw[Bt ab.o];dsimp only;rw[R.o];dsimp only;rw[an];dsimp only;rw[O];dsimp only;rw[hy]
    have G:=aa.o.symm.trans m;subst G;clear m;have ck:∀(cg:Act→Zw→Prop) (Q:Exit→Act→Zw→Prop),True:=fun _ _=>trivial
    refine wp_mono (Q:=Exit.then (Met (RY2 p d w.heap.size z.heap.size s x x C F q2 [] (some n) I _ _ _ _ _ _ _ _ _ _ _ _ _ _ _ _ _ _ _ _ _ _ _ _ _ _ _ _ _ _ _ _ _ _ _ _ _ _ _ _ _ _ _ _ _ _ _ _ _ _ _ _ _ _ _)) _) (tS p d w.heap.size z.heap.size s x x C F q2 [] (some n) I aH.o ay.o Z.o aQ.o aD.o ag.o aT (fun a g=>by have H:=aj a g;rw[hy]at H;exact H.mono (fun e w2 A=>⟨A.2,A.1⟩)) (fun e E w'=> ∃ae,e=.panic [{v:=.iface 110 (.agg #[ι ae]),recovered:=false}]∧n=ae∧E.defers=[]∧AFr p w.heap.size I.heap.size I w') (fun ae E w' D ak c=>by injection D with D;exact⟨ae,rfl,D,ak,c⟩) _ _ (fun _ _ q=>q) (fun _ _ q=>q)) ?_;intro e E w' am
    cases e with
    |normal=>
     obtain⟨ce,sc,ba,⟨_,k,_⟩,_⟩:=(show RY2 p d w.heap.size z.heap.size s x x C F q2 [] (some n) I _ _ _ _ _ _ _ _ _ _ _ _ _ _ _ _ _ _ _ _ _ _ _ _ _ _ _ _ _ _ _ _ _ _ _ _ _ _ _ _ _ _ _ _ _ _ _ _ _ _ _ _ _ _ _ E w' from am);exact k.ends.elim
    |panic ch=>
     obtain⟨P,j,rfl,ak,c⟩:=am;injection j with j
     subst j;exact⟨ak,Uv aA.o c (by have:=Z.o.lt;omega) (Zg _),rfl⟩
    |_=>
     obtain⟨P,j,_⟩:=am
     cases j
   |ok qy=>
    obtain⟨y,au⟩:=qy;have m:Bd f (t::h)=.ok (.mk 2 s [x,y] [] [],au):=by unfold Bd;rw[Ah S.o];dsimp only;rw[Ah T.o];dsimp only;rw[Ah U.o];dsimp only;rw[Ah V.o];dsimp only;rw[Ah W.o];dsimp only;rw[L.o];dsimp only;rw[Ah Y.o];dsimp only;rw[Bt ab.o];dsimp only;rw[R.o];dsimp only;rw[an];dsimp only;rw[O];dsimp only;rw[hy]
    have G:=aa.o.symm.trans m;subst G;clear m;refine wp_cut (fun E w'=>RY2 p d w.heap.size z.heap.size s x y C F q2 au none I _ _ _ _ _ _ _ _ _ _ _ _ _ _ _ _ _ _ _ _ _ _ _ _ _ _ _ _ _ _ _ _ _ _ _ _ _ _ _ _ _ _ _ _ _ _ _ _ _ _ _ _ _ _ _ E w') ?rest (fun bS bT hJ hM=>tS p d w.heap.size z.heap.size s x y C F q2 au none I aH.o ay.o Z.o aQ.o aD.o ag.o aT (fun a g=>by have H:=aj a g;rw[hy]at H;exact H.mono (fun e w2 A=>by obtain⟨c,v,rfl,k,cd,rfl,cc,cb⟩:=A;exact⟨cd,rfl,c,k,cc,cb⟩)) _ (fun n C a D=>by cases D) bS bT hJ hM)
    case rest=>
     rintro E w' ⟨ce,sc,ba,⟨aU,k,aX,aZ⟩,rfl⟩;obtain⟨bG,bt,bR⟩:=Y3 (Uv aA.o aU (by have:=Z.o.lt;omega) (Zg _)) k aZ;obtain⟨⟨bU,bV,bW,bX,bY⟩,_⟩:=Ai aX;clear aU k aX aZ M an O aj hy;go_wp2;exact Ya (v:=.agg #[ι 2,σ s,κ ba 2 2,ν,ν]) (by simp [results,Zn,go_sem,bU,bV,bW,bX,bY]) rfl ⟨bG.o,_,rfl,bt.o,_,_,_,rfl,bR.o.up (by omega),Zm,Zm⟩
theorem pX(f:Nat):SimpleC f:=by
 intro l w p e d b;obtain⟨t,c,rfl⟩:=b.ends.ne
 cases h0:isP [98,114,101,97,107] t with
 |true=>exact jX f t c w p e d b h0
 |false=>
  cases h1:isP [99,111,110,116,105,110,117,101] t with
  |true=>exact gQ f t c w p e d b h0 h1
  |false=>
   cases h2:isP [114,101,116,117,114,110] t with
   |true=>exact lA f t c w p e d b h0 h1 h2
   |false=>
    cases h3:isP [112,114,105,110,116] t with
    |true=>exact dN f t c w p e d b h0 h1 h2 h3
    |false=>
     cases h4:isP [116,114,97,112] t with
     |true=>exact iF f t c w p e d b h0 h1 h2 h3 h4
     |false=>
      cases hnm:Ew (t::c)with
      |error n=>exact Xt f t c w p e d b h0 h1 h2 h3 h4 n hnm
      |ok q=>
       obtain⟨s,q⟩:=q;have g:Iy q:=by
        have a:=eR t c;rw[hnm]at a
        by_cases hk:t.kind=1
        ·rw[if_pos hk]at a
         injection a with a
         injection a with _ a
         rw[a];exact b.ends.tail (by rw[hk];decide)
        ·rw[if_neg hk]at a;cases a
       obtain⟨u,q,rfl⟩:=g.ne
       cases a:isP [40] u with
       |true=>exact fQ f t c w p e d b h0 h1 h2 h3 h4 s u q hnm a
       |false=>
        cases h6:isP [91] u with
        |true=>exact cU f t c w p e d b h0 h1 h2 h3 h4 s u q hnm a h6
        |false=>exact iT f t c w p e d b h0 h1 h2 h3 h4 s u q hnm a h6
theorem jY {w b:Zw}{p d:Nat}{l:List Tk}{k:Int}{nm:Bs}{xs:List Ex}{f c:List St}{a t e:Value}(i:SFr p w b)(j:Ps b p d l)(g:Ag (w.heap.size+1≤ ·) b xs a)(m:Au (w.heap.size+1≤ ·) b f t)(h:Au (w.heap.size+1≤ ·) b c e):
  Gw (StH w.heap.size) w p d (.ok (.mk k nm xs f c,l)) (.returned (.agg #[.int .i64 k,.string (Aa nm),a,t,e])) b:=
 ⟨i,_,rfl,j,_,_,_,rfl,g.up (Zq _),m.up (Zq _),h.up (Zq _)⟩
theorem Pj {f:Nat}{t:Tk}{c:List Tk}(y:isP [105,102] t=true):Fa (f+1) (t::c)=match Cu f c with
  |.error e=>.error e
  |.ok (x,c)=>match Fe f c with
   |.error e=>.error e
   |.ok (a,c)=>match Bi [101,108,115,101] c with
    |none=>.ok (.mk 3 [] [x] a [],c)
    |some c=>match Fe f c with
     |.error e=>.error e
     |.ok (b,c)=>.ok (.mk 3 [] [x] a b,c):=by
 rw[Fa,Bt y];dsimp only
 cases Cu f c with
 |error e=>rfl
 |ok q=>
  obtain⟨x,q⟩:=q;dsimp only;unfold Fe
  cases An [123] q with
  |error e=>rfl
  |ok q=>
   dsimp only
   cases Ep f [] q with
   |error e=>rfl
   |ok q=>
    obtain⟨a,q⟩:=q;dsimp only
    cases Bi [101,108,115,101] q with
    |none=>rfl
    |some q=>
     dsimp only
     cases An [123] q with
     |error e=>rfl
     |ok q=>
      dsimp only
      cases Ep f [] q with
      |error e=>rfl
      |ok q=>rfl
theorem Np {f:Nat}{t:Tk}{b:List Tk}(n:isP [105,102] t=false)(y:isP [119,104,105,108,101] t=true):Fa (f+1) (t::b)=match Cu f b with
  |.error e=>.error e
  |.ok (x,b)=>match Fe f b with
   |.error e=>.error e
   |.ok (a,b)=>.ok (.mk 4 [] [x] a [],b):=by
 rw[Fa,Ah n];dsimp only;rw[Bt y];dsimp only
 cases Cu f b with
 |error e=>rfl
 |ok q=>
  obtain⟨x,q⟩:=q;dsimp only;unfold Fe
  cases An [123] q with
  |error e=>rfl
  |ok q=>
   dsimp only
   cases Ep f [] q with
   |error e=>rfl
   |ok q=>rfl
theorem Ma {f:Nat}{t:Tk}{a:List Tk}(n:isP [105,102] t=false)(b:isP [119,104,105,108,101] t=false):Fa (f+1) (t::a)=match Bd f (t::a)with
  |.error e=>.error e
  |.ok (x,a)=>match An [59] a with
   |.error e=>.error e
   |.ok a=>.ok (x,a):=by
 rw[Fa,Ah n];dsimp only;rw[Ah b];rfl
theorem st_finx {w b:Zw}{p c:Nat}{l:List Tk}{x:St}{a t e:Value}(g:SFr p w b)(h:Ps b p c l)(d:Ag (w.heap.size+1≤ ·) b x.args a)(i:Au (w.heap.size+1≤ ·) b x.thn t)(f:Au (w.heap.size+1≤ ·) b x.els e):
  Gw (StH w.heap.size) w p c (.ok (x,l)) (.returned (.agg #[.int .i64 x.kind,.string (Aa x.name),a,t,e])) b:=
 ⟨g,_,rfl,h,_,_,_,rfl,d.up (Zq _),i.up (Zq _),f.up (Zq _)⟩
theorem Fx {f:Nat}{l c:List Tk}{x:Ex}(a:Cu f l=.ok (x,c)):c.length<l.length:=by
 unfold Cu at a
 cases h1:An [40] l with
 |error e=>rw[h1]at a;cases a
 |ok q=>
  rw[h1]at a;dsimp only at a
  cases h2:Bk f 1 q with
  |error e=>rw[h2]at a;cases a
  |ok b=>
   obtain⟨y,b⟩:=b;rw[h2]at a;dsimp only at a
   cases h3:An [41] b with
   |error e=>rw[h3]at a;cases a
   |ok u=>
    rw[h3]at a;injection a with a;injection a with _ a;subst a
    have:=Bp h1;have:=(Cw f).1 _ _ _ _ h2;have:=Bp h3;omega
theorem oR(f:Nat)(aB:Ss f)(aC:∀l x d,Fe f l=.ok (x,d)→d.length<l.length)(t:Tk)(d:List Tk)(w:Zw)(p k:Nat)(al:4*(t::d).length≤f)(U:Ps w p k (t::d))(y:isP [105,102] t=true):
  Zy Zc 166 #[.pointer (some ⟨p,0,none⟩)] w (Gw (StH w.heap.size) w p k (Fa (f+1) (t::d))):=by
 have r:=Za U.lt;have L:Zv (w.heap.size≠p):=by show _≠_;have:=U.lt;omega
 have ak:Zx w.heap.size w (w.alloc (ϑ)):=bA;have aN:Zv (SFr p w (w.alloc (ϑ))):=Zb ak;obtain⟨ba,aT⟩:=Y2 (Zd w θ 50) (U.old ak);clear ak;obtain⟨aA,ai⟩:∃aA,Fa (f+1) (t::d)=aA:=⟨_,rfl⟩;rw[ai];have M:=Za ai;clear ai;have N:=Za y;have bf:Zv (∀m,Ps m p k (t::d)→_):=fun m O=>Bz p k t d [105,102] m O y
 rw[Ze]at al;have aD:=Pk f;have aK:Zv (∀m,Ps m p k d→_):=fun m O=>aD d m p k (by omega) O
 obtain⟨au,ao,aJ⟩:=Y3 al aB aC;clear al aD y aB aC;clear U;go_enter func166,ntmps166;go_wp2_with fail;refine(bf.o _ aT.o).mono ?_;rintro e m ⟨rfl,a,h⟩;obtain⟨ap,aU,av⟩:=Y3 (aN.o.trans a) h (ba.o.sfr a L.o);clear a h;go_wp2_with fail;refine(aK.o _ aU.o).mono ?_;intro e w2 b
 cases hA:Cu f d with
 |error n=>
  rw[hA]at b;obtain⟨a,rfl⟩:=b;have K:=Za (ap.o.trans a);have i:Fa (f+1) (t::d)=.error n:=by rw[Pj N.o,hA]
  have s:=M.o.symm.trans i;subst s;clear i a;unfold Bv;go_wp2;exact⟨rfl,K.o,rfl⟩
 |ok q=>
  obtain⟨x,am⟩:=q;rw[hA]at b;obtain⟨a,v,rfl,h,c⟩:=b;have c:Ag (m.heap.size≤ ·) w2 [x] v:=c;obtain⟨D,E,rfl⟩:=c.shape;have bg:=Za (c.up (show w.heap.size+1≤m.heap.size from av.o.lt));clear c;obtain⟨aO,aV,X⟩:=Y3 (ap.o.trans a) h (av.o.sfr a L.o);clear a h;have I:=Za hA;clear hA;obtain⟨⟨bp,bq,br,bs,bt⟩,bu,bv,bw,bx,bz⟩:=Ai X.o;have bB:=X.o.lt;go_upto_region 3 with(fail);obtain⟨C,g⟩:∃C,((w2.setCell ⟨w.heap.size,0,none⟩ (ι 3)).setCell ⟨w.heap.size,2,none⟩ (.slice D 1 E))=C:=⟨_,rfl⟩;rw[g];obtain⟨S,aq,aW,bh⟩:=Y4 (g ▸ ((X.o).set 0 (ι 3)).set 2 (.slice D 1 E)) (g ▸ ((aO.o).setNew (Zg _) 0 (ι 3)).setNew (Zg _) 2 (.slice D 1 E)) (g ▸ ((aV.o).other r.o 0 (ι 3)).other r.o 2 (.slice D 1 E)) (g ▸ ((bg.o).keep (Al _ (by show ¬w.heap.size+1≤w.heap.size;omega) 0 (ι 3))).keep (Al _ (by show ¬w.heap.size+1≤w.heap.size;omega) 2 (.slice D 1 E)));clear g;obtain⟨V,aj⟩:∃V,V=C:=⟨_,rfl⟩;subst aj;clear bp bq br bs bt bu bv bw bx bz bB;have aE:4*am.length≤f:=by have O:=Fx I.o;have bl:=au.o;omega
  obtain⟨⟨bC,bD,bE,bF,bG⟩,bH,bI,bJ,bK,bL⟩:=Ai S.o;have bM:=S.o.lt;go_wp2_with fail;refine(ao.o am _ p k aE aW.o).mono ?_;intro e aG b
  cases hA:Fe f am with
  |error n=>
   rw[hA]at b;obtain⟨a,rfl⟩:=b;have K:=Za (aq.o.trans a);have i:Fa (f+1) (t::d)=.error n:=by rw[Pj N.o,I.o];dsimp only;rw[hA]
   have s:=M.o.symm.trans i;subst s;clear i a;unfold Bv;go_wp2;exact⟨rfl,K.o,rfl⟩
  |ok q=>
   obtain⟨j,H⟩:=q;rw[hA]at b;obtain⟨a,v,rfl,h,c⟩:=b;have c:Au (V.heap.size≤ ·) aG j v:=c;obtain⟨A,B,rfl⟩:=c.shape;have bc:=Za (c.up (show w.heap.size+1≤V.heap.size from S.o.lt));clear c aE bC bD bE bF bG bH bI bJ bK bL bM;obtain⟨aP,aX,Y,bi⟩:=Y4 (aq.o.trans a) h (S.o.sfr a L.o) (bh.o.keep (a.fresh (by have:=r.o;omega)));clear a h;have P:=Za hA;clear hA;obtain⟨⟨bN,bO,bP,bQ,bR⟩,bS,bT,bU,bV,bW⟩:=Ai Y.o;have bX:=Y.o.lt;go_upto_region 4 with(fail);obtain⟨C,g⟩:∃C,(aG.setCell ⟨w.heap.size,3,none⟩ (ρ A j B))=C:=⟨_,rfl⟩;rw[g];obtain⟨aw,ar,R,ay,ax⟩:=Y5 (g ▸ (Y.o).set 3 (ρ A j B)) (g ▸ (aP.o).setNew (Zg _) 3 (ρ A j B)) (g ▸ (aX.o).other r.o 3 (ρ A j B)) (g ▸ (bi.o).keep (Al _ (by show ¬w.heap.size+1≤w.heap.size;omega) 3 (ρ A j B))) (g ▸ (bc.o).keep (Al _ (by show ¬w.heap.size+1≤w.heap.size;omega) 3 (ρ A j B)));clear g;obtain⟨aH,aj⟩:∃aH,aH=C:=⟨_,rfl⟩;subst aj;clear bN bO bP bQ bR bS bT bU bV bW bX;obtain⟨u,H,rfl⟩:=R.o.ends.ne
   cases b:isP [101,108,115,101] u with
   |false=>
    obtain⟨ab,aS⟩:=Y2 (Aq p k u H [101,108,115,101] _ R.o b) b;clear b;go_wp2_with fail;refine(ab.o).mono ?_;rintro e an ⟨rfl,J⟩;obtain⟨Q,W,T,ac,aa⟩:=Y5 (ar.o.trans (Zb J)) (R.o.old J) (aw.o.old J) (ay.o.old J) (ax.o.old J);clear J;go_wp2_with fail;have i:Fa (f+1) (t::d)=.ok (.mk 3 [] [x] j [],u::H):=by rw[Pj N.o,I.o];dsimp only;rw[P.o];dsimp only;rw[Ah aS.o]
    have s:=M.o.symm.trans i;subst s;obtain⟨⟨ad,ae,af,ag,ah⟩,_⟩:=Ai T.o;exact Ya (v:=.agg #[ι 3,ε,.slice D 1 E,ρ A j B,ν]) (by simp [results,results166,go_sem,ad,ae,af,ag,ah]) rfl (jY Q.o W.o ac.o aa.o Zm)
   |true=>
    obtain⟨ab,az⟩:=Y2 (Bz p k u H [101,108,115,101] _ R.o b) b;have aF:4*H.length≤f:=by
     have O:=Fx I.o;have bm:=aJ.o _ _ _ P.o;rw[Ze]at bm;have bl:=au.o;omega
    clear b;go_wp2_with fail;refine(ab.o).mono ?_;rintro e an ⟨rfl,a,h⟩;obtain⟨Q,W,T,ac,aa⟩:=Y5 (ar.o.trans a) h (aw.o.sfr a L.o) (ay.o.keep (a.fresh (by have:=r.o;omega))) (ax.o.keep (a.fresh (by have:=r.o;omega)));clear a h;go_wp2_with fail;refine(ao.o H _ p k aF W.o).mono ?_;intro e bo b
    cases hA:Fe f H with
    |error n=>
     rw[hA]at b;obtain⟨a,rfl⟩:=b;have K:=Za (Q.o.trans a);have i:Fa (f+1) (t::d)=.error n:=by rw[Pj N.o,I.o];dsimp only;rw[P.o];dsimp only;rw[Bt az.o];dsimp only;rw[hA]
     have s:=M.o.symm.trans i;subst s;clear i a;unfold Bv;go_wp2;exact⟨rfl,K.o,rfl⟩
    |ok q=>
     obtain⟨z,bn⟩:=q;rw[hA]at b;obtain⟨a,v,rfl,h,c⟩:=b;have c:Au (an.heap.size≤ ·) bo z v:=c;obtain⟨F,G,rfl⟩:=c.shape;have aL:=Za (c.up (show w.heap.size+1≤an.heap.size from T.o.lt));clear c aF;obtain⟨aQ,aY,Z,bj,bd⟩:=Y5 (Q.o.trans a) h (T.o.sfr a L.o) (ac.o.keep (a.fresh (by have:=r.o;omega))) (aa.o.keep (a.fresh (by have:=r.o;omega)));clear a h;have aI:=Za hA;clear hA;obtain⟨⟨q0,q1,q2,q3,q4⟩,bY,bZ,ca,cb,cc⟩:=Ai Z.o;have cd:=Z.o.lt;go_wp2_with fail;obtain⟨bb,aR,aZ,bk,be,aM⟩:=Y6 (Z.o.set 4 (ρ F z G)) (aQ.o.setNew (Zg _) 4 (ρ F z G)) (aY.o.other r.o 4 (ρ F z G)) (bj.o.keep (Al _ (by show ¬w.heap.size+1≤w.heap.size;omega) 4 (ρ F z G))) (bd.o.keep (Al _ (by show ¬w.heap.size+1≤w.heap.size;omega) 4 (ρ F z G))) (aL.o.keep (Al _ (by show ¬w.heap.size+1≤w.heap.size;omega) 4 (ρ F z G)));have i:Fa (f+1) (t::d)=.ok (.mk 3 [] [x] j z,bn):=by rw[Pj N.o,I.o];dsimp only;rw[P.o];dsimp only;rw[Bt az.o];dsimp only;rw[aI.o]
     have s:=M.o.symm.trans i;subst s;obtain⟨⟨ad,ae,af,ag,ah⟩,_⟩:=Ai bb.o;exact Ya (v:=.agg #[ι 3,ε,.slice D 1 E,ρ A j B,ρ F z G]) (by simp [results,results166,go_sem,ad,ae,af,ag,ah]) rfl (jY aR.o aZ.o bk.o be.o aM.o)
theorem dW(f:Nat)(Z:Ss f)(aa:∀l x b,Fe f l=.ok (x,b)→b.length<l.length)(t:Tk)(b:List Tk)(w:Zw)(p h:Nat)(S:4*(t::b).length≤f)(E:Ps w p h (t::b))(n:isP [105,102] t=false)(y:isP [119,104,105,108,101] t=true):
  Zy Zc 166 #[.pointer (some ⟨p,0,none⟩)] w (Gw (StH w.heap.size) w p h (Fa (f+1) (t::b))):=by
 have C:=Za E.lt;have K:Zv (w.heap.size≠p):=by show _≠_;have:=E.lt;omega
 have R:Zx w.heap.size w (w.alloc (ϑ)):=bA;have ah:Zv (SFr p w (w.alloc (ϑ))):=Zb R;obtain⟨av,W⟩:=Y2 (Zd w θ 50) (E.old R);clear R;obtain⟨Y,Q⟩:∃Y,Fa (f+1) (t::b)=Y:=⟨_,rfl⟩;rw[Q];have N:=Za Q;clear Q;have O:=Za y;have aB:Zv (∀c,Ps c p h (t::b)→_):=fun c z=>Bz p h t b [119,104,105,108,101] c z y
 rw[Ze]at S;have ab:=Pk f;have ag:Zv (∀c,Ps c p h b→_):=fun c z=>ab b c p h (by omega) z
 obtain⟨am,af,bk,J⟩:=Y4 S Z aa n;have ay:Zv (∀c,Ps c p h (t::b)→_):=fun c z=>Aq p h t b [105,102] c z n
 clear S ab y Z aa n;clear E;go_enter func166,ntmps166;go_wp2_with fail;refine(ay.o _ W.o).mono ?_;rintro e c ⟨rfl,F⟩;obtain⟨ai,an,aw⟩:=Y3 (ah.o.trans (Zb F)) (W.o.old F) (av.o.old F);clear F;go_wp2_with fail;refine(aB.o _ an.o).mono ?_;rintro e w2 ⟨rfl,a,i⟩;obtain⟨U,ao,X⟩:=Y3 (ai.o.trans a) i (aw.o.sfr a K.o);clear a i;go_wp2_with fail;refine(ag.o _ ao.o).mono ?_;intro e ad g
 cases hA:Cu f b with
 |error n=>
  rw[hA]at g;obtain⟨a,rfl⟩:=g;have I:=Za (U.o.trans a);have k:Fa (f+1) (t::b)=.error n:=by rw[Np J.o O.o,hA]
  have B:=N.o.symm.trans k;subst B;clear k a;unfold Bv;go_wp2;exact⟨rfl,I.o,rfl⟩
 |ok q=>
  obtain⟨x,T⟩:=q;rw[hA]at g;obtain⟨a,v,rfl,i,d⟩:=g;have d:Ag (w2.heap.size≤ ·) ad [x] v:=d;obtain⟨m,r,rfl⟩:=d.shape;have aC:=Za (d.up (show w.heap.size+1≤w2.heap.size from X.o.lt));clear d;obtain⟨aj,ap,L⟩:=Y3 (U.o.trans a) i (X.o.sfr a K.o);clear a i;have H:=Za hA;clear hA;obtain⟨⟨aO,aP,aQ,aR,aS⟩,aT,aU,aV,aW,aX⟩:=Ai L.o;have aY:=L.o.lt;go_upto_region 8 with(fail);obtain⟨P,A⟩:∃P,((ad.setCell ⟨w.heap.size,0,none⟩ (ι 4)).setCell ⟨w.heap.size,2,none⟩ (.slice m 1 r))=P:=⟨_,rfl⟩;rw[A];obtain⟨D,V,aq,aD⟩:=Y4 (A ▸ ((L.o).set 0 (ι 4)).set 2 (.slice m 1 r)) (A ▸ ((aj.o).setNew (Zg _) 0 (ι 4)).setNew (Zg _) 2 (.slice m 1 r)) (A ▸ ((ap.o).other C.o 0 (ι 4)).other C.o 2 (.slice m 1 r)) (A ▸ ((aC.o).keep (Al _ (by show ¬w.heap.size+1≤w.heap.size;omega) 0 (ι 4))).keep (Al _ (by show ¬w.heap.size+1≤w.heap.size;omega) 2 (.slice m 1 r)));clear A;obtain⟨G,aL⟩:∃G,G=P:=⟨_,rfl⟩;subst aL;clear aO aP aQ aR aS aT aU aV aW aX aY;have ac:4*T.length≤f:=by have z:=Fx H.o;have bl:=am.o;omega
  obtain⟨⟨aZ,ba,bb,bc,bd⟩,be,bf,bg,bh,bi⟩:=Ai D.o;have bj:=D.o.lt;go_wp2_with fail;refine(af.o T _ p h ac aq.o).mono ?_;intro e aN g
  cases hA:Fe f T with
  |error n=>
   rw[hA]at g;obtain⟨a,rfl⟩:=g;have I:=Za (V.o.trans a);have k:Fa (f+1) (t::b)=.error n:=by rw[Np J.o O.o,H.o];dsimp only;rw[hA]
   have B:=N.o.symm.trans k;subst B;clear k a;unfold Bv;go_wp2;exact⟨rfl,I.o,rfl⟩
  |ok q=>
   obtain⟨j,aM⟩:=q;rw[hA]at g;obtain⟨a,v,rfl,i,d⟩:=g;have d:Au (G.heap.size≤ ·) aN j v:=d;obtain⟨s,u,rfl⟩:=d.shape;have az:=Za (d.up (show w.heap.size+1≤G.heap.size from D.o.lt));clear d ac aZ ba bb bc bd be bf bg bh bi bj;obtain⟨ak,ar,M,aE⟩:=Y4 (V.o.trans a) i (D.o.sfr a K.o) (aD.o.keep (a.fresh (by have:=C.o;omega)));clear a i;have ae:=Za hA;clear hA;obtain⟨⟨bm,bn,bo,bp,bq⟩,br,bs,bt,bu,bv⟩:=Ai M.o;have bw:=M.o.lt;go_wp2_with fail;obtain⟨ax,al,au,aF,aA⟩:=Y5 (M.o.set 3 (ρ s j u)) (ak.o.setNew (Zg _) 3 (ρ s j u)) (ar.o.other C.o 3 (ρ s j u)) (aE.o.keep (Al _ (by show ¬w.heap.size+1≤w.heap.size;omega) 3 (ρ s j u))) (az.o.keep (Al _ (by show ¬w.heap.size+1≤w.heap.size;omega) 3 (ρ s j u)));have k:Fa (f+1) (t::b)=.ok (.mk 4 [] [x] j [],aM):=by rw[Np J.o O.o,H.o];dsimp only;rw[ae.o]
   have B:=N.o.symm.trans k;subst B;obtain⟨⟨aG,aH,aI,aJ,aK⟩,_⟩:=Ai ax.o;exact Ya (v:=.agg #[ι 4,ε,.slice m 1 r,ρ s j u,ν]) (by simp [results,results166,go_sem,aG,aH,aI,aJ,aK]) rfl (jY al.o au.o aF.o aA.o Zm)
theorem Yx(f:Nat)(t:Tk)(b:List Tk)(w:Zw)(p h:Nat)(ab:4*(t::b).length≤f)(F:Ps w p h (t::b))(n:isP [105,102] t=false)(R:isP [119,104,105,108,101] t=false):
  Zy Zc 166 #[.pointer (some ⟨p,0,none⟩)] w (Gw (StH w.heap.size) w p h (Fa (f+1) (t::b))):=by
 have i:=Za F.lt;have V:Zv (w.heap.size≠p):=by show _≠_;have:=F.lt;omega
 have N:Zx w.heap.size w (w.alloc (ϑ)):=bA;have aj:Zv (SFr p w (w.alloc (ϑ))):=Zb N;obtain⟨av,W⟩:=Y2 (Zd w θ 50) (F.old N);clear N;obtain⟨Z,M⟩:∃Z,Fa (f+1) (t::b)=Z:=⟨_,rfl⟩;rw[M];have K:=Za M;clear M;obtain⟨H,I⟩:=Y2 n R;have aA:Zv (∀c,Ps c p h (t::b)→_):=fun c C=>Aq p h t b [105,102] c C n
 have aB:Zv (∀c,Ps c p h (t::b)→_):=fun c C=>Aq p h t b [119,104,105,108,101] c C R
 have aa:=pX f;have ae:Zv (∀c,Ps c p h (t::b)→_):=fun c C=>aa (t::b) c p h ab C
 clear ab aa n R;clear F;go_enter func166,ntmps166;go_wp2_with fail;refine(aA.o _ W.o).mono ?_;rintro e c ⟨rfl,d⟩;obtain⟨ak,X,aw⟩:=Y3 (aj.o.trans (Zb d)) (W.o.old d) (av.o.old d);clear d;go_wp2_with fail;refine(aB.o _ X.o).mono ?_;rintro e w2 ⟨rfl,d⟩;obtain⟨T,ao,E⟩:=Y3 (ak.o.trans (Zb d)) (X.o.old d) (aw.o.old d);clear d;go_wp2_with fail;refine(ae.o _ ao.o).mono ?_;intro e aR g
 cases hA:Bd f (t::b)with
 |error n=>
  rw[hA]at g;obtain⟨a,rfl⟩:=g;have G:=Za (T.o.trans a);have y:Fa (f+1) (t::b)=.error n:=by rw[Ma H.o I.o,hA]
  have B:=K.o.symm.trans y;subst B;clear y a;unfold Bv;go_wp2;exact⟨rfl,G.o,rfl⟩
 |ok q=>
  obtain⟨x,ac⟩:=q;rw[hA]at g;obtain⟨a,v,rfl,D,aQ⟩:=g;obtain⟨aS,aU,aT,rfl,O,Q,P⟩:=aQ;obtain⟨j,k,rfl⟩:=O.shape;obtain⟨l,m,rfl⟩:=Q.shape;obtain⟨r,s,rfl⟩:=P.shape;obtain⟨aG,aC,af⟩:=Y3 (O.up (show w.heap.size+1≤w2.heap.size from E.o.lt)) (Q.up (show w.heap.size+1≤w2.heap.size from E.o.lt)) (P.up (show w.heap.size+1≤w2.heap.size from E.o.lt));clear O Q P;obtain⟨al,ap,J⟩:=Y3 (T.o.trans a) D (E.o.sfr a V.o);clear a D;have S:=Za hA;clear hA;obtain⟨⟨aW,aX,aY,aZ,ba⟩,bb,bc,bd,be,bf⟩:=Ai J.o;have bg:=J.o.lt;go_upto_region 10 with(fail);obtain⟨L,u⟩:∃L,(((((aR.setCell ⟨w.heap.size,0,none⟩ (ι x.kind)).setCell ⟨w.heap.size,1,none⟩ (σ x.name)).setCell ⟨w.heap.size,2,none⟩ (ρ j x.args k)).setCell ⟨w.heap.size,3,none⟩ (ρ l x.thn m)).setCell ⟨w.heap.size,4,none⟩ (ρ r x.els s))=L:=⟨_,rfl⟩;rw[u];obtain⟨ax,am,aq,aH,aD,ag⟩:=Y6 (u ▸ (((((J.o).set 0 (ι x.kind)).set 1 (σ x.name)).set 2 (ρ j x.args k)).set 3 (ρ l x.thn m)).set 4 (ρ r x.els s)) (u ▸ (((((al.o).setNew (Zg _) 0 (ι x.kind)).setNew (Zg _) 1 (σ x.name)).setNew (Zg _) 2 (ρ j x.args k)).setNew (Zg _) 3 (ρ l x.thn m)).setNew (Zg _) 4 (ρ r x.els s)) (u ▸ (((((ap.o).other i.o 0 (ι x.kind)).other i.o 1 (σ x.name)).other i.o 2 (ρ j x.args k)).other i.o 3 (ρ l x.thn m)).other i.o 4 (ρ r x.els s)) (u ▸ (((((aG.o).keep (Al _ (by show ¬w.heap.size+1≤w.heap.size;omega) 0 (ι x.kind))).keep (Al _ (by show ¬w.heap.size+1≤w.heap.size;omega) 1 (σ x.name))).keep (Al _ (by show ¬w.heap.size+1≤w.heap.size;omega) 2 (ρ j x.args k))).keep (Al _ (by show ¬w.heap.size+1≤w.heap.size;omega) 3 (ρ l x.thn m))).keep (Al _ (by show ¬w.heap.size+1≤w.heap.size;omega) 4 (ρ r x.els s))) (u ▸ (((((aC.o).keep (Al _ (by show ¬w.heap.size+1≤w.heap.size;omega) 0 (ι x.kind))).keep (Al _ (by show ¬w.heap.size+1≤w.heap.size;omega) 1 (σ x.name))).keep (Al _ (by show ¬w.heap.size+1≤w.heap.size;omega) 2 (ρ j x.args k))).keep (Al _ (by show ¬w.heap.size+1≤w.heap.size;omega) 3 (ρ l x.thn m))).keep (Al _ (by show ¬w.heap.size+1≤w.heap.size;omega) 4 (ρ r x.els s))) (u ▸ (((((af.o).keep (Al _ (by show ¬w.heap.size+1≤w.heap.size;omega) 0 (ι x.kind))).keep (Al _ (by show ¬w.heap.size+1≤w.heap.size;omega) 1 (σ x.name))).keep (Al _ (by show ¬w.heap.size+1≤w.heap.size;omega) 2 (ρ j x.args k))).keep (Al _ (by show ¬w.heap.size+1≤w.heap.size;omega) 3 (ρ l x.thn m))).keep (Al _ (by show ¬w.heap.size+1≤w.heap.size;omega) 4 (ρ r x.els s)))
  clear u;obtain⟨A,aP⟩:∃A,A=L:=⟨_,rfl⟩;subst aP;have z:Zx A.heap.size A (A.alloc (.cells #[.string ⟨#[59]⟩] 9)):=bA;obtain⟨U,ar,ay,aI,aE,ah⟩:=Y6 (am.o.trans (Zb z)) (aq.o.old z) (ax.o.old z) (aH.o.old z) (aD.o.old z) (ag.o.old z);have Y:=Za (Dn p h ac [59] ar.o A.heap.size 1 ((Zd A [.string ⟨#[59]⟩] 9).at 0 _ rfl));clear z;go_wp2_with fail;refine(Y.o).mono ?_;intro e aV g
  cases hA:An [59] ac with
  |error n=>
   rw[hA]at g;obtain⟨a,rfl⟩:=g;have G:=Za (U.o.trans a);have y:Fa (f+1) (t::b)=.error n:=by rw[Ma H.o I.o,S.o];dsimp only;rw[hA]
   have B:=K.o.symm.trans y;subst B;clear y a;unfold Bv;go_wp2;exact⟨rfl,G.o,rfl⟩
  |ok r3=>
   rw[hA]at g;obtain⟨a,rfl,D⟩:=g;obtain⟨an,au,az,aJ,aF,ai⟩:=Y6 (U.o.trans a) D (ay.o.sfr a V.o) (aI.o.keep (a.fresh (by have:=i.o;omega))) (aE.o.keep (a.fresh (by have:=i.o;omega))) (ah.o.keep (a.fresh (by have:=i.o;omega)));clear a D;have ad:=Za hA;clear hA;clear Y;go_wp2_with fail;have y:Fa (f+1) (t::b)=.ok (x,r3):=by rw[Ma H.o I.o,S.o];dsimp only;rw[ad.o]
   have B:=K.o.symm.trans y;subst B;obtain⟨⟨aK,aL,aM,aN,aO⟩,_⟩:=Ai az.o;exact Ya (v:=.agg #[ι x.kind,σ x.name,ρ j x.args k,ρ l x.thn m,ρ r x.els s]) (by simp [results,results166,go_sem,aK,aL,aM,aN,aO]) rfl (st_finx an.o au.o aJ.o aF.o ai.o)
theorem jA(f:Nat)(d:Ss f)(e:∀l x a,Fe f l=.ok (x,a)→a.length<l.length):nF (f+1):=by
 intro l w p c g b;obtain⟨t,a,rfl⟩:=b.ends.ne
 cases h0:isP [105,102] t with
 |true=>exact oR f d e t a w p c (by omega) b h0
 |false=>
  cases h1:isP [119,104,105,108,101] t with
  |true=>exact dW f d e t a w p c (by omega) b h0 h1
  |false=>exact Yx f t a w p c (by omega) b h0 h1
theorem iH {f:Nat}{l k:List Tk}{x:St}(c:Bd f l=.ok (x,k)):k.length<l.length:=by
 have i:=fun {lv:Int} {a b:List Tk} {y:Ex} (q:Bk f lv a=.ok (y,b))=>(Cw f).1 _ _ _ _ q
 have m:=fun {a b:List Tk} {y:List Ex} (q:In f a=.ok (y,b))=>(Cw f).2.2.2.2.1 _ _ _ q
 unfold Bd at c
 cases h1:Bi [98,114,101,97,107] l with
 |some q=>rw[h1]at c;injection c with c;injection c with _ c;subst c;exact Bn h1
 |none=>
 rw[h1]at c;dsimp only at c
 cases h2:Bi [99,111,110,116,105,110,117,101] l with
 |some q=>rw[h2]at c;injection c with c;injection c with _ c;subst c;exact Bn h2
 |none=>
 rw[h2]at c;dsimp only at c
 cases h3:Bi [114,101,116,117,114,110] l with
 |some q=>
  rw[h3]at c;dsimp only at c;have j:=Bn h3
  cases h4:Bk f 1 q with
  |error e=>rw[h4]at c;cases c
  |ok d=>obtain⟨y,d⟩:=d;rw[h4]at c;injection c with c;injection c with _ c;subst c;have:=i h4;omega
 |none=>
 rw[h3]at c;dsimp only at c
 cases h4:Bi [112,114,105,110,116] l with
 |some q=>
  rw[h4]at c;dsimp only at c;have j:=Bn h4
  cases h5:Cu f q with
  |error e=>rw[h5]at c;cases c
  |ok d=>obtain⟨y,d⟩:=d;rw[h5]at c;injection c with c;injection c with _ c;subst c;have:=Fx h5;omega
 |none=>
 rw[h4]at c;dsimp only at c
 cases h5:Bi [116,114,97,112] l with
 |some q=>
  rw[h5]at c;dsimp only at c;have j:=Bn h5
  cases h6:Cu f q with
  |error e=>rw[h6]at c;cases c
  |ok d=>obtain⟨y,d⟩:=d;rw[h6]at c;injection c with c;injection c with _ c;subst c;have:=Fx h6;omega
 |none=>
 rw[h5]at c;dsimp only at c
 cases h6:Ew l with
 |error e=>rw[h6]at c;cases c
 |ok d=>
 obtain⟨s,q⟩:=d;rw[h6]at c;dsimp only at c;have j:=Gu h6
 cases h7:Bi [40] q with
 |some q2=>
  rw[h7]at c;dsimp only at c;have h:=Bn h7
  cases h9:In f q2 with
  |error e=>rw[h9]at c;cases c
  |ok d=>obtain⟨y,d⟩:=d;rw[h9]at c;injection c with c;injection c with _ c;subst c;have:=m h9;omega
 |none=>
 rw[h7]at c;dsimp only at c
 cases h:Bi [91] q with
 |some q2=>
  rw[h]at c;dsimp only at c;have p:=Bn h
  cases h9:Bk f 1 q2 with
  |error e=>rw[h9]at c;cases c
  |ok d=>
   obtain⟨y,d⟩:=d;rw[h9]at c;dsimp only at c;have r:=i h9
   cases g1:An [93] d with
   |error e=>rw[g1]at c;cases c
   |ok z2=>
    rw[g1]at c;dsimp only at c;have t:=Bp g1
    cases g2:An [61] z2 with
    |error e=>rw[g2]at c;cases c
    |ok z3=>
     rw[g2]at c;dsimp only at c;have n:=Bp g2
     cases g3:Bk f 1 z3 with
     |error e=>rw[g3]at c;cases c
     |ok g=>obtain⟨o,g⟩:=g;rw[g3]at c;injection c with c;injection c with _ c;subst c;have:=i g3;omega
 |none=>
 rw[h]at c;dsimp only at c
 cases g2:An [61] q with
 |error e=>rw[g2]at c;cases c
 |ok z3=>
  rw[g2]at c;dsimp only at c;have n:=Bp g2
  cases g3:Bk f 1 z3 with
  |error e=>rw[g3]at c;cases c
  |ok g=>obtain⟨o,g⟩:=g;rw[g3]at c;injection c with c;injection c with _ c;subst c;have:=i g3;omega
theorem Pv {f:Nat}(d:∀a l x b,Ep f a l=.ok (x,b)→b.length<l.length):∀l x b,Fe f l=.ok (x,b)→b.length<l.length:=by
 intro l x b c;unfold Fe at c
 cases h1:An [123] l with
 |error e=>rw[h1]at c;cases c
 |ok q=>rw[h1]at c;have:=Bp h1;have:=d _ _ _ _ c;omega
theorem Jj:∀f:Nat,(∀l x d,Fa f l=.ok (x,d)→d.length<l.length)∧(∀a l x d,Ep f a l=.ok (x,d)→d.length<l.length)
 |0=>⟨fun l x d c=>(by cases c),fun a l x d c=>(by cases c)⟩
 |f+1=>by
  obtain⟨m,i⟩:=Jj f;have h:=Pv i;refine⟨fun l x d c=>?_,fun a l x d c=>?_⟩
  ·cases l with
   |nil=>
    have:Fa (f+1) []=.error (Hh []):=by
     rw[Fa];dsimp only[Bi];have k:Bd f []=.error (Hh []):=rfl;rw[k]
    rw[this]at c;cases c
   |cons t l=>
    cases h0:isP [105,102] t with
    |true=>
     rw[Pj h0]at c
     cases h1:Cu f l with
     |error e=>rw[h1]at c;cases c
     |ok q=>
      obtain⟨y,q⟩:=q;rw[h1]at c;dsimp only at c;have j:=Fx h1
      cases h2:Fe f q with
      |error e=>rw[h2]at c;cases c
      |ok g=>
       obtain⟨a,g⟩:=g;rw[h2]at c;dsimp only at c;have n:=h _ _ _ h2
       cases h3:Bi [101,108,115,101] g with
       |none=>rw[h3]at c;injection c with c;injection c with _ c;subst c;rw[Ze];omega
       |some u=>
        rw[h3]at c;dsimp only at c;have o:=Bn h3
        cases h4:Fe f u with
        |error e=>rw[h4]at c;cases c
        |ok v=>obtain⟨b,v⟩:=v;rw[h4]at c;injection c with c;injection c with _ c;subst c;have:=h _ _ _ h4;rw[Ze];omega
    |false=>
     cases h1:isP [119,104,105,108,101] t with
     |true=>
      rw[Np h0 h1]at c
      cases h2:Cu f l with
      |error e=>rw[h2]at c;cases c
      |ok q=>
       obtain⟨y,q⟩:=q;rw[h2]at c;dsimp only at c;have j:=Fx h2
       cases h3:Fe f q with
       |error e=>rw[h3]at c;cases c
       |ok g=>obtain⟨a,g⟩:=g;rw[h3]at c;injection c with c;injection c with _ c;subst c;have:=h _ _ _ h3;rw[Ze];omega
     |false=>
      rw[Ma h0 h1]at c
      cases h2:Bd f (t::l)with
      |error e=>rw[h2]at c;cases c
      |ok q=>
       obtain⟨y,q⟩:=q;rw[h2]at c;dsimp only at c;have j:=iH h2
       cases h3:An [59] q with
       |error e=>rw[h3]at c;cases c
       |ok g=>rw[h3]at c;injection c with c;injection c with _ c;subst c;have:=Bp h3;omega
  ·rw[Ep]at c
   cases h1:Bi [125] l with
   |some q=>rw[h1]at c;injection c with c;injection c with _ c;subst c;exact Bn h1
   |none=>
    rw[h1]at c;dsimp only at c
    cases h2:Fa f l with
    |error e=>rw[h2]at c;cases c
    |ok q=>obtain⟨y,q⟩:=q;rw[h2]at c;dsimp only at c;have:=m _ _ _ h2;have:=i _ _ _ _ c;omega
theorem Ad.newsY {w:Zw}{b:Nat}{a:List Value}{c:TypeId}(d:Ad w b a c):∀j u,a[j]? =some u→w.cell? ((⟨b,0,none⟩:Zz).add j)=some u:=by
 intro j u f;have e:(⟨b,0,none⟩:Zz).add j=⟨b,j,none⟩:=by unfold Addr.add;split<;>simp_all
 rw[e];exact d.at j u f
theorem SFr.grown {p:Nat}{w d w2:Zw}(a:SFr p w d){row:Option Nat}(b:d.grownBy w2 row)(g:∀k,row=some k→w.heap.size≤k):SFr p w w2:=
 ⟨b.os.trans a.os,b.tape.trans a.tape,b.output.trans a.output,Zi a.size b.size,fun k c f=>(b.block k (Zt c a.size) (fun e=>by have:=g k e.symm;omega)).trans (a.block k c f)⟩
theorem Dm.rowGe {w:Zw}{a:Nat}{c:List StV}{v:Value}(b:Dm w a c v):∀k,v.ownBlock=some k→a≤k:=fun k e=>(World.ownsRow.lt b.1 k e).1
structure StsI (w:Zw)(p tb:Nat)(f:Nat)(R:PR (List St))(g:Nat)(va:Option Zz)(vc:Nat)(ps:List StV)(l:List Tk)(wr:Zw):Prop where
 sfr:SFr p w wr
 par:Ps wr p tb l
 row:Dm wr w.heap.size ps (.slice va ps.length vc)
 len:ps.length+l.length≤1000000
 fuel:4*l.length+2≤g
 le:g≤f
 res:Ep g (ps.map (·.x)) l=R
theorem Pb(f:Nat)(aw:∀g,g<f→nF g):dA f:=by
 intro l w p F al M;obtain⟨j,Y⟩:∃j,Ep f [] l=j:=⟨_,rfl⟩;rw[Y];have J:l.length≤1000000:=by obtain⟨_,_,aU⟩:=M;exact aU.fit
 have G:=Za M.lt;have ad:Zv (StsI w p F f j f none 0 [] l w):=⟨SFr.refl p w,M,Dm.zero _ _,by simpa using J,al,Zg _,Y⟩;have aS:=Za aw;obtain⟨aX,ak,ar,au,av⟩:=info_parts kX;obtain⟨aB,aP,aQ,aR⟩:=Y4 ak ar au av;clear al M Y J aw ak ar au av;go_enter func107,ntmps107;go_wp2
 go_loopw [2] (fun aY wr=> ∃(g:Nat) (B:Option Zz) (C:Nat) (c:List StV) (l:List Tk),aY=.slice B c.length C∧Zv (StsI w p F f j g B C c l wr)) (fun _ wr=>Dz p wr)
 case atStart=>exact⟨f,none,0,[],l,rfl,ad⟩
 case round=>
  obtain⟨g,B,C,c,l,rfl,a⟩:=hrel;clear ad;obtain⟨u,l,rfl⟩:=a.o.par.ends.ne;obtain⟨h,aV⟩:∃h,g=h+1:=⟨g-1,by have:=a.o.fuel;omega⟩;subst aV
  cases hu:isP [125] u with
  |true=>
   have V:=Za (Bz p F u l [125] wr a.o.par hu);have R:Except.ok (c.map (·.x),l)=j:=by
    have H:=a.o.res;rw[Ep,Bt hu]at H;exact H
   subst R;clear hu;go_wp2_with fail;refine V.o.mono ?_;rintro e S ⟨rfl,i,K⟩;obtain⟨T,aH,aL⟩:=Y3 (a.o.sfr.trans i) K ((a.o.row.sfr i G.o).sts (show c.length≤140737488355328 by have:=a.o.len;omega));clear i K;go_wp2;go_ret
   exact⟨T.o,_,rfl,aH.o,aL.o⟩
  |false=>
   have V:=Za (Aq p F u l [125] wr a.o.par hu);have R:(match Fa h (u::l)with|.error e=>.error e|.ok (x,y)=>Ep h (c.map (·.x)++[x]) y)=j:=by
    have H:=a.o.res;rw[Ep,Ah hu]at H;exact H
   have ag:=Za R;clear hu R;go_wp2_with fail;refine V.o.mono ?_;rintro e S ⟨rfl,E⟩;obtain⟨aZ,U,af,ay⟩:=Y4 (a.o.par.old E) (a.o.sfr.trans (Zb E)) (a.o.row.sfr (Zb (s:=p) E) G.o) (aS.out h (by have:=a.o.le;omega) (u::l) S p F (by have:=a.o.fuel;omega) (a.o.par.old E));clear E;go_wp2_with fail;refine ay.o.mono ?_;intro e D O
   cases hA:Fa h (u::l)with
   |error n=>
    rw[hA]at O;obtain⟨i,rfl⟩:=O;have T:=Za (U.o.trans i);have d:=ag.o;rw[hA]at d;dsimp only at d;subst d;clear i hA;unfold Bv;go_wp2;exact⟨rfl,T.o,rfl⟩
   |ok q=>
    obtain⟨x,y⟩:=q;rw[hA]at O;obtain⟨i,v,rfl,K,bc,be,bd,rfl,Z,ab,X⟩:=O;obtain⟨m,r,rfl⟩:=Z.shape;obtain⟨z,A,rfl⟩:=ab.shape;obtain⟨t,d,rfl⟩:=X.shape;have aq:=af.o.sfr i G.o;have ai:=U.o.trans i;have am:∀k,(Value.slice B c.length C).ownBlock=some k→k<S.heap.size:=fun k e=>(World.ownsRow.lt af.o.1 k e).2
    have aW:=U.o.size;have ap:Fc (fun b=>w.heap.size≤b∧(Value.slice B c.length C).ownBlock≠some b) D ⟨x,.slice m x.args.length r,.slice z x.thn.length A,.slice t x.els.length d⟩:=by
     have W:∀b,S.heap.size≤b→w.heap.size≤b∧(Value.slice B c.length C).ownBlock≠some b:=fun b E=>⟨by omega,fun e=>by have:=am b e;omega⟩
     exact⟨Z.mono W,ab.mono W,X.mono W⟩
    have I:Zx D.heap.size D (D.alloc (.cells #[ι x.kind,σ x.name,.slice m x.args.length r,.slice z x.thn.length A,.slice t x.els.length d] 50)):=bA;obtain⟨L,ac,aJ,aK,aG⟩:=Y5 (aq.sfr (Zb (s:=p) I) G.o) (ai.trans (Zb I)) (K.old I) (ap.keep (Be I)) (Zd D (Fo x (.slice m x.args.length r) (.slice z x.thn.length A) (.slice t x.els.length d)) 50);have J:=a.o.len;rw[Ze]at J;have aa:=(Jj h).1 _ _ _ hA;rw[Ze]at aa;have aj:=a.o.fuel;rw[Ze]at aj;have N:=ag.o;rw[hA]at N;dsimp only at N;have aN:=Za N;have aC:Zv (h≤f):=by show _≤_;have:=a.o.le;omega
    have aA:Zv (4*y.length+2≤h):=by show _≤_;omega
    have aD:Zv (c.length+1+y.length≤1000000):=by show _≤_;omega
    have bb:c.length≤1000000:=by omega
    have aE:Zv (y.length<l.length+1):=aa;have aO:Zv (w.heap.size≤(D.alloc (.cells #[ι x.kind,σ x.name,.slice m x.args.length r,.slice z x.thn.length A,.slice t x.els.length d] 50)).heap.size):=ac.o.size;clear i K Z ab X aq ai am aW ap I J aa aj N hA;go_wp2_with (at_builtin;(refine wpList_append_lies (P:=Zc) _ rfl _ _ 46 rfl w.heap.size 50 aX _ 5 96 underlying46 aB.o aP.o aQ.o aR.o rfl (by decide) (.slice B c.length C) c.length (Ip c) rfl L.o.1 ⟨D.heap.size,0,none⟩ 1 1 (Fo x (.slice m x.args.length r) (.slice z x.thn.length A) (.slice t x.els.length d)) rfl rfl aG.o.newsY (kQ) (by decide) (by unfold maxLen;omega) (by omega) aO.o _ rfl ?_;intro aT cap ax ao Q ah ba;obtain⟨aM,az,aI⟩:=Y3 (L.o.snoc ⟨x,.slice m x.args.length r,.slice z x.thn.length A,.slice t x.els.length d⟩ aK.o ao Q ah) (ac.o.grown Q L.o.rowGe) (aJ.o.grown Q L.o.rowGe G.o);clear ao Q ah));have ae:Zv (StsI w p F f j h (some ⟨aT,0,none⟩) cap (c++[⟨x,.slice m x.args.length r,.slice z x.thn.length A,.slice t x.els.length d⟩]) y ax):=⟨az.o,aI.o,by have:=aM.o;rw[List.length_append];exact this,by rw[List.length_append];exact aD.o,aA.o,aC.o,by rw[List.map_append];exact aN.o⟩;have an:Dz p ax<Dz p wr:=by
     rw[ae.o.par.len,a.o.par.len,Ze];exact aE.o
    have aF:=Za an;clear an;go_roundw
    case rel=>exact⟨h,_,_,_,y,by rw[List.length_append];rfl,ae⟩
    case measure=>exact aF.o
theorem mN:∀f:Nat,nF f∧dA f∧Ss f
 |0=>⟨fun l w p e d=>by omega,Pb 0 (fun g a=>by omega),fG 0 (Pb 0 (fun g a=>by omega))⟩
 |f+1=>by
  have c:∀g,g<f+1→nF g∧dA g∧Ss g:=fun g a=>mN g
  have b:=Pb (f+1) (fun g a=>(c g a).1);exact⟨jA f (c f (Nat.lt_succ_self _)).2.2 (Pv (Jj f).2),b,fG (f+1) b⟩
def Fh {α:Type}(e:TypeId)(b:α→List Value)(k:Nat)(w:Zw)(a:Nat)(L:List α)(v:Value):Prop:=w.ownsRow a e k v L.length (L.flatMap b)
section
variable {α:Type} {e:TypeId} {cf:α→List Value} {k:Nat} {w w':Zw} {base:Nat} {L:List α} {v:Value}
theorem Fh.zero(e:TypeId)(b:α→List Value)(k:Nat)(w:Zw)(a:Nat):Fh e b k w a [] (.slice none 0 0):=World.ownsRow_nil _ _ _ _
theorem Fh.lt(a:Fh e cf k w base L v):∀g,v.ownBlock=some g→base≤g∧g<w.heap.size:=World.ownsRow.lt a
theorem Fh.grown(a:Fh e cf k w base L v){row:Option Nat}(b:w.grownBy w' row)(c:v.ownBlock=none∨v.ownBlock≠row):Fh e cf k w' base L v:=World.ownsRow.kept a b c
theorem Fh.sfr(b:Fh e cf k w base L v){p:Nat}(f:SFr p w w')(l:p<base):Fh e cf k w' base L v:=by
 refine⟨b.1,?_⟩;rcases b.2 with i|⟨g,cap,d,rfl,h,c,j⟩
 ·exact .inl i
 ·refine .inr ⟨g,cap,d,rfl,h,?_,j⟩
  rw[f.block g (by
   rcases Nat.lt_or_ge g w.heap.size with a|a
   ·exact a
   ·simp [Array.getElem?_eq_none a]at c) (by omega)]
  exact c
theorem Fh.old(b:Fh e cf k w base L v)(f:Zx w.heap.size w w'):Fh e cf k w' base L v:=by
 refine⟨b.1,?_⟩;rcases b.2 with i|⟨g,cap,d,rfl,h,c,j⟩
 ·exact .inl i
 ·refine .inr ⟨g,cap,d,rfl,h,?_,j⟩
  rw[f.block g (by
   rcases Nat.lt_or_ge g w.heap.size with a|a
   ·exact a
   ·simp [Array.getElem?_eq_none a]at c)]
  exact c
theorem Fh.low(a:Fh e cf k w base L v){b:Nat}(l:b<base)(i:Nat)(x:Value):Fh e cf k (w.setCell ⟨b,i,none⟩ x) base L v:=by
 refine⟨a.1,?_⟩;rcases a.2 with h|⟨g,cap,c,rfl,d,f,j⟩
 ·exact .inl h
 ·refine .inr ⟨g,cap,c,rfl,d,?_,j⟩
  rw[Zh _ _ _ _ (show g≠b by omega)];exact f
theorem Fh.shape(b:Fh e cf k w base L v):∃a cap,v=.slice a L.length cap:=by
 rcases b.2 with⟨c,d⟩|⟨g,cap,f,rfl,_⟩
 ·exact⟨none,0,by rw[c,d]⟩
 ·exact⟨_,_,rfl⟩
end
section
variable (w:Zw) {o:Oper} {a:Act} {K:Act→Zw→Prop} {Q:Exit→Act→Zw→Prop}
theorem eL {α:Type}(s x:Operand)(t:TypeId)(F:o.op=.call {callee:=.builtin .append,args:= #[s,x],argTypes:= #[t,t]})
  (e:TypeId) (J:Tryz.prog.underlying t=some (.slice e)) (j:Value) (k h:Nat) (A:(Tryz.prog.info? e).map (fun i=>(i.zero,i.size,i.bytes))=some (some j,k,h)) (R:j.cells.size=k) (B:0<k)
  (d:α→List Value) (q:∀x,(d x).length=k) (m:∀x u,u∈d x→u.oneCell'=true)
  (f:Nat) (L:List α) (v:Value) (I:a.eval s=v) (G:Fh e d k w f L v) (y:α) (b c:Nat) (hx:a.eval x=.slice (some ⟨b,0,none⟩) 1 c) (E:Ad w b (d y) e)
  (C:(L.length+1)*h≤140737488355328) (T:L.length+1≤140737488355328) (p:f≤w.heap.size)
  (l:∀g cap w',Fh e d k w' f (L++[y]) (.slice (some ⟨g,0,none⟩) (L.length+1) cap)→w.grownBy w' v.ownBlock→(v.ownBlock=some g∨g=w.heap.size)→g<w'.heap.size→K (a.put o.dst (.slice (some ⟨g,0,none⟩) (L.length+1) cap)) w'):o.wp Zc a w K Q:=by
 obtain⟨S,z,M,N,O⟩:=info_parts A;refine wp_append_lies (P:=Zc) w s x t F f e S j k h J z M N O R B v L.length (L.flatMap d) I G ⟨b,0,none⟩ 1 c (d y) hx (by rw[q,Nat.one_mul]) E.newsY (m y) (by decide) (by unfold maxLen;omega) C p _ rfl ?_;intro g cap w' H r n D;refine l g cap w' ?_ r n D;unfold Fh;simpa using H
end
theorem sB:(Tryz.prog.info? 9).map (fun i=>(i.zero,i.size,i.bytes))=some (some (.string ⟨#[]⟩),1,16):=by kernel_rfl
theorem vX:(Tryz.prog.info? 60).map (fun i=>(i.zero,i.size,i.bytes))=some (some (.agg #[.string ⟨#[]⟩,.int .i64 0]),2,24):=by kernel_rfl
theorem tQ:(Tryz.prog.info? 48).map (fun i=>(i.zero,i.size,i.bytes))=some (some (.agg #[.string ⟨#[]⟩,.slice none 0 0,.slice none 0 0,.slice none 0 0]),4,88):=by kernel_rfl
def Ed(s:Bs):List Value:=[.string (Aa s)]
def Hd(x:Ar):List Value:=[.string (Aa x.name),.int .i64 x.size]
abbrev Jk(w:Zw)(base:Nat)(L:List Bs)(v:Value):Prop:=Fh 9 Ed 1 w base L v
abbrev Qf(w:Zw)(base:Nat)(L:List Ar)(v:Value):Prop:=Fh 60 Hd 2 w base L v
theorem kD(x:Bs):∀u,u∈Ed x→u.oneCell'=true:=by
 intro u a;simp only[Ed,List.mem_cons,List.not_mem_nil,or_false]at a;subst a;rfl
theorem tJ(x:Ar):∀u,u∈Hd x→u.oneCell'=true:=by
 intro u a;simp only[Hd,List.mem_cons,List.not_mem_nil,or_false]at a;rcases a with rfl|rfl<;>rfl
section
variable (w:Zw) {o:Oper} {a:Act} {K:Act→Zw→Prop} {Q:Exit→Act→Zw→Prop}
theorem mX(s x:Operand)(i:o.op=.call {callee:=.builtin .append,args:= #[s,x],argTypes:= #[38,38]})
  (d:Nat) (L:List Bs) (v:Value) (k:a.eval s=v) (j:Jk w d L v) (y:Bs) (b c:Nat) (hx:a.eval x=.slice (some ⟨b,0,none⟩) 1 c) (h:Ad w b (Ed y) 9)
  (l:L.length≤1000000) (f:d≤w.heap.size)
  (e:∀g cap w',Jk w' d (L++[y]) (.slice (some ⟨g,0,none⟩) (L.length+1) cap)→w.grownBy w' v.ownBlock→(v.ownBlock=some g∨g=w.heap.size)→g<w'.heap.size→K (a.put o.dst (.slice (some ⟨g,0,none⟩) (L.length+1) cap)) w'):o.wp Zc a w K Q:=
 eL w s x _ i 9 underlying38 _ 1 16 sB rfl (by decide) Ed (fun _=>rfl) kD d L v k j y b c hx h (by omega) (by omega) f e
theorem wp_yarr(s x:Operand)(i:o.op=.call {callee:=.builtin .append,args:= #[s,x],argTypes:= #[27,27]})
  (d:Nat) (L:List Ar) (v:Value) (k:a.eval s=v) (j:Qf w d L v) (y:Ar) (b c:Nat) (hx:a.eval x=.slice (some ⟨b,0,none⟩) 1 c) (h:Ad w b (Hd y) 60)
  (l:L.length≤1000000) (f:d≤w.heap.size)
  (e:∀g cap w',Qf w' d (L++[y]) (.slice (some ⟨g,0,none⟩) (L.length+1) cap)→w.grownBy w' v.ownBlock→(v.ownBlock=some g∨g=w.heap.size)→g<w'.heap.size→K (a.put o.dst (.slice (some ⟨g,0,none⟩) (L.length+1) cap)) w'):o.wp Zc a w K Q:=
 eL w s x _ i 60 underlying27 _ 2 24 vX rfl (by decide) Hd (fun _=>rfl) tJ d L v k j y b c hx h (by omega) (by omega) f e
end
theorem Mt {α:Type}(f:α→List Value)(k:Nat)(a:∀x,(f x).length=k):∀(l:List α) (i q:Nat) (p:α),l[i]? =some p→q<k→(l.flatMap f)[i*k+q]? =(f p)[q]?
 |[],i,q,p,h,_=>by simp at h
 |x::l,0,q,p,h,hq=>by
  simp at h;subst h;rw[List.flatMap_cons,List.getElem?_append_left (by rw[a];omega)];simp
 |x::l,i+1,q,p,h,hq=>by
  simp at h;have:=Mt f k a l i q p h hq;rw[List.flatMap_cons,List.getElem?_append_right (by rw[a,Nat.succ_mul];omega),a,←this];congr 1;rw[Nat.succ_mul];omega
theorem Jk.strs {w:Zw}{f:Nat}{L:List Bs}{v:Value}(c:Jk w f L v)(t:L.length≤1000000):Bb (f≤ ·) w L v:=by
 obtain⟨a,cap,rfl⟩:=c.shape;rcases c.2 with⟨b,h⟩|⟨g,o,p,l,k,s,j,u⟩
 ·injection b with b q r
  exact⟨a,cap,0,0,rfl,by omega,by show _≤_;omega,.inl h,fun i d=>by omega⟩
 ·injection l with m _ n
  subst m n;refine⟨_,cap,g,0,rfl,j,by show _≤_;omega,.inr ⟨rfl,k⟩,fun i d=>?_⟩;have b:=c.cellAt (i*1+0) (by omega);rw[Mt Ed 1 (fun _=>rfl) L i 0 L[i] (Zo d) (by decide)]at b;have e:(⟨g,i*1+0,none⟩:Zz)=⟨g,0+i,none⟩:=by simp
  rw[e]at b;rw[b];simp [Ed,Zu,Zo d]
theorem Qf.ars {w:Zw}{f:Nat}{L:List Ar}{v:Value}(d:Qf w f L v)(t:L.length≤1000000):Cd (f≤ ·) w L v:=by
 obtain⟨a,cap,rfl⟩:=d.shape;rcases d.2 with⟨b,h⟩|⟨g,o,p,l,k,s,j,u⟩
 ·injection b with b q r
  exact⟨a,cap,0,0,rfl,by omega,by show _≤_;omega,.inl h,fun i c=>by omega⟩
 ·injection l with m _ n
  subst m n;refine⟨_,cap,g,0,rfl,j,by show _≤_;omega,.inr ⟨rfl,k⟩,fun i c=>⟨?_,?_⟩⟩
  ·have b:=d.cellAt (i*2+0) (by omega)
   rw[Mt Hd 2 (fun _=>rfl) L i 0 L[i] (Zo c) (by decide)]at b;have e:(⟨g,i*2+0,none⟩:Zz)=⟨g,0+i*2,none⟩:=by simp
   rw[e]at b;rw[b];simp [Hd,Em,Zu,Zo c]
  ·have b:=d.cellAt (i*2+1) (by omega)
   rw[Mt Hd 2 (fun _=>rfl) L i 1 L[i] (Zo c) (by decide)]at b;have e:(⟨g,i*2+1,none⟩:Zz)=⟨g,0+i*2+1,none⟩:=by simp
   rw[e]at b;rw[b];simp [Hd,Em,Zu,Zo c]
structure VY3 (p tb cb ob base:Nat)(nm:Bs)(va:Option Zz)(vc:Nat)(S:List Bs)(ov:Value)(s:Bs)(l r:List Tk)(err:Option Int)(W:Zw)(L:Nat→Bool)(nb:Nat)(gn:Nat)(cn:Nat)(z5 z6 z7 z8 z9 z10 z11:Value)(wx:Zw):Prop where
 ord:L 7=true→∀j,j<7→L j=true
 p4_3:L 4=true→L 3=true
 p5_3:L 5=true→L 3=true
 p5_4:L 5=true→L 4=true
 p7_5:L 7=true→L 5=true
 c0:L 0=true→z5=.pointer (some ⟨ob,1,none⟩)
 c1:L 1=true→z6=.slice va S.length vc
 c2:L 2=true→z7=.pointer (some ⟨p,0,none⟩)
 c3:L 3=true→z8=.string (Aa s)
 c4:L 4=true→z9=.slice (some ⟨nb,0,none⟩) 1 1
 c5:L 5=true→z10=.slice (some ⟨gn,0,none⟩) (S.length+1) cn
 c6:L 6=true→z11=.pointer (some ⟨ob,1,none⟩)
 fr:AFr p ob base W wx
 pa:L 3=false→Ps wx p tb l
 pb:L 3=true→Ps wx p tb r
 c:Ad wx cb [.pointer (some ⟨p,0,none⟩)] 79
 x:L 7=false→Ad wx ob [.string (Aa nm),.slice va S.length vc,ov,.slice none 0 0] 48
 x7:L 7=true→Ad wx ob [.string (Aa nm),.slice (some ⟨gn,0,none⟩) (S.length+1) cn,ov,.slice none 0 0] 48
 ra:L 5=false→Jk wx base S (.slice va S.length vc)
 rb:L 5=true→Jk wx base (S++[s]) (.slice (some ⟨gn,0,none⟩) (S.length+1) cn)∧((Value.slice va S.length vc).ownBlock=some gn∨W.heap.size≤gn)
 g4:L 4=true→L 5=false→Ad wx nb (Ed s) 9∧base≤nb
 gr:∀b,b<W.heap.size→base≤b→(Value.slice va S.length vc).ownBlock≠some b→wx.heap[b]? =W.heap[b]?
def IY3(p y a b m:Nat)(nm:Bs)(z:Option Zz)(A:Nat)(S:List Bs)(t:Value)(s:Bs)(l x:List Tk)(o:Option Int)(j:Zw)(u v w:Value)(L:Nat→Bool)(k:Act)(w':Zw):Prop:=
 ∃r:Nat,∃q:Nat,∃n:Nat,∃e f g h i c d:Value,VY3 p y a b m nm z A S t s l x o j L r q n e f g h i c d w'∧k=⟨[.pointer (some ⟨a,0,none⟩),.pointer (some ⟨b,0,none⟩),u,v,w,e,f,g,h,i,c,d].toArray,[]⟩
def RY3(p t i c e:Nat)(nm:Bs)(g:Option Zz)(h:Nat)(S:List Bs)(m:Value)(s:Bs)(l r:List Tk)(u:Option Int)(d:Zw)(n o q:Value)(j:Act)(w':Zw):Prop:=
 ∃k:Nat,∃a:Nat,∃f:Nat,(AFr p c e d w'∧Ps w' p t r∧Ad w' i [.pointer (some ⟨p,0,none⟩)] 79∧Ad w' c [.string (Aa nm),.slice (some ⟨a,0,none⟩) (S.length+1) f,m,.slice none 0 0] 48∧Jk w' e (S++[s]) (.slice (some ⟨a,0,none⟩) (S.length+1) f)∧((Value.slice g S.length h).ownBlock=some a∨d.heap.size≤a)∧(∀b,b<d.heap.size→e≤b→(Value.slice g S.length h).ownBlock≠some b→w'.heap[b]? =d.heap[b]?))∧j=⟨[.pointer (some ⟨i,0,none⟩),.pointer (some ⟨c,0,none⟩),n,o,q,.pointer (some ⟨c,1,none⟩),.slice g S.length h,.pointer (some ⟨p,0,none⟩),.string (Aa s),.slice (some ⟨k,0,none⟩) 1 1,.slice (some ⟨a,0,none⟩) (S.length+1) f,.pointer (some ⟨c,1,none⟩)].toArray,[]⟩
theorem tI(p Z V m B:Nat)(nm:Bs)(F:Option Zz)(G:Nat)(S:List Bs)(aj:Value)(s:Bs)(l an:List Tk)(W:Option Int)(A:Zw)(Y:Ps A p Z l)(av:Ad A V [.pointer (some ⟨p,0,none⟩)] 79)(ad:Ad A m [.string (Aa nm),.slice F S.length G,aj,.slice none 0 0] 48)(aA:Jk A B S (.slice F S.length G))(bk:p<V)(bi:V<m)(bb:m<B)(aY:B≤A.heap.size)(ba:S.length≤1000000)(aL:Zv (∀af,Ps af p Z l→Zy Zc 62 #[.pointer (some ⟨p,0,none⟩)] af fun e w'=>match W with|some n=>e=Bv n∧SFr p af w'|none=>e=.returned (.string (Aa s))∧SFr p af w'∧Ps w' p Z an))(Q:Exit→Act→Zw→Prop)(au:∀n C w',W=some n→C.defers=[]→AFr p m B A w'→Q (.panic [{v:=.iface 110 (.agg #[.int .i64 n]),recovered:=false}]) C w'){ak al am aD aE aF aG aH aB aC:Value}{ao z:Act→Zw→Prop}(hJ:∀C w',RY3 p Z V m B nm F G S aj s l an W A ak al am C w'→ao C w')(hM:∀C w',Met ao C w'→z C w'):
  Code.wp Zc ((Tryz.f106.body.bind (La 1)).getD .skip) (Exit.then z Q) ⟨[.pointer (some ⟨V,0,none⟩),.pointer (some ⟨m,0,none⟩),ak,al,am,aD,aE,aF,aG,aH,aB,aC].toArray,[]⟩ A:=by
 obtain⟨aN,aI,aM,aQ,aP⟩:=Y5 Y av ad aA au;clear Y av ad aA au
 conv=>arg 2;whnf
 (try dsimp only);refine Fv (by kernel_rfl) (by kernel_rfl) (IY3 p Z V m B nm F G S aj s l an W A ak al am) ?_ ?_ ?_
 ·exact⟨0,0,0,aD,aE,aF,aG,aH,aB,aC,⟨(fun d=>by cases d),(fun d=>by cases d),(fun d=>by cases d),(fun d=>by cases d),(fun d=>by cases d),(fun d=>by cases d),(fun d=>by cases d),(fun d=>by cases d),(fun d=>by cases d),(fun d=>by cases d),(fun d=>by cases d),(fun d=>by cases d),((AFr.refl p m B A).old (Zf _ _).drew),(fun _=>aN.o.old (Zf _ _).drew),(fun d=>by cases d),(aI.o.old (Zf _ _).drew),(fun _=>aM.o.old (Zf _ _).drew),(fun d=>by cases d),(fun _=>aQ.o.old (Zf _ _).drew),(fun d=>by cases d),(fun d=>fun _=>by cases d),(fun b _ _ _=>rfl)⟩,rfl⟩
 ·intro L aR H k ah ai q i
  obtain⟨y,t,r,O,P,R,T,U,M,N,a,rfl⟩:=ah;have ai:k=0∨k=1∨k=2∨k=3∨k=4∨k=5∨k=6∨k=7:=by
   have:k<8:=ai;omega
  rcases ai with rfl|rfl|rfl|rfl|rfl|rfl|rfl|rfl
  ·have g:=kf a.ord q
   refine Bh rfl rfl (fun z E=>?_)
   conv=>arg 2;whnf
   go_wp2;exact⟨y,t,r,.pointer (some ⟨m,1,none⟩),P,R,T,U,M,N,⟨kl g,kq a.p4_3,kq a.p5_3,kq a.p5_4,kq a.p7_5,(fun _=>rfl),kc a.c1,kc a.c2,kc a.c3,kc a.c4,kc a.c5,kc a.c6,a.fr,(fun f=>a.pa (kb f)),kc a.pb,a.c,(fun f=>a.x (kb f)),kl g,(fun f=>a.ra (kb f)),kc a.rb,(fun f=>fun h=>a.g4 (kb f) (kb h)),a.gr⟩,rfl⟩
  ·have g:=kf a.ord q
   have aS:L 0=true:=i _ rfl ⟨0,.data⟩ (by simp) rfl;obtain rfl:=(a.c0 aS).symm;have be:L 7=false:=g;have ad:=a.x be;have bf:=ad.at 1 _ rfl;refine Bh rfl rfl (fun z E=>?_)
   conv=>arg 2;whnf
   go_wp2;exact⟨y,t,r,.pointer (some ⟨m,1,none⟩),ρ F S G,R,T,U,M,N,⟨kl g,kq a.p4_3,kq a.p5_3,kq a.p5_4,kq a.p7_5,kc a.c0,(fun _=>rfl),kc a.c2,kc a.c3,kc a.c4,kc a.c5,kc a.c6,a.fr,(fun f=>a.pa (kb f)),kc a.pb,a.c,(fun f=>a.x (kb f)),kl g,(fun f=>a.ra (kb f)),kc a.rb,(fun f=>fun h=>a.g4 (kb f) (kb h)),a.gr⟩,rfl⟩
  ·have g:=kf a.ord q
   have bh:=a.c.at 0 _ rfl;refine Bh rfl rfl (fun z E=>?_)
   conv=>arg 2;whnf
   go_wp2;exact⟨y,t,r,O,P,π p,T,U,M,N,⟨kl g,kq a.p4_3,kq a.p5_3,kq a.p5_4,kq a.p7_5,kc a.c0,kc a.c1,(fun _=>rfl),kc a.c3,kc a.c4,kc a.c5,kc a.c6,a.fr,(fun f=>a.pa (kb f)),kc a.pb,a.c,(fun f=>a.x (kb f)),kl g,(fun f=>a.ra (kb f)),kc a.rb,(fun f=>fun h=>a.g4 (kb f) (kb h)),a.gr⟩,rfl⟩
  ·have g:=kf a.ord q
   have aU:L 2=true:=i _ rfl ⟨2,.data⟩ (by simp) rfl;obtain rfl:=(a.c2 aU).symm;have Y:=a.pa q;refine Bh rfl rfl (fun z E=>?_)
   conv=>arg 2;whnf
   obtain⟨aO,aK⟩:=Y2 Y a.fr;clear Y;go_wp2_with fail;refine(aL.o _ aO.o).mono ?_;intro e bm aw
   cases W with
   |some n=>
    obtain⟨rfl,ax⟩:=aw;unfold Bv;have aJ:=Za (aK.o.trans (AFr.of_sfr ax));clear ax E a;go_wp2_with fail;exact aP.o n _ _ rfl rfl aJ.o
   |none=>
   obtain⟨rfl,K,bc⟩:=aw;go_wp2;exact⟨y,t,r,O,P,π p,σ s,U,M,N,⟨kl g,(fun _=>Bo L 3),(fun _=>Bo L 3),kq a.p5_4,kq a.p7_5,kc a.c0,kc a.c1,kc a.c2,(fun _=>rfl),kc a.c4,kc a.c5,kc a.c6,(a.fr.trans (AFr.of_sfr K)),(ks),(fun _=>bc),(a.c.sfr K (by omega)),(fun d=>(a.x (kb d)).sfr K (by omega)),kl g,(fun d=>(a.ra (kb d)).sfr K (by omega)),(fun d=>⟨Fh.sfr (a.rb (kb d)).1 K (by omega),(a.rb (kb d)).2⟩),(fun h u=>⟨Ad.sfr (a.g4 (kb h) (kb u)).1 K (by have:=(a.g4 (kb h) (kb u)).2;omega),(a.g4 (kb h) (kb u)).2⟩),(fun b h u D=>(K.block b (by have:=a.fr.size;omega) (by omega)).trans (a.gr b h u D))⟩,rfl⟩
  ·have g:=kf a.ord q
   have I:L 3=true:=i _ rfl ⟨3,.data⟩ (by simp) rfl;obtain rfl:=(a.c3 I).symm;have J:Zx H.heap.size H (H.alloc (.cells #[σ s] 9)):=bA;have ay:=a.fr.size;refine Bh rfl rfl (fun z E=>?_)
   conv=>arg 2;whnf
   go_wp2;exact⟨H.heap.size,t,r,O,P,R,σ s,.slice (some ⟨(H.heap.size),0,none⟩) 1 1,M,N,⟨kl g,(kd (I)),kq a.p5_3,(fun _=>Bo L 4),kq a.p7_5,kc a.c0,kc a.c1,kc a.c2,kc a.c3,(fun _=>rfl),kc a.c5,kc a.c6,(AFr.old (a.fr) J),(fun f=>Ps.old (a.pa (kb f)) J),(fun f=>Ps.old (a.pb (kb f)) J),(Zl (a.c) J),(fun f=>Zl (a.x (kb f)) J),kl g,(fun f=>Fh.old (a.ra (kb f)) J),(kn a.p5_4 q),(fun _ _=>⟨Zd H (Ed s) 9,by omega⟩),(fun b h u D=>(J.block b (by omega)).trans ((a.gr) b h u D))⟩,rfl⟩
  ·have g:=kf a.ord q
   have aT:L 1=true:=i _ rfl ⟨1,.data⟩ (by simp) rfl;obtain rfl:=(a.c1 aT).symm;have I:L 3=true:=i _ rfl ⟨3,.chain⟩ (by simp) rfl;have ag:L 4=true:=i _ rfl ⟨4,.data⟩ (by simp) rfl;obtain rfl:=(a.c4 ag).symm;have I:L 3=true:=i _ rfl ⟨3,.chain⟩ (by simp) rfl;have aZ:=a.g4 ag q;have az:=a.ra q;have ay:=a.fr.size;refine Bh rfl rfl (fun z E=>?_)
   conv=>arg 2;whnf
   refine mX H _ _ rfl B S (ρ F S G) rfl az s y 1 rfl aZ.1 ba (Zi aY ay) ?_;intro ar aq w2 bd X aX bj;have ae:∀k,(Value.slice F S.length G).ownBlock=some k→B≤k:=fun k e=>(az.lt k e).1
   go_wp2;exact⟨y,ar,aq,O,ρ F S G,R,T,κ y 1 1,.slice (some ⟨(ar),0,none⟩) (S.length+1) (aq),N,⟨kl g,kq a.p4_3,(kd (I)),(kd (ag)),(fun _=>Bo L 5),kc a.c0,kc a.c1,kc a.c2,kc a.c3,kc a.c4,(fun _=>rfl),kc a.c6,(a.fr.grown X ae),(fun d=>by rw[Ay L (by decide)]at d;rw[I]at d;cases d),(fun _=>(a.pb I).grown X ae (by omega)),(a.c.grew X (fun e=>by have:=ae _ e;omega)),(fun d=>(a.x (kb d)).grew X (fun e=>by have:=ae _ e;omega)),kl g,(ks),(fun _=>⟨bd,by rcases aX with d|d;exact .inl d;exact .inr (by omega)⟩),(fun _=>ks),(fun b h u D=>(X.block b (by omega) (fun e=>D e.symm)).trans (a.gr b h u D))⟩,rfl⟩
  ·have g:=kf a.ord q
   refine Bh rfl rfl (fun z E=>?_)
   conv=>arg 2;whnf
   go_wp2;exact⟨y,t,r,O,P,R,T,U,M,.pointer (some ⟨m,1,none⟩),⟨kl g,kq a.p4_3,kq a.p5_3,kq a.p5_4,kq a.p7_5,kc a.c0,kc a.c1,kc a.c2,kc a.c3,kc a.c4,kc a.c5,(fun _=>rfl),a.fr,(fun f=>a.pa (kb f)),kc a.pb,a.c,(fun f=>a.x (kb f)),kl g,(fun f=>a.ra (kb f)),kc a.rb,(fun f=>fun h=>a.g4 (kb f) (kb h)),a.gr⟩,rfl⟩
  ·have ab:∀j,j<7→L j=true:=fun j ac=>by
    have ac:j=0∨j=1∨j=2∨j=3∨j=4∨j=5∨j=6:=by omega
    rcases ac with rfl|rfl|rfl|rfl|rfl|rfl|rfl
    ·exact i _ rfl ⟨0,.phase⟩ (by simp) rfl
    ·exact i _ rfl ⟨1,.phase⟩ (by simp) rfl
    ·exact i _ rfl ⟨2,.phase⟩ (by simp) rfl
    ·exact i _ rfl ⟨3,.phase⟩ (by simp) rfl
    ·exact i _ rfl ⟨4,.phase⟩ (by simp) rfl
    ·exact i _ rfl ⟨5,.data⟩ (by simp) rfl
    ·exact i _ rfl ⟨6,.data⟩ (by simp) rfl
   have aV:L 5=true:=i _ rfl ⟨5,.data⟩ (by simp) rfl;obtain rfl:=(a.c5 aV).symm;have aW:L 6=true:=i _ rfl ⟨6,.data⟩ (by simp) rfl;obtain rfl:=(a.c6 aW).symm;have hx:=a.x q;have bf:=hx.at 1 _ rfl;have bg:=hx.fz 1;have bl:=hx.lt;have ap:=ab 3 (by decide);have aa:=ab 5 (by decide);refine Bh rfl rfl (fun z E=>?_)
   conv=>arg 2;whnf
   go_wp2;exact⟨y,t,r,O,P,R,T,U,.slice (some ⟨t,0,none⟩) (S.length+1) r,.pointer (some ⟨m,1,none⟩),⟨(fun _ j ac=>by rw[Ay L (show j≠7 by omega)];exact ab j ac),kq a.p4_3,kq a.p5_3,kq a.p5_4,(kd (ab 5 (by decide))),kc a.c0,kc a.c1,kc a.c2,kc a.c3,kc a.c4,kc a.c5,kc a.c6,(a.fr.set _ _),(fun d=>by rw[Ay L (by decide)]at d;rw[ap]at d;cases d),(fun _=>(a.pb ap).other (by omega) _ _),(a.c.other (by omega) _ _),(ks),(fun _=>hx.set 1 (.slice (some ⟨t,0,none⟩) (S.length+1) r)),(fun d=>by rw[Ay L (by decide)]at d;rw[aa]at d;cases d),(fun _=>⟨Fh.low (a.rb aa).1 bb _ _,(a.rb aa).2⟩),(fun _ d=>by rw[Ay L (by decide)]at d;rw[aa]at d;cases d),(fun b h u D=>(Zh _ _ _ _ (show b≠m by omega)).trans (a.gr b h u D))⟩,rfl⟩
 ·intro L aR H ah w
  obtain⟨y,t,r,O,P,R,T,U,M,N,a,rfl⟩:=ah;obtain rfl:=(a.c0 (w 0 (by decide))).symm;obtain rfl:=(a.c1 (w 1 (by decide))).symm;obtain rfl:=(a.c2 (w 2 (by decide))).symm;obtain rfl:=(a.c3 (w 3 (by decide))).symm;obtain rfl:=(a.c4 (w 4 (by decide))).symm;obtain rfl:=(a.c5 (w 5 (by decide))).symm;obtain rfl:=(a.c6 (w 6 (by decide))).symm;exact hM _ _ (Met.intro (hJ _ _ ⟨y,t,r,⟨a.fr,a.pb (w 3 (by decide)),a.c,a.x7 (w 7 (by decide)),(a.rb (w 5 (by decide))).1,(a.rb (w 5 (by decide))).2,a.gr⟩,rfl⟩))
structure VY4 (p tb cb ob base:Nat)(nm:Bs)(va:Option Zz)(vc:Nat)(S:List Bs)(ov:Value)(s:Bs)(l r:List Tk)(err:Option Int)(W:Zw)(L:Nat→Bool)(nb:Nat)(gn:Nat)(cn:Nat)(z16 z17 z18 z19 z20 z21 z22:Value)(wx:Zw):Prop where
 ord:L 7=true→∀j,j<7→L j=true
 p4_3:L 4=true→L 3=true
 p5_3:L 5=true→L 3=true
 p5_4:L 5=true→L 4=true
 p7_5:L 7=true→L 5=true
 c0:L 0=true→z16=.pointer (some ⟨ob,2,none⟩)
 c1:L 1=true→z17=.slice va S.length vc
 c2:L 2=true→z18=.pointer (some ⟨p,0,none⟩)
 c3:L 3=true→z19=.string (Aa s)
 c4:L 4=true→z20=.slice (some ⟨nb,0,none⟩) 1 1
 c5:L 5=true→z21=.slice (some ⟨gn,0,none⟩) (S.length+1) cn
 c6:L 6=true→z22=.pointer (some ⟨ob,2,none⟩)
 fr:AFr p ob base W wx
 pa:L 3=false→Ps wx p tb l
 pb:L 3=true→Ps wx p tb r
 c:Ad wx cb [.pointer (some ⟨p,0,none⟩)] 79
 x:L 7=false→Ad wx ob [.string (Aa nm),ov,.slice va S.length vc,.slice none 0 0] 48
 x7:L 7=true→Ad wx ob [.string (Aa nm),ov,.slice (some ⟨gn,0,none⟩) (S.length+1) cn,.slice none 0 0] 48
 ra:L 5=false→Jk wx base S (.slice va S.length vc)
 rb:L 5=true→Jk wx base (S++[s]) (.slice (some ⟨gn,0,none⟩) (S.length+1) cn)∧((Value.slice va S.length vc).ownBlock=some gn∨W.heap.size≤gn)
 g4:L 4=true→L 5=false→Ad wx nb (Ed s) 9∧base≤nb
 gr:∀b,b<W.heap.size→base≤b→(Value.slice va S.length vc).ownBlock≠some b→wx.heap[b]? =W.heap[b]?
def IY4(p R a b m:Nat)(nm:Bs)(T:Option Zz)(U:Nat)(S:List Bs)(t:Value)(s:Bs)(l Q:List Tk)(o:Option Int)(j:Zw)(u v J K M N O P w x y z A B C D E F G H I:Value)(L:Nat→Bool)(k:Act)(w':Zw):Prop:=
 ∃r:Nat,∃q:Nat,∃n:Nat,∃c d e f g h i:Value,VY4 p R a b m nm T U S t s l Q o j L r q n c d e f g h i w'∧k=⟨[u,v,.pointer (some ⟨a,0,none⟩),J,K,.pointer (some ⟨b,0,none⟩),M,N,O,P,w,x,y,z,A,B,c,d,e,f,g,h,i,C,D,E,F,G,H,I].toArray,[]⟩
def RY4(p L i c e:Nat)(nm:Bs)(g:Option Zz)(h:Nat)(S:List Bs)(m:Value)(s:Bs)(l K:List Tk)(M:Option Int)(d:Zw)(n o E F G H I J q r t u v w x y z A B C D:Value)(j:Act)(w':Zw):Prop:=
 ∃k:Nat,∃a:Nat,∃f:Nat,(AFr p c e d w'∧Ps w' p L K∧Ad w' i [.pointer (some ⟨p,0,none⟩)] 79∧Ad w' c [.string (Aa nm),m,.slice (some ⟨a,0,none⟩) (S.length+1) f,.slice none 0 0] 48∧Jk w' e (S++[s]) (.slice (some ⟨a,0,none⟩) (S.length+1) f)∧((Value.slice g S.length h).ownBlock=some a∨d.heap.size≤a)∧(∀b,b<d.heap.size→e≤b→(Value.slice g S.length h).ownBlock≠some b→w'.heap[b]? =d.heap[b]?))∧j=⟨[n,o,.pointer (some ⟨i,0,none⟩),E,F,.pointer (some ⟨c,0,none⟩),G,H,I,J,q,r,t,u,v,w,.pointer (some ⟨c,2,none⟩),.slice g S.length h,.pointer (some ⟨p,0,none⟩),.string (Aa s),.slice (some ⟨k,0,none⟩) 1 1,.slice (some ⟨a,0,none⟩) (S.length+1) f,.pointer (some ⟨c,2,none⟩),x,y,z,A,B,C,D].toArray,[]⟩
theorem yS(p Z V m B:Nat)(nm:Bs)(F:Option Zz)(G:Nat)(S:List Bs)(aj:Value)(s:Bs)(l aH:List Tk)(W:Option Int)(A:Zw)(Y:Ps A p Z l)(aN:Ad A V [.pointer (some ⟨p,0,none⟩)] 79)(ad:Ad A m [.string (Aa nm),aj,.slice F S.length G,.slice none 0 0] 48)(aS:Jk A B S (.slice F S.length G))(bE:p<V)(bC:V<m)(bt:m<B)(bq:B≤A.heap.size)(bs:S.length≤1000000)(bd:Zv (∀af,Ps af p Z l→Zy Zc 62 #[.pointer (some ⟨p,0,none⟩)] af fun e w'=>match W with|some n=>e=Bv n∧SFr p af w'|none=>e=.returned (.string (Aa s))∧SFr p af w'∧Ps w' p Z aH))(Q:Exit→Act→Zw→Prop)(aM:∀n C w',W=some n→C.defers=[]→AFr p m B A w'→Q (.panic [{v:=.iface 110 (.agg #[.int .i64 n]),recovered:=false}]) C w'){ak al aB aC aD aE aF aG am an ao ap aq ar aT aU aV aW aX aY aZ au av aw ax ay az aA:Value}(aI z:Act→Zw→Prop)(hJ:∀C w',RY4 p Z V m B nm F G S aj s l aH W A ak al aB aC aD aE aF aG am an ao ap aq ar au av aw ax ay az aA C w'→aI C w')(hM:∀C w',Met aI C w'→z C w'):
  Code.wp Zc ((Tryz.f65.body.bind (La 5)).getD .skip) (Exit.then z Q) ⟨[ak,al,.pointer (some ⟨V,0,none⟩),aB,aC,.pointer (some ⟨m,0,none⟩),aD,aE,aF,aG,am,an,ao,ap,aq,ar,aT,aU,aV,aW,aX,aY,aZ,au,av,aw,ax,ay,az,aA].toArray,[]⟩ A:=by
 obtain⟨bf,ba,be,bi,bh⟩:=Y5 Y aN ad aS aM;clear Y aN ad aS aM
 conv=>arg 2;whnf
 (try dsimp only);refine Fv (by kernel_rfl) (by kernel_rfl) (IY4 p Z V m B nm F G S aj s l aH W A ak al aB aC aD aE aF aG am an ao ap aq ar au av aw ax ay az aA) ?_ ?_ ?_
 ·exact⟨0,0,0,aT,aU,aV,aW,aX,aY,aZ,⟨(fun d=>by cases d),(fun d=>by cases d),(fun d=>by cases d),(fun d=>by cases d),(fun d=>by cases d),(fun d=>by cases d),(fun d=>by cases d),(fun d=>by cases d),(fun d=>by cases d),(fun d=>by cases d),(fun d=>by cases d),(fun d=>by cases d),((AFr.refl p m B A).old (Zf _ _).drew),(fun _=>bf.o.old (Zf _ _).drew),(fun d=>by cases d),(ba.o.old (Zf _ _).drew),(fun _=>be.o.old (Zf _ _).drew),(fun d=>by cases d),(fun _=>bi.o.old (Zf _ _).drew),(fun d=>by cases d),(fun d=>fun _=>by cases d),(fun b _ _ _=>rfl)⟩,rfl⟩
 ·intro L bj H k ah ai q i
  obtain⟨y,t,r,M,N,O,P,R,T,U,a,rfl⟩:=ah;have ai:k=0∨k=1∨k=2∨k=3∨k=4∨k=5∨k=6∨k=7:=by
   have:k<8:=ai;omega
  rcases ai with rfl|rfl|rfl|rfl|rfl|rfl|rfl|rfl
  ·have g:=kf a.ord q
   refine Bh rfl rfl (fun z E=>?_)
   conv=>arg 2;whnf
   go_wp2;exact⟨y,t,r,.pointer (some ⟨m,2,none⟩),N,O,P,R,T,U,⟨kl g,kq a.p4_3,kq a.p5_3,kq a.p5_4,kq a.p7_5,(fun _=>rfl),kc a.c1,kc a.c2,kc a.c3,kc a.c4,kc a.c5,kc a.c6,a.fr,(fun f=>a.pa (kb f)),kc a.pb,a.c,(fun f=>a.x (kb f)),kl g,(fun f=>a.ra (kb f)),kc a.rb,(fun f=>fun h=>a.g4 (kb f) (kb h)),a.gr⟩,rfl⟩
  ·have g:=kf a.ord q
   have bk:L 0=true:=i _ rfl ⟨0,.data⟩ (by simp) rfl;obtain rfl:=(a.c0 bk).symm;have bw:L 7=false:=g;have ad:=a.x bw;have bx:=ad.at 2 _ rfl;refine Bh rfl rfl (fun z E=>?_)
   conv=>arg 2;whnf
   go_wp2;exact⟨y,t,r,.pointer (some ⟨m,2,none⟩),ρ F S G,O,P,R,T,U,⟨kl g,kq a.p4_3,kq a.p5_3,kq a.p5_4,kq a.p7_5,kc a.c0,(fun _=>rfl),kc a.c2,kc a.c3,kc a.c4,kc a.c5,kc a.c6,a.fr,(fun f=>a.pa (kb f)),kc a.pb,a.c,(fun f=>a.x (kb f)),kl g,(fun f=>a.ra (kb f)),kc a.rb,(fun f=>fun h=>a.g4 (kb f) (kb h)),a.gr⟩,rfl⟩
  ·have g:=kf a.ord q
   have bB:=a.c.at 0 _ rfl;refine Bh rfl rfl (fun z E=>?_)
   conv=>arg 2;whnf
   go_wp2;exact⟨y,t,r,M,N,π p,P,R,T,U,⟨kl g,kq a.p4_3,kq a.p5_3,kq a.p5_4,kq a.p7_5,kc a.c0,kc a.c1,(fun _=>rfl),kc a.c3,kc a.c4,kc a.c5,kc a.c6,a.fr,(fun f=>a.pa (kb f)),kc a.pb,a.c,(fun f=>a.x (kb f)),kl g,(fun f=>a.ra (kb f)),kc a.rb,(fun f=>fun h=>a.g4 (kb f) (kb h)),a.gr⟩,rfl⟩
  ·have g:=kf a.ord q
   have bm:L 2=true:=i _ rfl ⟨2,.data⟩ (by simp) rfl;obtain rfl:=(a.c2 bm).symm;have Y:=a.pa q;refine Bh rfl rfl (fun z E=>?_)
   conv=>arg 2;whnf
   obtain⟨bg,bc⟩:=Y2 Y a.fr;clear Y;go_wp2_with fail;refine(bd.o _ bg.o).mono ?_;intro e bG aO
   cases W with
   |some n=>
    obtain⟨rfl,aP⟩:=aO;unfold Bv;have bb:=Za (bc.o.trans (AFr.of_sfr aP));clear aP E a;go_wp2_with fail;exact bh.o n _ _ rfl rfl bb.o
   |none=>
   obtain⟨rfl,K,bu⟩:=aO;go_wp2;exact⟨y,t,r,M,N,π p,σ s,R,T,U,⟨kl g,(fun _=>Bo L 3),(fun _=>Bo L 3),kq a.p5_4,kq a.p7_5,kc a.c0,kc a.c1,kc a.c2,(fun _=>rfl),kc a.c4,kc a.c5,kc a.c6,(a.fr.trans (AFr.of_sfr K)),(ks),(fun _=>bu),(a.c.sfr K (by omega)),(fun d=>(a.x (kb d)).sfr K (by omega)),kl g,(fun d=>(a.ra (kb d)).sfr K (by omega)),(fun d=>⟨Fh.sfr (a.rb (kb d)).1 K (by omega),(a.rb (kb d)).2⟩),(fun h u=>⟨Ad.sfr (a.g4 (kb h) (kb u)).1 K (by have:=(a.g4 (kb h) (kb u)).2;omega),(a.g4 (kb h) (kb u)).2⟩),(fun b h u D=>(K.block b (by have:=a.fr.size;omega) (by omega)).trans (a.gr b h u D))⟩,rfl⟩
  ·have g:=kf a.ord q
   have I:L 3=true:=i _ rfl ⟨3,.data⟩ (by simp) rfl;obtain rfl:=(a.c3 I).symm;have J:Zx H.heap.size H (H.alloc (.cells #[σ s] 9)):=bA;have aQ:=a.fr.size;refine Bh rfl rfl (fun z E=>?_)
   conv=>arg 2;whnf
   go_wp2;exact⟨H.heap.size,t,r,M,N,O,σ s,.slice (some ⟨(H.heap.size),0,none⟩) 1 1,T,U,⟨kl g,(kd (I)),kq a.p5_3,(fun _=>Bo L 4),kq a.p7_5,kc a.c0,kc a.c1,kc a.c2,kc a.c3,(fun _=>rfl),kc a.c5,kc a.c6,(AFr.old (a.fr) J),(fun f=>Ps.old (a.pa (kb f)) J),(fun f=>Ps.old (a.pb (kb f)) J),(Zl (a.c) J),(fun f=>Zl (a.x (kb f)) J),kl g,(fun f=>Fh.old (a.ra (kb f)) J),(kn a.p5_4 q),(fun _ _=>⟨Zd H (Ed s) 9,by omega⟩),(fun b h u D=>(J.block b (by omega)).trans ((a.gr) b h u D))⟩,rfl⟩
  ·have g:=kf a.ord q
   have bl:L 1=true:=i _ rfl ⟨1,.data⟩ (by simp) rfl;obtain rfl:=(a.c1 bl).symm;have I:L 3=true:=i _ rfl ⟨3,.chain⟩ (by simp) rfl;have ag:L 4=true:=i _ rfl ⟨4,.data⟩ (by simp) rfl;obtain rfl:=(a.c4 ag).symm;have I:L 3=true:=i _ rfl ⟨3,.chain⟩ (by simp) rfl;have br:=a.g4 ag q;have aR:=a.ra q;have aQ:=a.fr.size;refine Bh rfl rfl (fun z E=>?_)
   conv=>arg 2;whnf
   refine mX H _ _ rfl B S (ρ F S G) rfl aR s y 1 rfl br.1 bs (Zi bq aQ) ?_;intro aL aK w2 bv X bp bD;have ae:∀k,(Value.slice F S.length G).ownBlock=some k→B≤k:=fun k e=>(aR.lt k e).1
   go_wp2;exact⟨y,aL,aK,M,ρ F S G,O,P,κ y 1 1,.slice (some ⟨(aL),0,none⟩) (S.length+1) (aK),U,⟨kl g,kq a.p4_3,(kd (I)),(kd (ag)),(fun _=>Bo L 5),kc a.c0,kc a.c1,kc a.c2,kc a.c3,kc a.c4,(fun _=>rfl),kc a.c6,(a.fr.grown X ae),(fun d=>by rw[Ay L (by decide)]at d;rw[I]at d;cases d),(fun _=>(a.pb I).grown X ae (by omega)),(a.c.grew X (fun e=>by have:=ae _ e;omega)),(fun d=>(a.x (kb d)).grew X (fun e=>by have:=ae _ e;omega)),kl g,(ks),(fun _=>⟨bv,by rcases bp with d|d;exact .inl d;exact .inr (by omega)⟩),(fun _=>ks),(fun b h u D=>(X.block b (by omega) (fun e=>D e.symm)).trans (a.gr b h u D))⟩,rfl⟩
  ·have g:=kf a.ord q
   refine Bh rfl rfl (fun z E=>?_)
   conv=>arg 2;whnf
   go_wp2;exact⟨y,t,r,M,N,O,P,R,T,.pointer (some ⟨m,2,none⟩),⟨kl g,kq a.p4_3,kq a.p5_3,kq a.p5_4,kq a.p7_5,kc a.c0,kc a.c1,kc a.c2,kc a.c3,kc a.c4,kc a.c5,(fun _=>rfl),a.fr,(fun f=>a.pa (kb f)),kc a.pb,a.c,(fun f=>a.x (kb f)),kl g,(fun f=>a.ra (kb f)),kc a.rb,(fun f=>fun h=>a.g4 (kb f) (kb h)),a.gr⟩,rfl⟩
  ·have ab:∀j,j<7→L j=true:=fun j ac=>by
    have ac:j=0∨j=1∨j=2∨j=3∨j=4∨j=5∨j=6:=by omega
    rcases ac with rfl|rfl|rfl|rfl|rfl|rfl|rfl
    ·exact i _ rfl ⟨0,.phase⟩ (by simp) rfl
    ·exact i _ rfl ⟨1,.phase⟩ (by simp) rfl
    ·exact i _ rfl ⟨2,.phase⟩ (by simp) rfl
    ·exact i _ rfl ⟨3,.phase⟩ (by simp) rfl
    ·exact i _ rfl ⟨4,.phase⟩ (by simp) rfl
    ·exact i _ rfl ⟨5,.data⟩ (by simp) rfl
    ·exact i _ rfl ⟨6,.data⟩ (by simp) rfl
   have bn:L 5=true:=i _ rfl ⟨5,.data⟩ (by simp) rfl;obtain rfl:=(a.c5 bn).symm;have bo:L 6=true:=i _ rfl ⟨6,.data⟩ (by simp) rfl;obtain rfl:=(a.c6 bo).symm;have hx:=a.x q;have bx:=hx.at 2 _ rfl;have bz:=hx.fz 2;have bF:=hx.lt;have aJ:=ab 3 (by decide);have aa:=ab 5 (by decide);refine Bh rfl rfl (fun z E=>?_)
   conv=>arg 2;whnf
   go_wp2;exact⟨y,t,r,M,N,O,P,R,.slice (some ⟨t,0,none⟩) (S.length+1) r,.pointer (some ⟨m,2,none⟩),⟨(fun _ j ac=>by rw[Ay L (show j≠7 by omega)];exact ab j ac),kq a.p4_3,kq a.p5_3,kq a.p5_4,(kd (ab 5 (by decide))),kc a.c0,kc a.c1,kc a.c2,kc a.c3,kc a.c4,kc a.c5,kc a.c6,(a.fr.set _ _),(fun d=>by rw[Ay L (by decide)]at d;rw[aJ]at d;cases d),(fun _=>(a.pb aJ).other (by omega) _ _),(a.c.other (by omega) _ _),(ks),(fun _=>hx.set 2 (.slice (some ⟨t,0,none⟩) (S.length+1) r)),(fun d=>by rw[Ay L (by decide)]at d;rw[aa]at d;cases d),(fun _=>⟨Fh.low (a.rb aa).1 bt _ _,(a.rb aa).2⟩),(fun _ d=>by rw[Ay L (by decide)]at d;rw[aa]at d;cases d),(fun b h u D=>(Zh _ _ _ _ (show b≠m by omega)).trans (a.gr b h u D))⟩,rfl⟩
 ·intro L bj H ah w
  obtain⟨y,t,r,M,N,O,P,R,T,U,a,rfl⟩:=ah;obtain rfl:=(a.c0 (w 0 (by decide))).symm;obtain rfl:=(a.c1 (w 1 (by decide))).symm;obtain rfl:=(a.c2 (w 2 (by decide))).symm;obtain rfl:=(a.c3 (w 3 (by decide))).symm;obtain rfl:=(a.c4 (w 4 (by decide))).symm;obtain rfl:=(a.c5 (w 5 (by decide))).symm;obtain rfl:=(a.c6 (w 6 (by decide))).symm;exact hM _ _ (Met.intro (hJ _ _ ⟨y,t,r,⟨a.fr,a.pb (w 3 (by decide)),a.c,a.x7 (w 7 (by decide)),(a.rb (w 5 (by decide))).1,(a.rb (w 5 (by decide))).2,a.gr⟩,rfl⟩))
end Go.Proofs.YthcpopmmlneneaaGreatDoor

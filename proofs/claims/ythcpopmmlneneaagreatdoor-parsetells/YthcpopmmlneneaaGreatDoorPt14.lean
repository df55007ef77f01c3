/-
  Expr, Parse: whole, then Right. Conditions: what whole gives is known.
-/
import Derived.Test.YthcpopmmlneneaaGreatDoorPt13
import Derived.Defers
import Derived.Recover
import Derived.Laws.Pointers
import Derived.Test.YthcpopmmlneneaaGreatDoorPt07
set_option linter.unusedVariables false
set_option linter.unusedSimpArgs false
namespace Go.Proofs.YthcpopmmlneneaaGreatDoor
open Go.RowKit Go.Proofs.Tryz
set_option maxHeartbeats 20000000
set_option maxRecDepth 100000
open Go renaming World→Zi,undef→Zj,Addr→Zl,Calls→Zn,wp_mono→Zo,bodyPost_ret→Zp
open Go.RowKit renaming Below→Zk,Hid→Zm
open Go.Lib renaming hid→Za
open Nat renaming le_refl→Zb,le_of_lt→Ze
open Go.Proofs.Tryz renaming prog→Zc
open Ad renaming new→Zd
open Go.RowKit.Below renaming refl→Zf
open List renaming length_cons→Zg,getElem?_eq_getElem→Zh
structure Pq (W:Zi)(p tb cb ob base:Nat)(nm:Bs)(pa:Option Zl)(pc:Nat)(pl:List Bs)(la:Option Zl)(lc:Nat)(ll:List Bs)(l:List Tk)(wx:Zi):Prop where
 fr:AFr p ob base W wx
 par:Ps wx p tb l
 c:Ad wx cb [.pointer (some ⟨p,0,none⟩)] 79
 o:Ad wx ob [.string (Aa nm),.slice pa pl.length pc,.slice la ll.length lc,.slice none 0 0] 48
 rp:Jk wx base pl (.slice pa pl.length pc)
 rl:Jk wx base ll (.slice la ll.length lc)
 ap:∀g,(Value.slice pa pl.length pc).ownBlock=some g→(Value.slice la ll.length lc).ownBlock≠some g
 len:pl.length+ll.length+l.length≤1000000
section
variable {W:Zi} {p tb cb ob base:Nat} {nm:Bs} {pa:Option Zl} {pc:Nat} {pl:List Bs} {la:Option Zl} {lc:Nat} {ll:List Bs} {l r:List Tk} {wx w':Zi}
theorem Pq.old(a:Pq W p tb cb ob base nm pa pc pl la lc ll l wx)(b:Zk wx.heap.size wx w'):Pq W p tb cb ob base nm pa pc pl la lc ll l w':=
 ⟨a.fr.old b,a.par.old b,a.c.old b,a.o.old b,a.rp.old b,a.rl.old b,a.ap,a.len⟩
theorem Pq.next(a:Pq W p tb cb ob base nm pa pc pl la lc ll l wx)(d:Oz p cb ob base W)(b:SFr p wx w')(e:Ps w' p tb r)(i:r.length≤l.length):Pq W p tb cb ob base nm pa pc pl la lc ll r w':=
 have f:=d.pc;have g:=d.co;have h:=d.ob
 ⟨a.fr.trans (AFr.of_sfr b),e,a.c.sfr b (by omega),a.o.sfr b (by omega),a.rp.sfr b (by omega),a.rl.sfr b (by omega),a.ap,by have:=a.len;omega⟩
end
theorem Fh.gr {α:Type}{e:TypeId}{d:α→List Value}{k:Nat}{w w':Zi}{a:Nat}{L:List α}{v:Value}(c:Fh e d k w a L v){h:Value}(l:∀b,b<w.heap.size→a≤b→h.ownBlock≠some b→w'.heap[b]? =w.heap[b]?)(o:∀g,v.ownBlock=some g→h.ownBlock≠some g):Fh e d k w' a L v:=by
 refine⟨c.1,?_⟩;have m:=c.lt;rcases c.2 with n|⟨g,cap,i,rfl,f,j,p⟩
 ·exact .inl n
 ·refine .inr ⟨g,cap,i,rfl,f,?_,p⟩
  rw[l g (m g rfl).2 f (o g rfl)];exact j
def Nr(l:List Tk):PR Bs:=match An [105,110,116] l with
 |.error e=>.error e
 |.ok r=>Ew r
theorem Xa {l b:List Tk}{s:Bs}(a:Nr l=.ok (s,b)):b.length<l.length:=by
 unfold Nr at a
 cases h1:An [105,110,116] l with
 |error e=>rw[h1]at a;cases a
 |ok q=>rw[h1]at a;have:=Bp h1;have:=Gu a;omega
def OneR(a:Zi)(p m f c b:Nat)(nm:Bs)(l:List Bs)(i:Option Zl)(j:Nat)(k:List Bs)(d:PR Bs)(e:Ending)(w':Zi):Prop:=
 match d with
 |.ok (s,r)=>e=.returned (.tuple #[])∧∃h g,Pq a p m f c b nm (some ⟨h,0,none⟩) g (l++[s]) i j k r w'
 |.error n=>e=Bv n∧AFr p c b a w'
theorem fn1_any(M A:Zi)(p i j f b:Nat)(nm:Bs)(pa:Option Zl)(z:Nat)(h:List Bs)(t:Option Zl)(u:Nat)(w:List Bs)(l:List Tk)(r:Oz p j f b M)(m:Pq M p i j f b nm pa z h t u w l A):
  Zn Zc 106 #[.pointer (some ⟨j,0,none⟩),.pointer (some ⟨f,0,none⟩)] A (OneR M p i j f b nm h t u w (Nr l)):=by
 obtain⟨G,O⟩:∃G,Nr l=G:=⟨_,rfl⟩;rw[O];have W:=Za O;have an:=m.c.at 0 _ rfl;have P:Zk A.heap.size A (A.alloc (.cells #[.string ⟨#[105,110,116]⟩] 9)):=bA;obtain⟨V,ae,D⟩:=Y3 (m.old P) (Dn p i l [105,110,116] (m.old P).par A.heap.size 1 ((Zd A [.string ⟨#[105,110,116]⟩] 9).at 0 _ rfl)) r;clear O m P r;go_enter func106,ntmps106;go_wp2_with fail;refine ae.o.mono ?_;intro e w2 k
 cases hw:An [105,110,116] l with
 |error n=>
  rw[hw]at k;obtain⟨d,rfl⟩:=k;have ad:=Za (V.o.fr.trans (AFr.of_sfr d));have af:G=.error n:=by rw[←W.o];unfold Nr;rw[hw]
  subst af;clear d hw;unfold Bv;go_wp2;exact⟨rfl,rfl,ad.o⟩
 |ok r1=>
  rw[hw]at k;obtain⟨d,rfl,B⟩:=k;have a:=Za (V.o.next D.o d B (Ze (Bp hw)));have J:Ew r1=G:=by rw[←W.o];unfold Nr;rw[hw]
  have aa:=Bp hw;have am:=Za aa;clear d B hw aa;go_upto_region 1 with(fail);have Y:b≤w2.heap.size:=Nat.le_trans D.o.bs a.o.fr.size;have Z:h.length≤1000000:=by have:=a.o.len;omega
  have ab:=D.o.pc;have L:=D.o.co;have ac:=D.o.ob
  cases hy:Ew r1 with
  |error n=>
   rw[hy]at J;subst J;refine Zo (Q:=Exit.then (Met (RY3 p i j f b nm pa z h (.slice t w.length u) [] r1 [] (some n) w2 _ _ _)) _) (tI p i j f b nm pa z h (.slice t w.length u) [] r1 [] (some n) w2 a.o.par a.o.c a.o.o a.o.rp ab L ac Y Z (fun U E=>by have y:=Gb p i r1 U E;rw[hy]at y;exact y.mono (fun e w2 m=>⟨m.2,m.1⟩)) (fun e x w'=> ∃F,e=.panic [{v:=.iface 110 (.agg #[ι F]),recovered:=false}]∧n=F∧x.defers=[]∧AFr p f b w2 w') (fun F x w' r R d=>by injection r with r;exact⟨F,rfl,r,R,d⟩) (fun _ _ q=>q) (fun _ _ q=>q)) ?_;intro e x w' C
   cases e with
   |normal=>
    obtain⟨al,N,X,⟨_,B,_⟩,_⟩:=(show RY3 p i j f b nm pa z h (.slice t w.length u) [] r1 [] (some n) w2 _ _ _ x w' from C);exact B.ends.elim
   |panic ch=>
    obtain⟨L,k,rfl,R,d⟩:=C;injection k with k
    subst k;exact⟨R,rfl,a.o.fr.trans d⟩
   |_=>
    obtain⟨L,k,_⟩:=C
    cases k
  |ok q=>
   obtain⟨s,T⟩:=q;rw[hy]at J;subst J;have ao:=Gu hy;refine Zo (Q:=Exit.then (Met (RY3 p i j f b nm pa z h (.slice t w.length u) s r1 T none w2 _ _ _)) (fun _ _ _=>False)) (tI p i j f b nm pa z h (.slice t w.length u) s r1 T none w2 a.o.par a.o.c a.o.o a.o.rp ab L ac Y Z (fun U E=>by have y:=Gb p i r1 U E;rw[hy]at y;exact y.mono (fun e w2 m=>by obtain⟨d,v,rfl,B,S⟩:=m;have S:v= σ s:=S;subst S;exact⟨rfl,d,B⟩)) (fun _ _ _=>False) (fun F x w' r=>by cases r) (fun _ _ q=>q) (fun _ _ q=>q)) ?_;intro e x w' C
   cases e with
   |normal=>
    obtain⟨al,N,X,⟨E,y,ag,ah,ai,I,aj⟩,rfl⟩:=(show RY3 p i j f b nm pa z h (.slice t w.length u) s r1 T none w2 _ _ _ x w' from C);have K:(h++[s]).length=h.length+1:=by simp
    have ak:=a.o.rl.gr aj (fun g e H=>a.o.ap g H e);refine bodyPost_end (v:=.tuple #[]) (by simp [results,results106,go_sem]) rfl ⟨rfl,N,X,a.o.fr.trans E,y,ag,?_,?_,ak,?_,?_⟩
    ·rw[K];exact ah
    ·rw[K];exact ai
    ·intro g e H
     rw[K]at e;have e:N=g:=by injection e
     subst e;rcases I with I|I
     ·exact a.o.ap _ I H
     ·have:=(a.o.rl.lt _ H).2;omega
    ·rw[K];have:=a.o.len;omega
   |_=>exact False.elim C
def Vq(g:Nat)(a:List Bs)(l:List Tk):PR (List Bs):=match Bi [44] l with
 |some r=>Mc g a r
 |none=>match An [41] l with
  |.error e=>.error e
  |.ok r=>.ok (a,r)
theorem Tn {g:Nat}{a:List Bs}{l c:List Tk}{s:Bs}(b:Nr l=.ok (s,c)):Mc (g+1) a l=Vq g (a++[s]) c:=by
 unfold Nr at b;rw[Mc]
 cases h1:An [105,110,116] l with
 |error e=>rw[h1]at b;cases b
 |ok q=>rw[h1]at b;dsimp only at b ⊢;rw[b];rfl
theorem We {g:Nat}{a:List Bs}{l:List Tk}{n:Int}(b:Nr l=.error n):Mc (g+1) a l=.error n:=by
 unfold Nr at b;rw[Mc]
 cases h1:An [105,110,116] l with
 |error e=>rw[h1]at b;injection b with b;rw[b]
 |ok q=>rw[h1]at b;dsimp only at b ⊢;rw[b]
theorem Tm:∀(f:Nat) (a:List Bs) (l:List Tk) (x:List Bs) (c:List Tk),Mc f a l=.ok (x,c)→c.length<l.length
 |0,a,l,x,c,b=>by cases b
 |f+1,a,l,x,c,b=>by
  cases h1:Nr l with
  |error n=>rw[We h1]at b;cases b
  |ok q=>
   obtain⟨s,q⟩:=q;rw[Tn h1]at b;have d:=Xa h1;unfold Vq at b
   cases h2:Bi [44] q with
   |some z=>rw[h2]at b;have:=Tm f _ _ _ _ b;have:=Bn h2;omega
   |none=>
    rw[h2]at b;dsimp only at b
    cases h3:An [41] q with
    |error e=>rw[h3]at b;cases b
    |ok z=>rw[h3]at b;injection b with b;injection b with _ b;subst b;have:=Bp h3;omega
def Jc(f:Nat)(l:List Tk):PR (List Bs):=match Bi [41] l with|some r=>.ok ([],r)|none=>Mc f [] l
def sK(b:Zi)(p i g d c:Nat)(nm:Bs)(f:PR (List Bs))(e:Ending)(w':Zi):Prop:=
 match f with
 |.ok (a,r)=>e=.returned (.tuple #[])∧∃pa h,Pq b p i g d c nm pa h a none 0 [] r w'
 |.error n=>e=Bv n∧AFr p d c b w'
def qX(b a:Nat):Value:=.func (.func 106) #[] #[.pointer (some ⟨a,0,none⟩),.pointer (some ⟨b,0,none⟩)]
theorem fF(f:Nat)(w:Zi)(p h:Nat){b c d:Nat}(nm:Bs)(t:Tk)(a:List Tk)(k:Oz p b c d w)(g:Pq w p h b c d nm none 0 [] none 0 [] (t::a) w)(y:isP [41] t=true):
  Zn Zc 105 #[.pointer (some ⟨p,0,none⟩),qX c b] w (sK w p h b c d nm (Jc f (t::a))):=by
 have i:Jc f (t::a)=.ok ([],a):=by unfold Jc;rw[Bt y]
 rw[i];obtain⟨r,m,q⟩:=Y3 (Bz p h t a [41] w g.par y) g k;clear i y g k;unfold qX;go_enter func105,ntmps105;go_wp2_with fail;refine r.o.mono ?_;rintro e s ⟨rfl,j,l⟩;have n:=Za (m.o.next q.o j l (by simp));clear j l;go_wp2_with fail
 first
  |(refine Zp (results_none rfl _ _ _) rfl ?_)
  |go_end0
 exact⟨rfl,none,0,n.o⟩
structure ParI (w:Zi)(p tb cb ob base:Nat)(nm:Bs)(R:PR (List Bs))(g:Nat)(pa:Option Zl)(pc:Nat)(pl:List Bs)(l:List Tk)(wr:Zi):Prop where
 arg:Pq w p tb cb ob base nm pa pc pl none 0 [] l wr
 fuel:l.length≤g
 res:Vq g pl l=R
theorem dO(f:Nat)(w:Zi)(p d:Nat){h i r:Nat}(nm:Bs)(t:Tk)(k:List Tk)(X:Oz p h i r w)(L:Pq w p d h i r nm none 0 [] none 0 [] (t::k) w)(N:(t::k).length≤f)(n:isP [41] t=false):
  Zn Zc 105 #[.pointer (some ⟨p,0,none⟩),qX i h] w (sK w p d h i r nm (Jc f (t::k))):=by
 have T:Jc f (t::k)=Mc f [] (t::k):=by unfold Jc;rw[Ah n]
 rw[T];obtain⟨g,rfl⟩:∃g,f=g+1:=⟨f-1,by rw[Zg]at N;omega⟩;obtain⟨x,M⟩:∃x,Mc (g+1) [] (t::k)=x:=⟨_,rfl⟩;rw[M];obtain⟨R,ae,Z,J,ac⟩:=Y5 M (Aq p d t k [41] w L.par n) L X N;clear T n L X M N;unfold qX;go_enter func105,ntmps105;go_wp2_with fail;refine ae.o.mono ?_;rintro e an ⟨rfl,E⟩;have aa:=Za (Z.o.old E);clear E;have S:Zm (∀(pa:Option Zl) (v:Nat) (j:List Bs) (l:List Tk) (G:Zi),Pq w p d h i r nm pa v j none 0 [] l G→Zn Zc 106 #[π h,π i] G (OneR w p d h i r nm j none 0 [] (Nr l))):=
  fun pa v j l G y=>fn1_any w G p d h i r nm pa v j none 0 [] l J.o y
 go_wp2_with fail;refine(S.o none 0 [] (t::k) an aa.o).mono ?_;intro e w2 a
 cases hc:Nr (t::k)with
 |error n=>
  rw[hc]at a;obtain⟨rfl,b⟩:=a;have A:=R.o;rw[We hc]at A;subst A;have C:=Za b;clear hc b;unfold Bv;go_wp2;exact⟨rfl,rfl,C.o⟩
 |ok q=>
  obtain⟨s,q⟩:=q;rw[hc]at a;obtain⟨rfl,ai,ag,y⟩:=a;have A:=R.o;rw[Tn hc]at A;have O:=Xa hc;have P:Zm (ParI w p d h i r nm x g (some ⟨ai,0,none⟩) ag ([]++[s]) q w2):=⟨y,by have:=ac.o;omega,A⟩;clear y hc O A;go_wp2
  go_loopw [] (fun wr=> ∃(D:Nat) (pa:Option Zl) (v:Nat) (j:List Bs) (l:List Tk),Zm (ParI w p d h i r nm x D pa v j l wr)) (fun wr=>Dz p wr)
  case atStart=>exact⟨g,_,_,_,q,P⟩
  case round=>
   obtain⟨D,pa,v,j,l,m⟩:=hrel;clear P;obtain⟨u,l,rfl⟩:=m.o.arg.par.ends.ne
   cases hu:isP [44] u with
   |true=>
    have K:=Za (Bz p d u l [44] wr m.o.arg.par hu);have c:Mc D j l=x:=by
     have:=m.o.res;unfold Vq at this;rw[Bt hu]at this;exact this
    clear hu;go_wp2_with fail;refine K.o.mono ?_;rintro e z ⟨rfl,b,B⟩;have H:=Za (m.o.arg.next J.o b B (by simp));have V:=m.o.fuel;rw[Zg]at V;have al:0<l.length:=by obtain⟨ap,ao,rfl⟩:=B.ends.ne;simp
    clear b B;obtain⟨F,ak⟩:∃F,D=F+1:=⟨D-1,by omega⟩;subst ak;go_wp2_with fail;refine(S.o pa v j l z H.o).mono ?_;intro e Y a
    cases hc:Nr l with
    |error n=>
     rw[hc]at a;obtain⟨rfl,b⟩:=a;rw[We hc]at c;subst c;have C:=Za b;clear hc b;unfold Bv;go_wp2;exact⟨rfl,rfl,C.o⟩
    |ok q2=>
     obtain⟨am,q2⟩:=q2;rw[hc]at a;obtain⟨rfl,aj,ah,y⟩:=a;rw[Tn hc]at c;have O:=Xa hc;have Q:Zm (ParI w p d h i r nm x F (some ⟨aj,0,none⟩) ah (j++[am]) q2 Y):=⟨y,by omega,c⟩;have W:Dz p Y<Dz p wr:=by
      rw[Q.o.arg.par.len,m.o.arg.par.len,Zg];omega
     have ad:=Za W;clear y hc O c W V al;go_wp2;go_roundw
     case rel=>exact⟨F,_,_,_,q2,Q⟩
     case measure=>exact ad.o
   |false=>
    have K:=Za (Aq p d u l [44] wr m.o.arg.par hu);have c:(match An [41] (u::l)with|.error e=>.error e|.ok k=>.ok (j,k))=x:=by
     have:=m.o.res;unfold Vq at this;rw[Ah hu]at this;exact this
    clear hu;go_wp2_with fail;refine K.o.mono ?_;rintro e z ⟨rfl,E⟩;have H:=Za (m.o.arg.old E);have U:Zk z.heap.size z (z.alloc (.cells #[.string ⟨#[41]⟩] 9)):=bA;have I:=Za (H.o.old U);have af:=Za (Dn p d (u::l) [41] I.o.par z.heap.size 1 ((Zd z [.string ⟨#[41]⟩] 9).at 0 _ rfl));clear E U;go_wp2_with fail;refine af.o.mono ?_;intro e aq a
    cases hw:An [41] (u::l)with
    |error n=>
     rw[hw]at a c;obtain⟨b,rfl⟩:=a;have C:=Za (I.o.fr.trans (AFr.of_sfr b));dsimp only at c;subst c;clear b hw;unfold Bv;go_wp2;exact⟨rfl,rfl,C.o⟩
    |ok q3=>
     rw[hw]at a c;obtain⟨b,rfl,B⟩:=a;have ab:=Za (I.o.next J.o b B (Ze (Bp hw)));dsimp only at c;subst c;clear b hw B;go_wp2_with fail
     first
      |go_end0
      |(refine Zp (results_none rfl _ _ _) rfl ?_)
     exact⟨rfl,pa,v,ab.o⟩
def FuH(B:Nat)(x:Fu)(v:Value)(w:Zi):Prop:= ∃pv lv a,v=.agg #[.string (Aa x.name),pv,lv,a]∧Bb (B≤ ·) w x.params pv∧Bb (B≤ ·) w x.locals lv∧Au (B≤ ·) w x.body a
def Of(f g:Nat)(s:Bs)(c a:List Bs)(l:List Tk):PR Fu:=match Js g a l with
 |.error e=>.error e
 |.ok (ls,r)=>match Ep f [] r with
  |.error e=>.error e
  |.ok (b,r)=>.ok (⟨s,c,ls,b⟩,r)
theorem Ob(f:Nat)(s:Bs)(l:List Tk):Hm f s l=match Jc f l with
  |.error e=>.error e
  |.ok (ps,r)=>match An [123] r with
   |.error e=>.error e
   |.ok r=>Of f f s ps [] r:=rfl
theorem gD {f g:Nat}{s:Bs}{c b:List Bs}{u:Tk}{l a:List Tk}{x:Bs}(y:isP [105,110,116] u=true)(d:Ew l=.ok (x,a)):Of f (g+1) s c b (u::l)=match An [59] a with
  |.error e=>.error e
  |.ok a=>Of f g s c (b++[x]) a:=by
 unfold Of;rw[Js,Bt y];dsimp only;rw[d];dsimp only
 cases An [59] a with
 |error e=>rfl
 |ok q=>rfl
theorem jW {f g:Nat}{s:Bs}{c b:List Bs}{u:Tk}{l:List Tk}{n:Int}(y:isP [105,110,116] u=true)(a:Ew l=.error n):Of f (g+1) s c b (u::l)=.error n:=by
 unfold Of;rw[Js,Bt y];dsimp only;rw[a]
theorem kP {f g:Nat}{s:Bs}{c a:List Bs}{u:Tk}{l:List Tk}(y:isP [105,110,116] u=false):Of f (g+1) s c a (u::l)=match Ep f [] (u::l)with
  |.error e=>.error e
  |.ok (b,r)=>.ok (⟨s,c,a,b⟩,r):=by
 unfold Of;rw[Js,Ah y]
structure LocI (W:Zi)(p tb cb ob base f:Nat)(nm:Bs)(pa:Option Zl)(pc:Nat)(pl:List Bs)(R:PR Fu)(g:Nat)(la:Option Zl)(lc:Nat)(ll:List Bs)(l:List Tk)(wr:Zi):Prop where
 arg:Pq W p tb cb ob base nm pa pc pl la lc ll l wr
 fuel:l.length≤g
 st:4*l.length+2≤f
 res:Of f g nm pl ll l=R
theorem Sh(f:Nat)(s:Bs)(l:List Tk)(w:Zi)(p k:Nat)(bj:4*l.length+2≤f)(J:Ps w p k l):
  Zn Zc 65 #[.pointer (some ⟨p,0,none⟩),.string (Aa s)] w (Gw (FuH w.heap.size) w p k (Hm f s l)):=by
 have cg:∀(be:Fn) (first cap:Array Value) (w:Zi),(Instr.makeFunc be first cap).run Zc w=.ok (.func be first cap) w:=fun _ _ _ _=>rfl
 obtain⟨m,V⟩:∃m,((w.alloc (.cells #[π p] 79)).alloc (.cells #[ε,ν,ν,ν] 48)).alloc (.cells #[σ s,ν,ν,ν] 48)=m:=⟨_,rfl⟩;have ar:Zk w.heap.size w m:=V ▸ ((bA).alloc (by simp) _).alloc (by simp;omega) _;have bv:m.heap.size=w.heap.size+3:=by rw[←V];simp
 have aI:Ad m w.heap.size [π p] 79:=V ▸ ((Zd w [π p] 79).alloc _).alloc _;have br:Ad m (w.heap.size+1) [ε,ν,ν,ν] 48:=by
  have:=(Zd (w.alloc (.cells #[π p] 79)) [ε,ν,ν,ν] 48).alloc (.cells #[σ s,ν,ν,ν] 48);rw[show(w.alloc (.cells #[π p] 79)).heap.size=w.heap.size+1 by simp]at this;exact V ▸ this
 have bo:Ad m (w.heap.size+2) [σ s,ν,ν,ν] 48:=by
  have:=Zd ((w.alloc (.cells #[π p] 79)).alloc (.cells #[ε,ν,ν,ν] 48)) [σ s,ν,ν,ν] 48;rw[show((w.alloc (.cells #[π p] 79)).alloc (.cells #[ε,ν,ν,ν] 48)).heap.size=w.heap.size+2 by simp]at this;exact V ▸ this
 have aM:=J.lt;have bk:l.length≤1000000:=by obtain⟨_,_,K⟩:=J;exact K.fit
 have ax:Oz p w.heap.size (w.heap.size+2) (w.heap.size+3) m:=⟨aM,by omega,by omega,by omega⟩;have aG:Pq m p k w.heap.size (w.heap.size+2) (w.heap.size+3) s none 0 [] none 0 [] l m:=⟨AFr.refl _ _ _ _,J.old ar,aI,bo,Fh.zero _ _ _ _ _,Fh.zero _ _ _ _ _,(fun g e=>by cases e),by simpa using bk⟩;have bw:Zn Zc 105 #[π p,qX (w.heap.size+2) w.heap.size] m (sK m p k w.heap.size (w.heap.size+2) (w.heap.size+3) s (Jc f l)):=by
  obtain⟨t,aQ,rfl⟩:=J.ends.ne
  cases y:isP [41] t with
  |true=>exact fF f m p k s t aQ ax aG y
  |false=>exact dO f m p k s t aQ ax aG (by omega) y
 obtain⟨ac,aq⟩:∃ac,Hm f s l=ac:=⟨_,rfl⟩;rw[aq];rw[Ob]at aq;obtain⟨ak,aA,ce,cf,bL,N,aC,aW⟩:=Y8 aq bw ar bv br ax aM bj;have bX:=aI.at 0 _ rfl;have bZ:w.heap.size<m.heap.size:=by omega
 have X:Zm (∀F,AFr p (w.heap.size+2) (w.heap.size+3) m F→SFr p w F):=fun F d=>Uv (SFr.of_below ar) d (by omega) (by omega)
 unfold qX at aA;have bc:=Za V;clear aq bw ar bv br bo aI ax aG aM bk bj J V;go_enter func65,ntmps65;go_upto_region 2 with(fail);rw[bc.o];rw[show w.heap.size+1+1=w.heap.size+2 from rfl];clear bc;go_wp2_with fail;refine aA.o.mono ?_;intro e F h
 cases B:Jc f l with
 |error n=>
  rw[B]at h;obtain⟨rfl,d⟩:=h;have a:=ak.o;rw[B]at a;dsimp only at a;subst a;have T:=Za (X.o _ d);clear B d;unfold Bv;go_wp2;exact⟨rfl,T.o,rfl⟩
 |ok q=>
 obtain⟨E,q⟩:=q;rw[B]at h;obtain⟨rfl,pa,G,ae⟩:=h;have a:=ak.o;rw[B]at a;dsimp only at a;have aD:=Za a;have bq:q.length<l.length:=by
  unfold Jc at B
  cases ht:Bi [41] l with
  |some aQ=>rw[ht]at B;injection B with B;injection B with _ B;subst B;exact Bn ht
  |none=>
   rw[ht]at B;exact Tm _ _ _ _ _ B
 obtain⟨aX,bE⟩:=Y2 bq ae;have bS:=ae.c.at 0 _ rfl;have W:Zk F.heap.size F (F.alloc (.cells #[.string ⟨#[123]⟩] 9)):=bA;obtain⟨az,am⟩:=Y2 (ae.old W) (Dn p k q [123] (ae.old W).par F.heap.size 1 ((Zd F [.string ⟨#[123]⟩] 9).at 0 _ rfl));have bM:=ak;clear B a bq ae W bX bZ;go_wp2_with fail;refine am.o.mono ?_;intro e cd h
 cases hw:An [123] q with
 |error n=>
  rw[hw]at h;obtain⟨d,rfl⟩:=h;have a:=aD.o;rw[hw]at a;dsimp only at a;subst a;have T:=Za (X.o _ (az.o.fr.trans (AFr.of_sfr d)));clear hw d;unfold Bv;go_wp2;exact⟨rfl,T.o,rfl⟩
 |ok q2=>
 rw[hw]at h;obtain⟨d,rfl,C⟩:=h;have aS:=Za (az.o.next N.o d C (Ze (Bp hw)));have a:=aD.o;rw[hw]at a;dsimp only at a;have aw:=Bp hw;have aU:Zm (LocI m p k w.heap.size (w.heap.size+2) (w.heap.size+3) f s pa G E ac f none 0 [] q2 cd):=⟨aS.o,by have:=aX.o;have:=aW.o;omega,by have:=aX.o;have:=aW.o;omega,a⟩;clear d C hw a aw bS am bM ak aD aA;go_wp2
 go_loopw [] (fun wr=> ∃(g:Nat) (L:Option Zl) (M:Nat) (z:List Bs) (l:List Tk),Zm (LocI m p k w.heap.size (w.heap.size+2) (w.heap.size+3) f s pa G E ac g L M z l wr)) (fun wr=>Dz p wr)
 case atStart=>exact⟨f,none,0,[],q2,aU⟩
 case round=>
  obtain⟨g,L,M,z,D,A⟩:=hrel;clear aU bE az aS;obtain⟨u,D,rfl⟩:=A.o.arg.par.ends.ne;obtain⟨an,bY⟩:∃an,g=an+1:=⟨g-1,by have:=A.o.fuel;rw[Zg]at this;omega⟩;subst bY;have bd:=A.o.arg.c.at 0 _ rfl
  cases hu:isP [105,110,116] u with
  |true=>
   obtain⟨al,ba⟩:=Y2 (Bz p k u D [105,110,116] wr A.o.arg.par hu) hu;clear hu;go_wp2_with fail;refine al.o.mono ?_;rintro e I ⟨rfl,d,C⟩;have j:=Za (A.o.arg.next N.o d C (by simp));clear d C bd;go_upto_region 5 with(fail);have aa:w.heap.size+3≤I.heap.size:=Nat.le_trans N.o.bs j.o.fr.size;have aL:z.length≤1000000:=by have:=j.o.len;omega
   have aO:=N.o.pc;have ai:=N.o.co;have aP:=N.o.ob
   cases hy:Ew D with
   |error n=>
    have a:=A.o.res;rw[jW ba.o hy]at a;subst a;refine Zo (Q:=Exit.then (Met (RY4 p k w.heap.size (w.heap.size+2) (w.heap.size+3) s L M z (ρ pa E G) [] D [] (some n) I _ _ _ _ _ _ _ _ _ _ _ _ _ _ _ _ _ _ _ _ _)) _) (yS p k w.heap.size (w.heap.size+2) (w.heap.size+3) s L M z (ρ pa E G) [] D [] (some n) I j.o.par j.o.c j.o.o j.o.rl aO ai aP aa aL (fun F Z=>by have K:=Gb p k D F Z;rw[hy]at K;exact K.mono (fun e w2 J=>⟨J.2,J.1⟩)) (fun e S w'=> ∃ah,e=.panic [{v:=.iface 110 (.agg #[ι ah]),recovered:=false}]∧n=ah∧S.defers=[]∧AFr p (w.heap.size+2) (w.heap.size+3) I w') (fun ah S w' ag aJ d=>by injection ag with ag;exact⟨ah,rfl,ag,aJ,d⟩) _ _ (fun _ _ q=>q) (fun _ _ q=>q)) ?_;intro e S w' aN
    cases e with
    |normal=>
     obtain⟨ca,ao,aF,⟨_,C,_⟩,_⟩:=(show RY4 p k w.heap.size (w.heap.size+2) (w.heap.size+3) s L M z (ρ pa E G) [] D [] (some n) I _ _ _ _ _ _ _ _ _ _ _ _ _ _ _ _ _ _ _ _ _ S w' from aN);exact C.ends.elim
    |panic ch=>
     obtain⟨ai,h,rfl,aJ,d⟩:=aN;injection h with h
     subst h;exact⟨aJ,X.o _ (j.o.fr.trans d),rfl⟩
    |_=>
     obtain⟨ai,h,_⟩:=aN
     cases h
   |ok q5=>
    obtain⟨x,aj⟩:=q5;have a:=A.o.res;rw[gD ba.o hy]at a;have ab:=Za a;have bm:=Gu hy;have aB:=Za bm;refine wp_cut (fun S w'=>RY4 p k w.heap.size (w.heap.size+2) (w.heap.size+3) s L M z (ρ pa E G) x D aj none I _ _ _ _ _ _ _ _ _ _ _ _ _ _ _ _ _ _ _ _ _ S w') ?rest (fun bQ bR hJ hM=>yS p k w.heap.size (w.heap.size+2) (w.heap.size+3) s L M z (ρ pa E G) x D aj none I j.o.par j.o.c j.o.o j.o.rl aO ai aP aa aL (fun F Z=>by have K:=Gb p k D F Z;rw[hy]at K;exact K.mono (fun e w2 J=>by obtain⟨d,v,rfl,C,R⟩:=J;have R:v= σ x:=R;subst R;exact⟨rfl,d,C⟩)) _ (fun ah S w' ag=>by cases ag) bQ bR hJ hM)
    case rest=>
     rintro S H ⟨ca,ao,aF,⟨Z,K,bf,bg,bh,ad,bi⟩,rfl⟩;have af:(z++[x]).length=z.length+1:=by simp
     have bt:=j.o.rp.gr bi (fun g e a=>j.o.ap g e a);have r:Zm (Pq m p k w.heap.size (w.heap.size+2) (w.heap.size+3) s pa G E (some ⟨ao,0,none⟩) aF (z++[x]) aj H):=by
      refine⟨j.o.fr.trans Z,K,bf,?_,bt,?_,?_,?_⟩
      ·rw[af];exact bg
      ·rw[af];exact bh
      ·intro g e a
       rw[af]at a;have a:ao=g:=by injection a
       subst a;rcases ad with ad|ad
       ·exact j.o.ap _ e ad
       ·have:=(j.o.rp.lt _ e).2;omega
      ·rw[af];have:=j.o.len;omega
     have aE:=r.o.c.at 0 _ rfl;have W:Zk H.heap.size H (H.alloc (.cells #[.string ⟨#[59]⟩] 9)):=bA;obtain⟨aT,am⟩:=Y2 (r.o.old W) (Dn p k aj [59] (r.o.old W).par H.heap.size 1 ((Zd H [.string ⟨#[59]⟩] 9).at 0 _ rfl));clear Z K bf bg bh ad bi af bt W hy a bm aa aL aO ai aP;go_wp2_with fail;refine am.o.mono ?_;intro e bD h
     cases hw:An [59] aj with
     |error n=>
      rw[hw]at h;obtain⟨d,rfl⟩:=h;have a:=ab.o;rw[hw]at a;dsimp only at a;subst a;have T:=Za (X.o _ (aT.o.fr.trans (AFr.of_sfr d)));clear hw d;unfold Bv;go_wp2;exact⟨rfl,T.o,rfl⟩
     |ok r8=>
      rw[hw]at h;obtain⟨d,rfl,C⟩:=h;have aw:=Bp hw;have bF:=Za (aT.o.next N.o d C (Ze aw));have a:=ab.o;rw[hw]at a;dsimp only at a;have aV:Zm (LocI m p k w.heap.size (w.heap.size+2) (w.heap.size+3) f s pa G E ac an (some ⟨ao,0,none⟩) aF (z++[x]) r8 bD):=⟨bF.o,by have:=aB.o;have:=A.o.fuel;rw[Zg]at this;omega,by have:=aB.o;have:=A.o.st;rw[Zg]at this;omega,a⟩;have bn:Dz p bD<Dz p wr:=by
       rw[aV.o.arg.par.len,A.o.arg.par.len,Zg];have:=aB.o;omega
      have bH:=Za bn;clear d C hw a aw bn aE;go_wp2;go_roundw
      case rel=>exact⟨an,_,_,_,r8,aV⟩
      case measure=>exact bH.o
  |false=>
   have al:=Za (Aq p k u D [105,110,116] wr A.o.arg.par hu);have a:=A.o.res;rw[kP hu]at a;have ab:=Za a;clear hu a;go_wp2_with fail;refine al.o.mono ?_;rintro e I ⟨rfl,aH⟩;have j:=Za (A.o.arg.old aH);have aE:=j.o.c.at 0 _ rfl;have aZ:=Za ((mN f).2.1 (u::D) I p k A.o.st j.o.par);clear aH bd;go_wp2_with fail;refine aZ.o.mono ?_;intro e H h
   cases hs:Ep f [] (u::D)with
   |error n=>
    rw[hs]at h;obtain⟨d,rfl⟩:=h;have a:=ab.o;rw[hs]at a;dsimp only at a;subst a;have T:=Za (X.o _ (j.o.fr.trans (AFr.of_sfr d)));clear hs d;unfold Bv;go_wp2;exact⟨rfl,T.o,rfl⟩
   |ok q6=>
    obtain⟨b,ci⟩:=q6;rw[hs]at h;obtain⟨d,v,rfl,C,R⟩:=h;have R:Au (I.heap.size≤ ·) H b v:=R;obtain⟨O,P,rfl⟩:=R.shape;have a:=ab.o;rw[hs]at a;dsimp only at a;subst a;have r:=Za (j.o.next N.o d C (Ze ((Jj f).2 _ _ _ _ hs)));have aa:w.heap.size+3≤I.heap.size:=Nat.le_trans N.o.bs j.o.fr.size;have bb:=Za (R.up aa);have bu:=bL.o.afr r.o.fr (by omega) (by have:=aC.o;omega) (by omega);have aY:=Za bu;obtain ⟨bx, bz, bB, bC⟩ := τ4 r.o.o;have cb:=r.o.o.fz 3;have cc:=r.o.o.lt;clear d C R hs aE aa bu A al j aZ;go_upto_region 8 with(fail);obtain⟨bI,U,bG,bJ⟩:=Y4 (r.o.o.set 3 (ρ O b P)) (aY.o.other (show w.heap.size+1≠w.heap.size+2 by omega) 3 (ρ O b P)) ((X.o _ r.o.fr).setNew (show w.heap.size≤w.heap.size+2 by omega) 3 (ρ O b P)) (r.o.par.other (show p<w.heap.size+2 by have:=aC.o;omega) 3 (ρ O b P));have av:Db (w.heap.size+3≤ ·) H (H.setCell ⟨w.heap.size+2,3,none⟩ (ρ O b P)):=Al H (by show ¬w.heap.size+3≤w.heap.size+2;omega) 3 _;have bp:E.length≤1000000:=by have:=r.o.len;omega
    have bl:z.length≤1000000:=by have:=r.o.len;omega
    obtain⟨bO,bN,bP⟩:=Y3 ((r.o.rp.strs bp).keep av) ((r.o.rl.strs bl).keep av) (bb.o.keep av);clear bx bz bB bC cb cc av bp bl r bb aY;generalize H.setCell ⟨w.heap.size+2,3,none⟩ (ρ O b P)=Y at*;obtain ⟨bx, bz, bB, bC⟩ := τ4 bI.o;obtain ⟨cj, ck, cl, cm⟩ := τ4 U.o;have cp:=U.o.fz 0;have cq:=U.o.fz 1;have cr:=U.o.fz 2;have cs:=U.o.fz 3;have cn:=U.o.lt;go_wp2_with fail;have bK:=Za ((((U.o.set 0 (σ s)).set 1 (ρ pa E G)).set 2 (ρ L z M)).set 3 (ρ O b P));obtain ⟨bT, bU, bV, bW⟩ := τ4 bK.o;have au:∀(Y:Zi) (i:Nat) (x:Value),Db (w.heap.size+3≤ ·) Y (Y.setCell ⟨w.heap.size+1,i,none⟩ x):=fun Y i x=>Al Y (by show ¬w.heap.size+3≤w.heap.size+1;omega) i x
    have aK:=(((au Y 0 (σ s)).trans (au _ 1 (ρ pa E G))).trans (au _ 2 (ρ L z M))).trans (au _ 3 (ρ O b P));have aR:∀b,w.heap.size+3≤b→w.heap.size≤b:=fun b aH=>by omega
    have ay:p<w.heap.size+1:=by have:=aC.o;omega
    exact Zp (v:=.agg #[σ s,ρ pa E G,ρ L z M,ρ O b P]) (by simp [results,results65,go_sem,bT,bU,bV,bW]) rfl ⟨(((bG.o.setNew (by omega) _ _).setNew (by omega) _ _).setNew (by omega) _ _).setNew (by omega) _ _,_,rfl,(((bJ.o.other ay _ _).other ay _ _).other ay _ _).other ay _ _,_,_,_,rfl,(bO.o.keep aK).mono aR,(bN.o.keep aK).mono aR,(bP.o.keep aK).mono aR⟩
theorem Pu {D:Nat→Prop}{w:Zi}{l:List Bs}{v:Value}(f:Bb D w l v):Bb (fun b=>D b∧b<w.heap.size) w l v:=by
 obtain⟨a,cap,b,m,k,g,h,c,e⟩:=f;refine⟨a,cap,b,m,k,g,h,?_,e⟩;rcases c with c|⟨j,i⟩
 ·exact .inl c
 ·rcases Nat.eq_zero_or_pos l.length with d|d
  ·exact .inl d
  ·exact .inr ⟨j,i,World.block_lt_of_cell? _ _ (e 0 d)⟩
theorem Ld {D:Nat→Prop}{w:Zi}{l:List Bs}{v:Value}(c:Bb D w l v):∃a cap,v=.slice a l.length cap:=by
 obtain⟨a,cap,b,e,d,_⟩:=c;exact⟨a,cap,d⟩
structure YFv where
 x:Fu
 p:Value
 l:Value
 b:Value
def Fw(q:YFv):List Value:=[.string (Aa q.x.name),q.p,q.l,q.b]
def YFp(D:Nat→Prop)(w:Zi)(q:YFv):Prop:=Bb D w q.x.params q.p∧Bb D w q.x.locals q.l∧Au D w q.x.body q.b
theorem YFp.keep {D:Nat→Prop}{w w':Zi}{q:YFv}(a:YFp D w q)(b:Db D w w'):YFp D w' q:=⟨a.1.keep b,a.2.1.keep b,a.2.2.keep b⟩
theorem YFp.mono {D D':Nat→Prop}{w:Zi}{q:YFv}(a:YFp D w q)(c:∀b,D b→D' b):YFp D' w q:=⟨a.1.mono c,a.2.1.mono c,a.2.2.mono c⟩
theorem YFp.strong {D:Nat→Prop}{w:Zi}{q:YFv}(a:YFp D w q):YFp (fun b=>D b∧b<w.heap.size) w q:=⟨Pu a.1,Pu a.2.1,a.2.2.strong⟩
def Hg(w:Zi)(c:Nat)(a:List YFv)(v:Value):Prop:=w.ownsRow c 48 4 v a.length (a.flatMap Fw)∧∀q,q∈a→YFp (fun b=>c≤b∧v.ownBlock≠some b) w q
theorem Hg.zero(w:Zi)(a:Nat):Hg w a [] (.slice none 0 0):=⟨World.ownsRow_nil _ _ _ _,fun q b=>by cases b⟩
theorem Hg.keep {w w':Zi}{c:Nat}{i:List YFv}{v:Value}(d:Hg w c i v)(h:∀k,k<w.heap.size→c≤k→w'.heap[k]? =w.heap[k]?):Hg w' c i v:=by
 refine⟨⟨d.1.1,?_⟩,fun p m=>(d.2 p m).keep (fun b o x a hx=>by rw[World.cell?_of_block (w:=w) (h b (World.block_lt_of_cell? _ _ hx) a.1)];exact hx)⟩;rcases d.1.2 with l|⟨g,cap,j,rfl,a,f,n⟩
 ·exact .inl l
 ·refine .inr ⟨g,cap,j,rfl,a,?_,n⟩
  rw[h g (by
   rcases Nat.lt_or_ge g w.heap.size with e|e
   ·exact e
   ·simp [Array.getElem?_eq_none e]at f) a]
  exact f
theorem Hg.sfr {p:Nat}{w w':Zi}{a:Nat}{b:List YFv}{v:Value}(c:Hg w a b v)(e:SFr p w w')(g:p<a):Hg w' a b v:=c.keep (fun k d f=>e.block k d (by omega))
theorem Hg.old {w w':Zi}{a:Nat}{b:List YFv}{v:Value}(c:Hg w a b v)(e:Zk w.heap.size w w'):Hg w' a b v:=c.keep (fun k d _=>e.block k d)
theorem Hg.low {w:Zi}{a:Nat}{b:List YFv}{v:Value}(c:Hg w a b v){k:Nat}(e:k<a)(i:Nat)(x:Value):Hg (w.setCell ⟨k,i,none⟩ x) a b v:=c.keep (fun j _ d=>Below.heap_setCell _ _ _ _ (show j≠k by omega))
theorem Hg.lt {w:Zi}{a:Nat}{c:List YFv}{v:Value}(b:Hg w a c v):∀k,v.ownBlock=some k→a≤k∧k<w.heap.size:=World.ownsRow.lt b.1
theorem Hg.shape {w:Zi}{c:Nat}{b:List YFv}{v:Value}(d:Hg w c b v):∃a cap,v=.slice a b.length cap:=by
 rcases d.1.2 with⟨rfl,e⟩|⟨g,cap,f,rfl,_⟩
 ·exact⟨none,0,by rw[e]⟩
 ·exact⟨_,_,rfl⟩
theorem kZ {D:Nat→Prop}{w:Zi}:Bw D w [] (.slice none 0 0):=
 ⟨none,0,0,0,fun _=>Zj,fun _=>Zj,fun _=>Zj,rfl,Zb _,by show _≤_;simp,.inl rfl,fun i a=>absurd a (Nat.not_lt_zero _)⟩
theorem Hg.fus {w:Zi}{k:Nat}{a:List YFv}{v:Value}(h:Hg w k a v)(D:a.length≤1000000):Bw (k≤ ·) w (a.map (·.x)) v:=by
 have f:(a.map (·.x)).length=a.length:=List.length_map _;rcases h.1.2 with⟨rfl,A⟩|⟨g,cap,C,rfl,c,E,s,m,F,G⟩
 ·have:a=[]:=List.length_eq_zero_iff.1 A
  subst this;exact kZ
 ·let z:YFv:=⟨Fu.nil,Zj,Zj,Zj⟩
  refine⟨some ⟨g,0,none⟩,cap,g,0,(fun i=>(a.getD i z).p),(fun i=>(a.getD i z).l),(fun i=>(a.getD i z).b),by rw[f],by rw[f];exact s,by rw[f];show _≤_;omega,.inr ⟨rfl,c⟩,fun i e=>?_⟩;rw[f]at e;obtain⟨p,n,hx,m⟩:∃p,a[i]? =some p∧Bc (a.map (·.x)) i=p.x∧p∈a:=⟨a[i],Zh e,by simp [Bc,Zh e],List.getElem_mem e⟩;have B:a.getD i z=p:=by rw[List.getD_eq_getElem?_getD,n];rfl
  rw[hx];dsimp only;rw[B];have d:∀q u,q<4→(Fw p)[q]? =some u→w.cell? ⟨g,0+i*4+q,none⟩=some u:=by
   intro q u t y;have j:=h.1.cellAt (i*4+q) (by omega);rw[Mt Fw 4 (fun _=>rfl) a i q p n t,y]at j
   rwa[show 0+i*4+q=i*4+q by omega]
  obtain⟨j,o,r⟩:=h.2 p m;exact⟨⟨d 0 _ (by decide) rfl,d 1 _ (by decide) rfl,d 2 _ (by decide) rfl,d 3 _ (by decide) rfl⟩,j.mono (fun b c=>c.1),o.mono (fun b c=>c.1),r.mono (fun b c=>c.1)⟩
theorem Hg.snoc {w w':Zi}{c:Nat}{a:List YFv}{v:Value}(j:Hg w c a v)(p:YFv)(hx:YFp (fun b=>c≤b∧v.ownBlock≠some b) w p){g cap:Nat}
  (m:w'.ownsRow c 48 4 (.slice (some ⟨g,0,none⟩) (a.length+1) cap) (a.length+1) (a.flatMap Fw++Fw p)) (l:w.grownBy w' v.ownBlock) (h:v.ownBlock=some g∨g=w.heap.size):
  Hg w' c (a++[p]) (.slice (some ⟨g,0,none⟩) (a.length+1) cap):=by
 have i:∀q:YFv,YFp (fun b=>c≤b∧v.ownBlock≠some b) w q→YFp (fun b=>c≤b∧(Value.slice (some ⟨g,0,none⟩) (a.length+1) cap).ownBlock≠some b) w' q:=by
  intro q n;have k:=n.strong.keep (w':=w') (fun b r y d o=>l.cell o (fun e=>d.1.2 e.symm));refine k.mono (fun b d=>⟨d.1.1,?_⟩);show some g≠some b
  intro e
  cases e
  rcases h with h|h
  ·exact d.1.2 h
  ·have:=d.2;omega
 refine⟨?_,fun q f=>?_⟩
 ·rw[List.length_append,List.flatMap_append];simpa using m
 ·rcases List.mem_append.1 f with f|f
  ·exact i _ (j.2 q f)
  ·rw[List.mem_singleton.1 f];exact i _ hx
theorem rX{x:Fu}{a b c:Option Zl}{n e k i j l:Nat}:∀u,u∈Fw ⟨x,.slice a n i,.slice b e j,.slice c k l⟩→u.oneCell'=true:=by
 intro u d;simp only[Fw,List.mem_cons,List.not_mem_nil,or_false]at d;rcases d with rfl|rfl|rfl|rfl<;>rfl
section
variable (w:Zi) {o:Oper} {a:Act} {K:Act→Zi→Prop} {Q:Exit→Act→Zi→Prop}
theorem wp_yfun(s x:Operand)(r:o.op=.call {callee:=.builtin .append,args:= #[s,x],argTypes:= #[28,28]})
  (e:Nat) (d:List YFv) (v:Value) (z:a.eval s=v) (i:Hg w e d v) (q:YFv) (y:YFp (fun b=>e≤b∧v.ownBlock≠some b) w q) (k:∀u,u∈Fw q→u.oneCell'=true) (b c:Nat) (hx:a.eval x=.slice (some ⟨b,0,none⟩) 1 c) (p:Ad w b (Fw q) 48)
  (E:d.length≤1000000) (l:e≤w.heap.size)
  (j:∀g cap w',Hg w' e (d++[q]) (.slice (some ⟨g,0,none⟩) (d.length+1) cap)→w.grownBy w' v.ownBlock→(v.ownBlock=some g∨g=w.heap.size)→g<w'.heap.size→K (a.put o.dst (.slice (some ⟨g,0,none⟩) (d.length+1) cap)) w'):o.wp Zc a w K Q:=by
 obtain⟨D,m,A,B,C⟩:=info_parts tQ;refine wp_append_lies (P:=Zc) w s x _ r e 48 D _ 4 _ underlying28 m A B C rfl (by decide) v d.length (d.flatMap Fw) z i.1 ⟨b,0,none⟩ 1 c (Fw q) hx rfl p.newsY k (by decide) (by unfold maxLen;omega) (by omega) l _ rfl ?_;intro g cap w' t h f n;exact j g cap w' (i.snoc q y t h f) h f n
end
structure VY5 (p tb ob base:Nat)(nm:Bs)(va:Option Zl)(vc:Nat)(S:List Ar)(ov:Value)(t:Tk)(l r:List Tk)(err:Option Int)(W:Zi)(L:Nat→Bool)(nb:Nat)(gn:Nat)(cn:Nat)(z21 z22 z23 z24 z25 z26 z27 z28 z29 z30:Value)(wx:Zi):Prop where
 ord:L 10=true→∀j,j<10→L j=true
 p5_4:L 5=true→L 4=true
 p6_4:L 6=true→L 4=true
 p7_4:L 7=true→L 4=true
 p8_4:L 8=true→L 4=true
 p8_7:L 8=true→L 7=true
 p10_8:L 10=true→L 8=true
 c0:L 0=true→z21=.pointer (some ⟨ob,0,none⟩)
 c1:L 1=true→z22=.slice va S.length vc
 c2:L 2=true→z23=.string (Aa nm)
 c3:L 3=true→z24=.pointer (some ⟨p,0,none⟩)
 c4:L 4=true→z25=tkV t
 c5:L 5=true→z26=.int .i64 t.num
 c6:L 6=true→z27=.agg #[.string (Aa nm),.int .i64 t.num]
 c7:L 7=true→z28=.slice (some ⟨nb,0,none⟩) 1 1
 c8:L 8=true→z29=.slice (some ⟨gn,0,none⟩) (S.length+1) cn
 c9:L 9=true→z30=.pointer (some ⟨ob,0,none⟩)
 fr:AFr p ob base W wx
 pa:L 4=false→Ps wx p tb l
 pb:L 4=true→Ps wx p tb r
 x:L 10=false→Ad wx ob [.slice va S.length vc,ov] 30
 x7:L 10=true→Ad wx ob [.slice (some ⟨gn,0,none⟩) (S.length+1) cn,ov] 30
 ra:L 8=false→Qf wx base S (.slice va S.length vc)
 rb:L 8=true→Qf wx base (S++[⟨nm,t.num⟩]) (.slice (some ⟨gn,0,none⟩) (S.length+1) cn)
 g4:L 7=true→L 8=false→Ad wx nb (Hd ⟨nm,t.num⟩) 60∧base≤nb
def IY5(p af a o:Nat)(nm:Bs)(ag:Option Zl)(ah:Nat)(S:List Ar)(v:Value)(t:Tk)(l ae:List Tk)(r:Option Int)(m:Zi)(w T Z aa ab ac ad x y z A B C D E F G H I J K M N O P Q R U V W X Y:Value)(L:Nat→Bool)(n:Act)(w':Zi):Prop:=
 ∃u:Nat,∃s:Nat,∃q:Nat,∃b c d e f g h i j k:Value,VY5 p af a o nm ag ah S v t l ae r m L u s q b c d e f g h i j k w'∧n=⟨[.pointer (some ⟨p,0,none⟩),w,.pointer (some ⟨a,0,none⟩),.string (Aa nm),T,Z,aa,ab,ac,ad,x,y,z,A,B,C,D,E,F,G,H,b,c,d,e,f,g,h,i,j,k,I,J,K,M,N,O,P,Q,R,U,V,W,X,Y].toArray,[]⟩
def RY5(p T a d:Nat)(nm:Bs)(U:Option Zl)(V:Nat)(S:List Ar)(h:Value)(t:Tk)(l R:List Tk)(W:Option Int)(e:Zi)(i G M N O P Q j k m n o q r s u v w x y z A B C D E F H I J K L:Value)(f:Act)(w':Zi):Prop:=
 ∃g:Nat,∃c:Nat,∃b:Nat,(AFr p a d e w'∧Ps w' p T R∧Ad w' a [.slice (some ⟨c,0,none⟩) (S.length+1) b,h] 30∧Qf w' d (S++[⟨nm,t.num⟩]) (.slice (some ⟨c,0,none⟩) (S.length+1) b))∧f=⟨[.pointer (some ⟨p,0,none⟩),i,.pointer (some ⟨a,0,none⟩),.string (Aa nm),G,M,N,O,P,Q,j,k,m,n,o,q,r,s,u,v,w,.pointer (some ⟨a,0,none⟩),.slice U S.length V,.string (Aa nm),.pointer (some ⟨p,0,none⟩),tkV t,.int .i64 t.num,.agg #[.string (Aa nm),.int .i64 t.num],.slice (some ⟨g,0,none⟩) 1 1,.slice (some ⟨c,0,none⟩) (S.length+1) b,.pointer (some ⟨a,0,none⟩),x,y,z,A,B,C,D,E,F,H,I,J,K,L].toArray,[]⟩
theorem sY(p W u J:Nat)(nm:Bs)(M:Option Zl)(N:Nat)(S:List Ar)(ai:Value)(t:Tk)(l aR:List Tk)(R:Option Int)(I:Zi)(V:Ps I p W l)(Z:Ad I u [.slice M S.length N,ai] 30)(bd:Qf I J S (.slice M S.length N))(bQ:p<u)(bI:u<J)(bF:J≤I.heap.size)(bH:S.length≤1000000)(bq:Zm (∀aa,Ps aa p W l→Zn Zc 64 #[.pointer (some ⟨p,0,none⟩),.int .i64 3] aa fun e w'=>match R with|some n=>e=Bv n∧SFr p aa w'|none=>e=.returned (tkV t)∧SFr p aa w'∧Ps w' p W aR))(Q:Exit→Act→Zi→Prop)(aY:∀n K w',R=some n→K.defers=[]→AFr p u J I w'→Q (.panic [{v:=.iface 110 (.agg #[.int .i64 n]),recovered:=false}]) K w'){aj aG aM aN aO aP aQ ak al am an ao ap aq ar au av aw be bf bg bh bi bj bk bl bm bn ax ay az aA aB aC aD aE aF aH aI aJ aK aL:Value}(aS r:Act→Zi→Prop)(hJ:∀K w',RY5 p W u J nm M N S ai t l aR R I aj aG aM aN aO aP aQ ak al am an ao ap aq ar au av aw ax ay az aA aB aC aD aE aF aH aI aJ aK aL K w'→aS K w')(hM:∀K w',Met aS K w'→r K w'):
  Code.wp Zc ((Tryz.f28.body.bind (La 5)).getD .skip) (Exit.then r Q) ⟨[.pointer (some ⟨p,0,none⟩),aj,.pointer (some ⟨u,0,none⟩),.string (Aa nm),aG,aM,aN,aO,aP,aQ,ak,al,am,an,ao,ap,aq,ar,au,av,aw,be,bf,bg,bh,bi,bj,bk,bl,bm,bn,ax,ay,az,aA,aB,aC,aD,aE,aF,aH,aI,aJ,aK,aL].toArray,[]⟩ I:=by
 obtain⟨bs,br,bv,bu⟩:=Y4 V Z bd aY;clear V Z bd aY
 conv=>arg 2;whnf
 (try dsimp only);refine Fv (by kernel_rfl) (by kernel_rfl) (IY5 p W u J nm M N S ai t l aR R I aj aG aM aN aO aP aQ ak al am an ao ap aq ar au av aw ax ay az aA aB aC aD aE aF aH aI aJ aK aL) ?_ ?_ ?_
 ·exact⟨0,0,0,be,bf,bg,bh,bi,bj,bk,bl,bm,bn,⟨(fun b=>by cases b),(fun b=>by cases b),(fun b=>by cases b),(fun b=>by cases b),(fun b=>by cases b),(fun b=>by cases b),(fun b=>by cases b),(fun b=>by cases b),(fun b=>by cases b),(fun b=>by cases b),(fun b=>by cases b),(fun b=>by cases b),(fun b=>by cases b),(fun b=>by cases b),(fun b=>by cases b),(fun b=>by cases b),(fun b=>by cases b),((AFr.refl p u J I).old (Zf _ _).drew),(fun _=>bs.o.old (Zf _ _).drew),(fun b=>by cases b),(fun _=>br.o.old (Zf _ _).drew),(fun b=>by cases b),(fun _=>bv.o.old (Zf _ _).drew),(fun b=>by cases b),(fun b=>fun _=>by cases b)⟩,rfl⟩
 ·intro L bw O k ae ag h f
  obtain⟨q,m,i,y,z,A,B,C,D,E,F,G,H,a,rfl⟩:=ae;have ag:k=0∨k=1∨k=2∨k=3∨k=4∨k=5∨k=6∨k=7∨k=8∨k=9∨k=10:=by
   have:k<11:=ag;omega
  rcases ag with rfl|rfl|rfl|rfl|rfl|rfl|rfl|rfl|rfl|rfl|rfl
  ·have d:=kf a.ord h
   refine Bh rfl rfl (fun r w=>?_)
   conv=>arg 2;whnf
   go_wp2;exact⟨q,m,i,π u,z,A,B,C,D,E,F,G,H,⟨kl d,kq a.p5_4,kq a.p6_4,kq a.p7_4,kq a.p8_4,kq a.p8_7,kq a.p10_8,(fun _=>rfl),kc a.c1,kc a.c2,kc a.c3,kc a.c4,kc a.c5,kc a.c6,kc a.c7,kc a.c8,kc a.c9,a.fr,(fun c=>a.pa (kb c)),kc a.pb,(fun c=>a.x (kb c)),kl d,(fun c=>a.ra (kb c)),kc a.rb,(fun c=>fun g=>a.g4 (kb c) (kb g))⟩,rfl⟩
  ·have d:=kf a.ord h
   have bx:L 0=true:=f _ rfl ⟨0,.data⟩ (by simp) rfl;obtain rfl:=(a.c0 bx).symm;have bL:L 10=false:=d;have Z:=a.x bL;have bM:=Z.at 0 _ rfl;refine Bh rfl rfl (fun r w=>?_)
   conv=>arg 2;whnf
   go_wp2;exact⟨q,m,i,π u,.slice M S.length N,A,B,C,D,E,F,G,H,⟨kl d,kq a.p5_4,kq a.p6_4,kq a.p7_4,kq a.p8_4,kq a.p8_7,kq a.p10_8,kc a.c0,(fun _=>rfl),kc a.c2,kc a.c3,kc a.c4,kc a.c5,kc a.c6,kc a.c7,kc a.c8,kc a.c9,a.fr,(fun c=>a.pa (kb c)),kc a.pb,(fun c=>a.x (kb c)),kl d,(fun c=>a.ra (kb c)),kc a.rb,(fun c=>fun g=>a.g4 (kb c) (kb g))⟩,rfl⟩
  ·have d:=kf a.ord h
   refine Bh rfl rfl (fun r w=>?_)
   conv=>arg 2;whnf
   go_wp2;exact⟨q,m,i,y,z,σ nm,B,C,D,E,F,G,H,⟨kl d,kq a.p5_4,kq a.p6_4,kq a.p7_4,kq a.p8_4,kq a.p8_7,kq a.p10_8,kc a.c0,kc a.c1,(fun _=>rfl),kc a.c3,kc a.c4,kc a.c5,kc a.c6,kc a.c7,kc a.c8,kc a.c9,a.fr,(fun c=>a.pa (kb c)),kc a.pb,(fun c=>a.x (kb c)),kl d,(fun c=>a.ra (kb c)),kc a.rb,(fun c=>fun g=>a.g4 (kb c) (kb g))⟩,rfl⟩
  ·have d:=kf a.ord h
   refine Bh rfl rfl (fun r w=>?_)
   conv=>arg 2;whnf
   go_wp2;exact⟨q,m,i,y,z,A,π p,C,D,E,F,G,H,⟨kl d,kq a.p5_4,kq a.p6_4,kq a.p7_4,kq a.p8_4,kq a.p8_7,kq a.p10_8,kc a.c0,kc a.c1,kc a.c2,(fun _=>rfl),kc a.c4,kc a.c5,kc a.c6,kc a.c7,kc a.c8,kc a.c9,a.fr,(fun c=>a.pa (kb c)),kc a.pb,(fun c=>a.x (kb c)),kl d,(fun c=>a.ra (kb c)),kc a.rb,(fun c=>fun g=>a.g4 (kb c) (kb g))⟩,rfl⟩
  ·have d:=kf a.ord h
   have bC:L 3=true:=f _ rfl ⟨3,.data⟩ (by simp) rfl;obtain rfl:=(a.c3 bC).symm;have V:=a.pa h;refine Bh rfl rfl (fun r w=>?_)
   conv=>arg 2;whnf
   obtain⟨bt,bp⟩:=Y2 V a.fr;clear V;go_wp2_with fail;refine(bq.o _ bt.o).mono ?_;intro e bS aZ
   cases R with
   |some n=>
    obtain⟨rfl,ba⟩:=aZ;unfold Bv;have bo:=Za (bp.o.trans (AFr.of_sfr ba));clear ba w a;go_wp2_with fail;exact bu.o n _ _ rfl rfl bo.o
   |none=>
   obtain⟨rfl,U,bJ⟩:=aZ;go_wp2;exact⟨q,m,i,y,z,A,π p,tkV t,D,E,F,G,H,⟨kl d,(fun _=>Bo L 4),(fun _=>Bo L 4),(fun _=>Bo L 4),(fun _=>Bo L 4),kq a.p8_7,kq a.p10_8,kc a.c0,kc a.c1,kc a.c2,kc a.c3,(fun _=>rfl),kc a.c5,kc a.c6,kc a.c7,kc a.c8,kc a.c9,(a.fr.trans (AFr.of_sfr U)),(ks),(fun _=>bJ),(fun b=>(a.x (kb b)).sfr U (by omega)),kl d,(fun b=>(a.ra (kb b)).sfr U (by omega)),(fun b=>(a.rb (kb b)).sfr U (by omega)),(fun g ad=>⟨Ad.sfr (a.g4 (kb g) (kb ad)).1 U (by have:=(a.g4 (kb g) (kb ad)).2;omega),(a.g4 (kb g) (kb ad)).2⟩)⟩,rfl⟩
  ·have d:=kf a.ord h
   have P:L 4=true:=f _ rfl ⟨4,.data⟩ (by simp) rfl;obtain rfl:=(a.c4 P).symm;unfold tkV;refine Bh rfl rfl (fun r w=>?_)
   conv=>arg 2;whnf
   go_wp2;exact⟨q,m,i,y,z,A,B,tkV t,ι t.num,E,F,G,H,⟨kl d,(kd (P)),kq a.p6_4,kq a.p7_4,kq a.p8_4,kq a.p8_7,kq a.p10_8,kc a.c0,kc a.c1,kc a.c2,kc a.c3,kc a.c4,(fun _=>rfl),kc a.c6,kc a.c7,kc a.c8,kc a.c9,a.fr,(fun c=>a.pa (kb c)),kc a.pb,(fun c=>a.x (kb c)),kl d,(fun c=>a.ra (kb c)),kc a.rb,(fun c=>fun g=>a.g4 (kb c) (kb g))⟩,rfl⟩
  ·have d:=kf a.ord h
   have bB:L 2=true:=f _ rfl ⟨2,.data⟩ (by simp) rfl;obtain rfl:=(a.c2 bB).symm;have aV:L 5=true:=f _ rfl ⟨5,.data⟩ (by simp) rfl;obtain rfl:=(a.c5 aV).symm;refine Bh rfl rfl (fun r w=>?_)
   conv=>arg 2;whnf
   go_wp2;exact⟨q,m,i,y,z,σ nm,B,C,ι t.num,.agg #[σ nm,ι t.num],F,G,H,⟨kl d,kq a.p5_4,(kd (a.p5_4 aV)),kq a.p7_4,kq a.p8_4,kq a.p8_7,kq a.p10_8,kc a.c0,kc a.c1,kc a.c2,kc a.c3,kc a.c4,kc a.c5,(fun _=>rfl),kc a.c7,kc a.c8,kc a.c9,a.fr,(fun c=>a.pa (kb c)),kc a.pb,(fun c=>a.x (kb c)),kl d,(fun c=>a.ra (kb c)),kc a.rb,(fun c=>fun g=>a.g4 (kb c) (kb g))⟩,rfl⟩
  ·have d:=kf a.ord h
   have aW:L 6=true:=f _ rfl ⟨6,.data⟩ (by simp) rfl;obtain rfl:=(a.c6 aW).symm;have T:Zk O.heap.size O (O.alloc (.cells #[σ nm,ι t.num] 60)):=bA;have bb:=a.fr.size;refine Bh rfl rfl (fun r w=>?_)
   conv=>arg 2;whnf
   go_wp2;exact⟨O.heap.size,m,i,y,z,A,B,C,D,.agg #[σ nm,ι t.num],.slice (some ⟨(O.heap.size),0,none⟩) 1 1,G,H,⟨kl d,kq a.p5_4,kq a.p6_4,(kd (a.p6_4 aW)),kq a.p8_4,(fun _=>Bo L 7),kq a.p10_8,kc a.c0,kc a.c1,kc a.c2,kc a.c3,kc a.c4,kc a.c5,kc a.c6,(fun _=>rfl),kc a.c8,kc a.c9,(AFr.old (a.fr) T),(fun c=>Ps.old (a.pa (kb c)) T),(fun c=>Ps.old (a.pb (kb c)) T),(fun c=>Ad.old (a.x (kb c)) T),kl d,(fun c=>Fh.old (a.ra (kb c)) T),(kn a.p8_7 h),(fun _ _=>⟨Zd O (Hd ⟨nm,t.num⟩) 60,by omega⟩)⟩,rfl⟩
  ·have d:=kf a.ord h
   have bz:L 1=true:=f _ rfl ⟨1,.data⟩ (by simp) rfl;obtain rfl:=(a.c1 bz).symm;have P:L 4=true:=f _ rfl ⟨4,.chain⟩ (by simp) rfl;have ac:L 7=true:=f _ rfl ⟨7,.data⟩ (by simp) rfl;obtain rfl:=(a.c7 ac).symm;have P:L 4=true:=f _ rfl ⟨4,.chain⟩ (by simp) rfl;have bG:=a.g4 ac h;have bc:=a.ra h;have bb:=a.fr.size;refine Bh rfl rfl (fun r w=>?_)
   conv=>arg 2;whnf
   refine wp_yarr O _ _ rfl J S (.slice M S.length N) rfl bc ⟨nm,t.num⟩ q 1 rfl bG.1 bH (Nat.le_trans bF bb) ?_;intro aX aU w2 bK af bO bP;have ah:∀k,(Value.slice M S.length N).ownBlock=some k→J≤k:=fun k e=>(bc.lt k e).1
   go_wp2;exact⟨q,aX,aU,y,.slice M S.length N,A,B,C,D,E,κ q 1 1,.slice (some ⟨(aX),0,none⟩) (S.length+1) (aU),H,⟨kl d,kq a.p5_4,kq a.p6_4,kq a.p7_4,(kd (P)),(kd (ac)),(fun _=>Bo L 8),kc a.c0,kc a.c1,kc a.c2,kc a.c3,kc a.c4,kc a.c5,kc a.c6,kc a.c7,(fun _=>rfl),kc a.c9,(a.fr.grown af ah),(fun b=>by rw[Ay L (by decide)]at b;rw[P]at b;cases b),(fun _=>(a.pb P).grown af ah (by omega)),(fun b=>(a.x (kb b)).grew af (fun e=>by have:=ah _ e;omega)),kl d,(ks),(fun _=>bK),(fun _=>ks)⟩,rfl⟩
  ·have d:=kf a.ord h
   refine Bh rfl rfl (fun r w=>?_)
   conv=>arg 2;whnf
   go_wp2;exact⟨q,m,i,y,z,A,B,C,D,E,F,G,π u,⟨kl d,kq a.p5_4,kq a.p6_4,kq a.p7_4,kq a.p8_4,kq a.p8_7,kq a.p10_8,kc a.c0,kc a.c1,kc a.c2,kc a.c3,kc a.c4,kc a.c5,kc a.c6,kc a.c7,kc a.c8,(fun _=>rfl),a.fr,(fun c=>a.pa (kb c)),kc a.pb,(fun c=>a.x (kb c)),kl d,(fun c=>a.ra (kb c)),kc a.rb,(fun c=>fun g=>a.g4 (kb c) (kb g))⟩,rfl⟩
  ·have X:∀j,j<10→L j=true:=fun j Y=>by
    have Y:j=0∨j=1∨j=2∨j=3∨j=4∨j=5∨j=6∨j=7∨j=8∨j=9:=by omega
    rcases Y with rfl|rfl|rfl|rfl|rfl|rfl|rfl|rfl|rfl|rfl
    ·exact f _ rfl ⟨0,.phase⟩ (by simp) rfl
    ·exact f _ rfl ⟨1,.phase⟩ (by simp) rfl
    ·exact f _ rfl ⟨2,.phase⟩ (by simp) rfl
    ·exact f _ rfl ⟨3,.phase⟩ (by simp) rfl
    ·exact f _ rfl ⟨4,.phase⟩ (by simp) rfl
    ·exact f _ rfl ⟨5,.phase⟩ (by simp) rfl
    ·exact f _ rfl ⟨6,.phase⟩ (by simp) rfl
    ·exact f _ rfl ⟨7,.phase⟩ (by simp) rfl
    ·exact f _ rfl ⟨8,.data⟩ (by simp) rfl
    ·exact f _ rfl ⟨9,.data⟩ (by simp) rfl
   have bD:L 8=true:=f _ rfl ⟨8,.data⟩ (by simp) rfl;obtain rfl:=(a.c8 bD).symm;have bE:L 9=true:=f _ rfl ⟨9,.data⟩ (by simp) rfl;obtain rfl:=(a.c9 bE).symm;have hx:=a.x h;have bM:=hx.at 0 _ rfl;have bN:=hx.fz 0;have bR:=hx.lt;have aT:=X 4 (by decide);have ab:=X 8 (by decide);refine Bh rfl rfl (fun r w=>?_)
   conv=>arg 2;whnf
   go_wp2;exact⟨q,m,i,y,z,A,B,C,D,E,F,.slice (some ⟨m,0,none⟩) (S.length+1) i,π u,⟨(fun _ j Y=>by rw[Ay L (show j≠10 by omega)];exact X j Y),kq a.p5_4,kq a.p6_4,kq a.p7_4,kq a.p8_4,kq a.p8_7,(kd (X 8 (by decide))),kc a.c0,kc a.c1,kc a.c2,kc a.c3,kc a.c4,kc a.c5,kc a.c6,kc a.c7,kc a.c8,kc a.c9,(a.fr.set _ _),(fun b=>by rw[Ay L (by decide)]at b;rw[aT]at b;cases b),(fun _=>(a.pb aT).other (by omega) _ _),(ks),(fun _=>hx.set 0 (.slice (some ⟨m,0,none⟩) (S.length+1) i)),(fun b=>by rw[Ay L (by decide)]at b;rw[ab]at b;cases b),(fun _=>(a.rb ab).low bI _ _),(fun _ b=>by rw[Ay L (by decide)]at b;rw[ab]at b;cases b)⟩,rfl⟩
 ·intro L bw O ae s
  obtain⟨q,m,i,y,z,A,B,C,D,E,F,G,H,a,rfl⟩:=ae;obtain rfl:=(a.c0 (s 0 (by decide))).symm;obtain rfl:=(a.c1 (s 1 (by decide))).symm;obtain rfl:=(a.c2 (s 2 (by decide))).symm;obtain rfl:=(a.c3 (s 3 (by decide))).symm;obtain rfl:=(a.c4 (s 4 (by decide))).symm;obtain rfl:=(a.c5 (s 5 (by decide))).symm;obtain rfl:=(a.c6 (s 6 (by decide))).symm;obtain rfl:=(a.c7 (s 7 (by decide))).symm;obtain rfl:=(a.c8 (s 8 (by decide))).symm;obtain rfl:=(a.c9 (s 9 (by decide))).symm;exact hM _ _ (Met.intro (hJ _ _ ⟨q,m,i,⟨a.fr,a.pb (s 4 (by decide)),a.x7 (s 10 (by decide)),a.rb (s 8 (by decide))⟩,rfl⟩))
structure VY8 (p tb ob base:Nat)(nm:Bs)(va:Option Zl)(vc:Nat)(S:List YFv)(ov:Value)(x:Fu)(l r:List Tk)(err:Option Int)(W:Zi)(L:Nat→Bool)(p1:Option Zl)(p2:Nat)(l1:Option Zl)(l2:Nat)(b1:Option Zl)(b2:Nat)(nb:Nat)(gn:Nat)(cn:Nat)(z37 z38 z39 z40 z41 z42 z43 z44:Value)(wx:Zi):Prop where
 ord:L 8=true→∀j,j<8→L j=true
 p5_4:L 5=true→L 4=true
 p6_4:L 6=true→L 4=true
 p6_5:L 6=true→L 5=true
 p8_6:L 8=true→L 6=true
 c0:L 0=true→z37=.pointer (some ⟨ob,1,none⟩)
 c1:L 1=true→z38=.slice va S.length vc
 c2:L 2=true→z39=.pointer (some ⟨p,0,none⟩)
 c3:L 3=true→z40=.string (Aa nm)
 c4:L 4=true→z41=.agg #[.string (Aa x.name),.slice p1 x.params.length p2,.slice l1 x.locals.length l2,.slice b1 x.body.length b2]
 c5:L 5=true→z42=.slice (some ⟨nb,0,none⟩) 1 1
 c6:L 6=true→z43=.slice (some ⟨gn,0,none⟩) (S.length+1) cn
 c7:L 7=true→z44=.pointer (some ⟨ob,1,none⟩)
 fr:AFr p ob base W wx
 pa:L 4=false→Ps wx p tb l
 pb:L 4=true→Ps wx p tb r
 xo:L 8=false→Ad wx ob [ov,.slice va S.length vc] 30
 x7:L 8=true→Ad wx ob [ov,.slice (some ⟨gn,0,none⟩) (S.length+1) cn] 30
 ra:L 6=false→Hg wx base S (.slice va S.length vc)
 rb:L 6=true→Hg wx base (S++[⟨x,.slice p1 x.params.length p2,.slice l1 x.locals.length l2,.slice b1 x.body.length b2⟩]) (.slice (some ⟨gn,0,none⟩) (S.length+1) cn)∧((Value.slice va S.length vc).ownBlock=some gn∨W.heap.size≤gn)
 xa:L 4=true→L 6=false→YFp (fun b=>base≤b∧(Value.slice va S.length vc).ownBlock≠some b) wx ⟨x,.slice p1 x.params.length p2,.slice l1 x.locals.length l2,.slice b1 x.body.length b2⟩
 g4:L 5=true→L 6=false→Ad wx nb (Fw ⟨x,.slice p1 x.params.length p2,.slice l1 x.locals.length l2,.slice b1 x.body.length b2⟩) 48∧base≤nb
 gr:∀b,b<W.heap.size→base≤b→(Value.slice va S.length vc).ownBlock≠some b→wx.heap[b]? =W.heap[b]?
def IY8(p ak a o:Nat)(nm:Bs)(al:Option Zl)(am:Nat)(S:List YFv)(v:Value)(x:Fu)(l aj:List Tk)(r:Option Int)(j:Zi)(z ad ae af ag ah ai A B C D E F G H I J K M N O P Q R T U V W X Y Z aa ab ac:Value)(L:Nat→Bool)(k:Act)(w':Zi):Prop:=
 ∃w:Option Zl,∃y:Nat,∃t:Option Zl,∃l2:Nat,∃m:Option Zl,∃n:Nat,∃u:Nat,∃s:Nat,∃q:Nat,∃b c d e f g h i:Value,VY8 p ak a o nm al am S v x l aj r j L w y t l2 m n u s q b c d e f g h i w'∧k=⟨[.pointer (some ⟨p,0,none⟩),z,.pointer (some ⟨a,0,none⟩),.string (Aa nm),ad,ae,af,ag,ah,ai,A,B,C,D,E,F,G,H,I,J,K,M,N,O,P,Q,R,T,U,V,W,X,Y,Z,aa,ab,ac,b,c,d,e,f,g,h,i].toArray,[]⟩
def RY8(p ad c e:Nat)(nm:Bs)(g:Option Zl)(h:Nat)(S:List YFv)(r:Value)(x:Fu)(l ac:List Tk)(ae:Option Int)(d:Zi)(s W X Y Z aa ab t u v w y z A B C D E F G H I J K L M N O P Q R T U V:Value)(o:Act)(w':Zi):Prop:=
 ∃m:Option Zl,∃n:Nat,∃k:Option Zl,∃l2:Nat,∃i:Option Zl,∃j:Nat,∃q:Nat,∃a:Nat,∃f:Nat,(AFr p c e d w'∧Ps w' p ad ac∧Ad w' c [r,.slice (some ⟨a,0,none⟩) (S.length+1) f] 30∧Hg w' e (S++[⟨x,.slice m x.params.length n,.slice k x.locals.length l2,.slice i x.body.length j⟩]) (.slice (some ⟨a,0,none⟩) (S.length+1) f)∧((Value.slice g S.length h).ownBlock=some a∨d.heap.size≤a)∧(∀b,b<d.heap.size→e≤b→(Value.slice g S.length h).ownBlock≠some b→w'.heap[b]? =d.heap[b]?))∧o=⟨[.pointer (some ⟨p,0,none⟩),s,.pointer (some ⟨c,0,none⟩),.string (Aa nm),W,X,Y,Z,aa,ab,t,u,v,w,y,z,A,B,C,D,E,F,G,H,I,J,K,L,M,N,O,P,Q,R,T,U,V,.pointer (some ⟨c,1,none⟩),.slice g S.length h,.pointer (some ⟨p,0,none⟩),.string (Aa nm),.agg #[.string (Aa x.name),.slice m x.params.length n,.slice k x.locals.length l2,.slice i x.body.length j],.slice (some ⟨q,0,none⟩) 1 1,.slice (some ⟨a,0,none⟩) (S.length+1) f,.pointer (some ⟨c,1,none⟩)].toArray,[]⟩
theorem cN(p ad w F:Nat)(nm:Bs)(M:Option Zl)(N:Nat)(S:List YFv)(ap:Value)(x:Fu)(l ba:List Tk)(ab:Option Int)(E:Zi)(ac:Ps E p ad l)(ai:Ad E w [ap,.slice M S.length N] 30)(bn:Hg E F S (.slice M S.length N))(cf:p<w)(bX:w<F)(bU:F≤E.heap.size)(bW:S.length≤1000000)(bF:Zm (∀Z,Ps Z p ad l→Zn Zc 65 #[.pointer (some ⟨p,0,none⟩),.string (Aa nm)] Z fun e w'=>match ab with|some n=>e=Bv n∧SFr p Z w'|none=> ∃pv lv ak,e=.returned (.agg #[.string (Aa x.name),pv,lv,ak])∧SFr p Z w'∧Ps w' p ad ba∧Bb (Z.heap.size≤ ·) w' x.params pv∧Bb (Z.heap.size≤ ·) w' x.locals lv∧Au (Z.heap.size≤ ·) w' x.body ak))(Q:Exit→Act→Zi→Prop)(bf:∀n H w',ab=some n→H.defers=[]→AFr p w F E w'→Q (.panic [{v:=.iface 110 (.agg #[.int .i64 n]),recovered:=false}]) H w'){aq aU aV aW aX aY aZ ar au av aw ax ay az aA aB aC aD aE aF aG aH aI aJ aK aL aM aN aO aP aQ aR aS aT bu bv bw bx bz bB bC bD:Value}{bb C:Act→Zi→Prop}(hJ:∀H w',RY8 p ad w F nm M N S ap x l ba ab E aq aU aV aW aX aY aZ ar au av aw ax ay az aA aB aC aD aE aF aG aH aI aJ aK aL aM aN aO aP aQ aR aS aT H w'→bb H w')(hM:∀H w',Met bb H w'→C H w'):
  Code.wp Zc ((Tryz.f28.body.bind (La 8)).getD .skip) (Exit.then C Q) ⟨[.pointer (some ⟨p,0,none⟩),aq,.pointer (some ⟨w,0,none⟩),.string (Aa nm),aU,aV,aW,aX,aY,aZ,ar,au,av,aw,ax,ay,az,aA,aB,aC,aD,aE,aF,aG,aH,aI,aJ,aK,aL,aM,aN,aO,aP,aQ,aR,aS,aT,bu,bv,bw,bx,bz,bB,bC,bD].toArray,[]⟩ E:=by
 obtain⟨bI,bH,bL,bK⟩:=Y4 ac ai bn bf;clear ac ai bn bf
 conv=>arg 2;whnf
 (try dsimp only);refine Fv (by kernel_rfl) (by kernel_rfl) (IY8 p ad w F nm M N S ap x l ba ab E aq aU aV aW aX aY aZ ar au av aw ax ay az aA aB aC aD aE aF aG aH aI aJ aK aL aM aN aO aP aQ aR aS aT) ?_ ?_ ?_
 ·exact⟨none,0,none,0,none,0,0,0,0,bu,bv,bw,bx,bz,bB,bC,bD,⟨(fun c=>by cases c),(fun c=>by cases c),(fun c=>by cases c),(fun c=>by cases c),(fun c=>by cases c),(fun c=>by cases c),(fun c=>by cases c),(fun c=>by cases c),(fun c=>by cases c),(fun c=>by cases c),(fun c=>by cases c),(fun c=>by cases c),(fun c=>by cases c),((AFr.refl p w F E).old (Zf _ _).drew),(fun _=>bI.o.old (Zf _ _).drew),(fun c=>by cases c),(fun _=>bH.o.old (Zf _ _).drew),(fun c=>by cases c),(fun _=>bL.o.old (Zf _ _).drew),(fun c=>by cases c),(fun c=>fun _=>by cases c),(fun c=>fun _=>by cases c),(fun b _ _ _=>rfl)⟩,rfl⟩
 ·intro L bM u k am an i h
  obtain⟨s,t,r,l2,m,q,B,z,y,O,P,R,T,U,V,W,X,a,rfl⟩:=am;have an:k=0∨k=1∨k=2∨k=3∨k=4∨k=5∨k=6∨k=7∨k=8:=by
   have:k<9:=an;omega
  rcases an with rfl|rfl|rfl|rfl|rfl|rfl|rfl|rfl|rfl
  ·have g:=kf a.ord i
   refine Bh rfl rfl (fun C G=>?_)
   conv=>arg 2;whnf
   go_wp2;exact⟨s,t,r,l2,m,q,B,z,y,.pointer (some ⟨w,1,none⟩),P,R,T,U,V,W,X,⟨kl g,kq a.p5_4,kq a.p6_4,kq a.p6_5,kq a.p8_6,(fun _=>rfl),kc a.c1,kc a.c2,kc a.c3,kc a.c4,kc a.c5,kc a.c6,kc a.c7,a.fr,(fun d=>a.pa (kb d)),kc a.pb,(fun d=>a.xo (kb d)),kl g,(fun d=>a.ra (kb d)),kc a.rb,(fun d=>fun f=>a.xa (kb d) (kb f)),(fun d=>fun f=>a.g4 (kb d) (kb f)),a.gr⟩,rfl⟩
  ·have g:=kf a.ord i
   have bN:L 0=true:=h _ rfl ⟨0,.data⟩ (by simp) rfl;obtain rfl:=(a.c0 bN).symm;have cb:L 8=false:=g;have ai:=a.xo cb;have cc:=ai.at 1 _ rfl;refine Bh rfl rfl (fun C G=>?_)
   conv=>arg 2;whnf
   go_wp2;exact⟨s,t,r,l2,m,q,B,z,y,.pointer (some ⟨w,1,none⟩),.slice M S.length N,R,T,U,V,W,X,⟨kl g,kq a.p5_4,kq a.p6_4,kq a.p6_5,kq a.p8_6,kc a.c0,(fun _=>rfl),kc a.c2,kc a.c3,kc a.c4,kc a.c5,kc a.c6,kc a.c7,a.fr,(fun d=>a.pa (kb d)),kc a.pb,(fun d=>a.xo (kb d)),kl g,(fun d=>a.ra (kb d)),kc a.rb,(fun d=>fun f=>a.xa (kb d) (kb f)),(fun d=>fun f=>a.g4 (kb d) (kb f)),a.gr⟩,rfl⟩
  ·have g:=kf a.ord i
   refine Bh rfl rfl (fun C G=>?_)
   conv=>arg 2;whnf
   go_wp2;exact⟨s,t,r,l2,m,q,B,z,y,O,P,π p,T,U,V,W,X,⟨kl g,kq a.p5_4,kq a.p6_4,kq a.p6_5,kq a.p8_6,kc a.c0,kc a.c1,(fun _=>rfl),kc a.c3,kc a.c4,kc a.c5,kc a.c6,kc a.c7,a.fr,(fun d=>a.pa (kb d)),kc a.pb,(fun d=>a.xo (kb d)),kl g,(fun d=>a.ra (kb d)),kc a.rb,(fun d=>fun f=>a.xa (kb d) (kb f)),(fun d=>fun f=>a.g4 (kb d) (kb f)),a.gr⟩,rfl⟩
  ·have g:=kf a.ord i
   refine Bh rfl rfl (fun C G=>?_)
   conv=>arg 2;whnf
   go_wp2;exact⟨s,t,r,l2,m,q,B,z,y,O,P,R,σ nm,U,V,W,X,⟨kl g,kq a.p5_4,kq a.p6_4,kq a.p6_5,kq a.p8_6,kc a.c0,kc a.c1,kc a.c2,(fun _=>rfl),kc a.c4,kc a.c5,kc a.c6,kc a.c7,a.fr,(fun d=>a.pa (kb d)),kc a.pb,(fun d=>a.xo (kb d)),kl g,(fun d=>a.ra (kb d)),kc a.rb,(fun d=>fun f=>a.xa (kb d) (kb f)),(fun d=>fun f=>a.g4 (kb d) (kb f)),a.gr⟩,rfl⟩
  ·have g:=kf a.ord i
   have bP:L 2=true:=h _ rfl ⟨2,.data⟩ (by simp) rfl;obtain rfl:=(a.c2 bP).symm;have bQ:L 3=true:=h _ rfl ⟨3,.data⟩ (by simp) rfl;obtain rfl:=(a.c3 bQ).symm;have ac:=a.pa i;have aj:L 6=false:=by
    cases e:L 6 with
    |false=>rfl
    |true=>have:=a.p6_4 e;rw[i]at this;cases this
   refine Bh rfl rfl (fun C G=>?_)
   conv=>arg 2;whnf
   obtain⟨bJ,bG⟩:=Y2 ac a.fr;clear ac;go_wp2_with fail;refine(bF.o _ bJ.o).mono ?_;intro e ch bg
   cases ab with
   |some n=>
    obtain⟨rfl,bh⟩:=bg;unfold Bv;have bE:=Za (bG.o.trans (AFr.of_sfr bh));clear bh G a;go_wp2_with fail;exact bK.o n _ _ rfl rfl bE.o
   |none=>
   obtain⟨pv,lv,ak,rfl,af,bY,bj,bk,bl⟩:=bg;obtain⟨bo,bp,rfl⟩:=Ld bj;obtain⟨bq,br,rfl⟩:=Ld bk;obtain⟨bs,bt,rfl⟩:=bl.shape;go_wp2;exact⟨bo,bp,bq,br,bs,bt,B,z,y,O,P,π p,σ nm,.agg #[σ x.name,.slice (bo) x.params.length (bp),.slice (bq) x.locals.length (br),.slice (bs) x.body.length (bt)],V,W,X,⟨kl g,(fun _=>Bo L 4),(fun _=>Bo L 4),kq a.p6_5,kq a.p8_6,kc a.c0,kc a.c1,kc a.c2,kc a.c3,(fun _=>rfl),kc a.c5,kc a.c6,kc a.c7,(a.fr.trans (AFr.of_sfr af)),(ks),(fun _=>bY),(fun c=>(a.xo (kb c)).sfr af (by omega)),kl g,(fun c=>(a.ra (kb c)).sfr af (by omega)),(fun c=>by rw[Ay L (by decide)]at c;rw[aj]at c;cases c),(fun _ _=>⟨bj.mono (fun b K=>⟨by have f:u.heap.size≤b:=K;have D:=a.fr.size;omega,fun e=>by have f:u.heap.size≤b:=K;have:=((a.ra aj).lt _ e).2;omega⟩),bk.mono (fun b K=>⟨by have f:u.heap.size≤b:=K;have D:=a.fr.size;omega,fun e=>by have f:u.heap.size≤b:=K;have:=((a.ra aj).lt _ e).2;omega⟩),bl.mono (fun b K=>⟨by have f:u.heap.size≤b:=K;have D:=a.fr.size;omega,fun e=>by have f:u.heap.size≤b:=K;have:=((a.ra aj).lt _ e).2;omega⟩)⟩),(fun f _=>by have:=a.p5_4 (kb f);rw[i]at this;cases this),(fun b f D J=>(af.block b (by have:=a.fr.size;omega) (by omega)).trans (a.gr b f D J))⟩,rfl⟩
  ·have g:=kf a.ord i
   have I:L 4=true:=h _ rfl ⟨4,.data⟩ (by simp) rfl;obtain rfl:=(a.c4 I).symm;have Y:Zk u.heap.size u (u.alloc (.cells #[σ x.name,.slice s x.params.length t,.slice r x.locals.length l2,.slice m x.body.length q] 48)):=bA;have bi:=a.fr.size;refine Bh rfl rfl (fun C G=>?_)
   conv=>arg 2;whnf
   go_wp2;exact⟨s,t,r,l2,m,q,u.heap.size,z,y,O,P,R,T,.agg #[σ x.name,.slice s x.params.length t,.slice r x.locals.length l2,.slice m x.body.length q],.slice (some ⟨(u.heap.size),0,none⟩) 1 1,W,X,⟨kl g,(kd (I)),kq a.p6_4,(fun _=>Bo L 5),kq a.p8_6,kc a.c0,kc a.c1,kc a.c2,kc a.c3,kc a.c4,(fun _=>rfl),kc a.c6,kc a.c7,(AFr.old (a.fr) Y),(fun d=>Ps.old (a.pa (kb d)) Y),(fun d=>Ps.old (a.pb (kb d)) Y),(fun d=>Ad.old (a.xo (kb d)) Y),kl g,(fun d=>Hg.old (a.ra (kb d)) Y),(kn a.p6_5 i),(fun d=>fun f=>YFp.keep (a.xa (kb d) (kb f)) (Be Y)),(fun _ _=>⟨Zd u (Fw ⟨x,.slice s x.params.length t,.slice r x.locals.length l2,.slice m x.body.length q⟩) 48,by omega⟩),(fun b f D J=>(Y.block b (by omega)).trans ((a.gr) b f D J))⟩,rfl⟩
  ·have g:=kf a.ord i
   have bO:L 1=true:=h _ rfl ⟨1,.data⟩ (by simp) rfl;obtain rfl:=(a.c1 bO).symm;have I:L 4=true:=h _ rfl ⟨4,.chain⟩ (by simp) rfl;have al:L 5=true:=h _ rfl ⟨5,.data⟩ (by simp) rfl;obtain rfl:=(a.c5 al).symm;have I:L 4=true:=h _ rfl ⟨4,.chain⟩ (by simp) rfl;have bV:=a.g4 al i;have bm:=a.ra i;have ca:=a.xa I i;have bi:=a.fr.size;refine Bh rfl rfl (fun C G=>?_)
   conv=>arg 2;whnf
   refine wp_yfun u _ _ rfl F S (.slice M S.length N) rfl bm ⟨x,.slice s x.params.length t,.slice r x.locals.length l2,.slice m x.body.length q⟩ ca (rX) B 1 rfl bV.1 bW (Nat.le_trans bU bi) ?_;intro be bd w2 bZ ag bT ce;have ao:∀k,(Value.slice M S.length N).ownBlock=some k→F≤k:=fun k e=>(bm.lt k e).1
   go_wp2;exact⟨s,t,r,l2,m,q,B,be,bd,O,.slice M S.length N,R,T,U,κ B 1 1,.slice (some ⟨(be),0,none⟩) (S.length+1) (bd),X,⟨kl g,kq a.p5_4,(kd (I)),(kd (al)),(fun _=>Bo L 6),kc a.c0,kc a.c1,kc a.c2,kc a.c3,kc a.c4,kc a.c5,(fun _=>rfl),kc a.c7,(a.fr.grown ag ao),(fun c=>by rw[Ay L (by decide)]at c;rw[I]at c;cases c),(fun _=>(a.pb I).grown ag ao (by omega)),(fun c=>(a.xo (kb c)).grew ag (fun e=>by have:=ao _ e;omega)),kl g,(ks),(fun _=>⟨bZ,by rcases bT with c|c;exact .inl c;exact .inr (by omega)⟩),(fun _=>ks),(fun _=>ks),(fun b f D J=>(ag.block b (by omega) (fun e=>J e.symm)).trans (a.gr b f D J))⟩,rfl⟩
  ·have g:=kf a.ord i
   refine Bh rfl rfl (fun C G=>?_)
   conv=>arg 2;whnf
   go_wp2;exact⟨s,t,r,l2,m,q,B,z,y,O,P,R,T,U,V,W,.pointer (some ⟨w,1,none⟩),⟨kl g,kq a.p5_4,kq a.p6_4,kq a.p6_5,kq a.p8_6,kc a.c0,kc a.c1,kc a.c2,kc a.c3,kc a.c4,kc a.c5,kc a.c6,(fun _=>rfl),a.fr,(fun d=>a.pa (kb d)),kc a.pb,(fun d=>a.xo (kb d)),kl g,(fun d=>a.ra (kb d)),kc a.rb,(fun d=>fun f=>a.xa (kb d) (kb f)),(fun d=>fun f=>a.g4 (kb d) (kb f)),a.gr⟩,rfl⟩
  ·have ae:∀j,j<8→L j=true:=fun j ah=>by
    have ah:j=0∨j=1∨j=2∨j=3∨j=4∨j=5∨j=6∨j=7:=by omega
    rcases ah with rfl|rfl|rfl|rfl|rfl|rfl|rfl|rfl
    ·exact h _ rfl ⟨0,.phase⟩ (by simp) rfl
    ·exact h _ rfl ⟨1,.phase⟩ (by simp) rfl
    ·exact h _ rfl ⟨2,.phase⟩ (by simp) rfl
    ·exact h _ rfl ⟨3,.phase⟩ (by simp) rfl
    ·exact h _ rfl ⟨4,.phase⟩ (by simp) rfl
    ·exact h _ rfl ⟨5,.phase⟩ (by simp) rfl
    ·exact h _ rfl ⟨6,.data⟩ (by simp) rfl
    ·exact h _ rfl ⟨7,.data⟩ (by simp) rfl
   have bR:L 6=true:=h _ rfl ⟨6,.data⟩ (by simp) rfl;obtain rfl:=(a.c6 bR).symm;have bS:L 7=true:=h _ rfl ⟨7,.data⟩ (by simp) rfl;obtain rfl:=(a.c7 bS).symm;have hx:=a.xo i;have cc:=hx.at 1 _ rfl;have cd:=hx.fz 1;have cg:=hx.lt;have bc:=ae 4 (by decide);have aa:=ae 6 (by decide);refine Bh rfl rfl (fun C G=>?_)
   conv=>arg 2;whnf
   go_wp2;exact⟨s,t,r,l2,m,q,B,z,y,O,P,R,T,U,V,.slice (some ⟨z,0,none⟩) (S.length+1) y,.pointer (some ⟨w,1,none⟩),⟨(fun _ j ah=>by rw[Ay L (show j≠8 by omega)];exact ae j ah),kq a.p5_4,kq a.p6_4,kq a.p6_5,(kd (ae 6 (by decide))),kc a.c0,kc a.c1,kc a.c2,kc a.c3,kc a.c4,kc a.c5,kc a.c6,kc a.c7,(a.fr.set _ _),(fun c=>by rw[Ay L (by decide)]at c;rw[bc]at c;cases c),(fun _=>(a.pb bc).other (by omega) _ _),(ks),(fun _=>hx.set 1 (.slice (some ⟨z,0,none⟩) (S.length+1) y)),(fun c=>by rw[Ay L (by decide)]at c;rw[aa]at c;cases c),(fun _=>⟨Hg.low (a.rb aa).1 bX _ _,(a.rb aa).2⟩),(fun _ c=>by rw[Ay L (by decide)]at c;rw[aa]at c;cases c),(fun _ c=>by rw[Ay L (by decide)]at c;rw[aa]at c;cases c),(fun b f D J=>(Below.heap_setCell _ _ _ _ (show b≠w by omega)).trans (a.gr b f D J))⟩,rfl⟩
 ·intro L bM u am A
  obtain⟨s,t,r,l2,m,q,B,z,y,O,P,R,T,U,V,W,X,a,rfl⟩:=am;obtain rfl:=(a.c0 (A 0 (by decide))).symm;obtain rfl:=(a.c1 (A 1 (by decide))).symm;obtain rfl:=(a.c2 (A 2 (by decide))).symm;obtain rfl:=(a.c3 (A 3 (by decide))).symm;obtain rfl:=(a.c4 (A 4 (by decide))).symm;obtain rfl:=(a.c5 (A 5 (by decide))).symm;obtain rfl:=(a.c6 (A 6 (by decide))).symm;obtain rfl:=(a.c7 (A 7 (by decide))).symm;exact hM _ _ (Met.intro (hJ _ _ ⟨s,t,r,l2,m,q,B,z,y,⟨a.fr,a.pb (A 4 (by decide)),a.x7 (A 8 (by decide)),(a.rb (A 6 (by decide))).1,(a.rb (A 6 (by decide))).2,a.gr⟩,rfl⟩))
def PrH(B:Nat)(x:Pr)(v:Value)(w:Zi):Prop:= ∃a b,v=.agg #[a,b]∧Cd (B≤ ·) w x.arrays a∧Bw (B≤ ·) w x.funcs b
theorem Ox:∀(f:Nat) (a:List Bs) (l:List Tk) (x:List Bs) (c:List Tk),Js f a l=.ok (x,c)→c.length≤l.length
 |0,a,l,x,c,b=>by cases b
 |f+1,a,l,x,c,b=>by
  rw[Js]at b
  cases h1:Bi [105,110,116] l with
  |none=>rw[h1]at b;injection b with b;injection b with _ b;subst b;exact Zb _
  |some q=>
   rw[h1]at b;dsimp only at b
   cases h2:Ew q with
   |error e=>rw[h2]at b;cases b
   |ok d=>
    obtain⟨s,d⟩:=d;rw[h2]at b;dsimp only at b
    cases h3:An [59] d with
    |error e=>rw[h3]at b;cases b
    |ok y=>rw[h3]at b;have:=Ox f _ _ _ _ b;have:=Bn h1;have:=Gu h2;have:=Bp h3;omega
theorem bB {f:Nat}{l b:List Tk}{x:List Bs}(a:Jc f l=.ok (x,b)):b.length<l.length:=by
 unfold Jc at a
 cases ht:Bi [41] l with
 |some q=>rw[ht]at a;injection a with a;injection a with _ a;subst a;exact Bn ht
 |none=>rw[ht]at a;exact Tm _ _ _ _ _ a
theorem Mn {f:Nat}{s:Bs}{l c:List Tk}{x:Fu}(a:Hm f s l=.ok (x,c)):c.length<l.length:=by
 rw[Ob]at a
 cases h1:Jc f l with
 |error e=>rw[h1]at a;cases a
 |ok q=>
  obtain⟨g,q⟩:=q;rw[h1]at a;dsimp only at a
  cases h2:An [123] q with
  |error e=>rw[h2]at a;cases a
  |ok z=>
   rw[h2]at a;dsimp only at a;unfold Of at a
   cases h3:Js f [] z with
   |error e=>rw[h3]at a;cases a
   |ok y=>
    obtain⟨d,y⟩:=y;rw[h3]at a;dsimp only at a
    cases h4:Ep f [] y with
    |error e=>rw[h4]at a;cases a
    |ok v=>
     obtain⟨b,v⟩:=v;rw[h4]at a;injection a with a;injection a with _ a;subst a
     have:=bB h1;have:=Bp h2;have:=Ox _ _ _ _ _ h3;have:=(Jj f).2 _ _ _ _ h4;omega
structure PgI (W:Zi)(p tb ob base f:Nat)(R:PR Pr)(g:Nat)(aa:Option Zl)(ac:Nat)(as0:List Ar)(fa:Option Zl)(fc:Nat)(ps:List YFv)(l:List Tk)(wr:Zi):Prop where
 fr:AFr p ob base W wr
 par:Ps wr p tb l
 o:Ad wr ob [.slice aa as0.length ac,.slice fa ps.length fc] 30
 ra:Qf wr base as0 (.slice aa as0.length ac)
 rf:Hg wr base ps (.slice fa ps.length fc)
 ap:∀g,(Value.slice aa as0.length ac).ownBlock=some g→(Value.slice fa ps.length fc).ownBlock≠some g
 nf:ps=[]→fa=none∧fc=0
 len:as0.length+ps.length+l.length≤1000000
 fuel:4*l.length+4≤g
 le:g≤f
 res:Kg g ⟨as0,ps.map (·.x)⟩ l=R
structure PgS (W:Zi)(p tb ob base:Nat)(aa:Option Zl)(ac:Nat)(as0:List Ar)(fa:Option Zl)(fc:Nat)(ps:List YFv)(l:List Tk)(wr:Zi):Prop where
 fr:AFr p ob base W wr
 par:Ps wr p tb l
 o:Ad wr ob [.slice aa as0.length ac,.slice fa ps.length fc] 30
 ra:Qf wr base as0 (.slice aa as0.length ac)
 rf:Hg wr base ps (.slice fa ps.length fc)
 ap:∀g,(Value.slice aa as0.length ac).ownBlock=some g→(Value.slice fa ps.length fc).ownBlock≠some g
 nf:ps=[]→fa=none∧fc=0
 len:as0.length+ps.length+l.length≤1000000
section
variable {W:Zi} {p tb ob base:Nat} {aa:Option Zl} {ac:Nat} {as0:List Ar} {fa:Option Zl} {fc:Nat} {ps:List YFv} {l r:List Tk} {wx w':Zi}
theorem PgS.old(a:PgS W p tb ob base aa ac as0 fa fc ps l wx)(b:Zk wx.heap.size wx w'):PgS W p tb ob base aa ac as0 fa fc ps l w':=
 ⟨a.fr.old b,a.par.old b,a.o.old b,a.ra.old b,a.rf.old b,a.ap,a.nf,a.len⟩
theorem PgS.next(a:PgS W p tb ob base aa ac as0 fa fc ps l wx)(d:p<ob)(e:ob<base)(b:SFr p wx w')(c:Ps w' p tb r)(f:r.length≤l.length):PgS W p tb ob base aa ac as0 fa fc ps r w':=
 ⟨a.fr.trans (AFr.of_sfr b),c,a.o.sfr b (by omega),a.ra.sfr b (by omega),a.rf.sfr b (by omega),a.ap,a.nf,by have:=a.len;omega⟩
end
theorem yI {f:Nat}{p:Pr}{t:Tk}{a:List Tk}(b:t.kind=5):Kg (f+1) p (t::a)=.ok (p,t::a):=by
 rw[Kg];have:((t::a).head?.map (·.kind)).getD 0=t.kind:=rfl;rw[this,if_pos b]
theorem pH {f:Nat}{p:Pr}{t:Tk}{a:List Tk}(c:t.kind≠5):Kg (f+1) p (t::a)=match Nr (t::a)with
  |.error e=>.error e
  |.ok (s,a)=>match(if p.funcs.isEmpty=true then Bi [91] a else none)with
   |some a=>(match Ks 3 a with
    |.error e=>.error e
    |.ok (t,a)=>match Hz [93] [59] a with
     |.error e=>.error e
     |.ok a=>Kg f {p with arrays:=p.arrays++[⟨s,t.num⟩]} a)
   |none=>match An [40] a with
    |.error e=>.error e
    |.ok a=>match Hm f s a with
     |.error e=>.error e
     |.ok (x,a)=>Kg f {p with funcs:=p.funcs++[x]} a:=by
 rw[Kg];have:((t::a).head?.map (·.kind)).getD 0=t.kind:=rfl;rw[this,if_neg c];unfold Nr
 cases An [105,110,116] (t::a)with
 |error e=>rfl
 |ok q=>
  dsimp only
  cases Ew q with
  |error e=>rfl
  |ok b=>
   obtain⟨s,b⟩:=b;dsimp only
   cases(if p.funcs.isEmpty=true then Bi [91] b else none)with
   |some y=>
    dsimp only
    cases Ks 3 y with
    |error e=>rfl
    |ok v=>
     obtain⟨t,v⟩:=v;dsimp only;unfold Hz
     cases An [93] v with
     |error e=>rfl
     |ok u=>rfl
   |none=>rfl
theorem kU {s u:Bs}{l b:List Tk}(a:Hz s u l=.ok b):b.length<l.length:=by
 unfold Hz at a
 cases h1:An s l with
 |error e=>rw[h1]at a;cases a
 |ok q=>rw[h1]at a;have:=Bp h1;have:=Bp a;omega
theorem rB(f:Nat)(l:List Tk)(w:Zi)(p j:Nat)(bz:4*l.length+4≤f)(I:Ps w p j l):
  Zn Zc 28 #[.pointer (some ⟨p,0,none⟩)] w (Gw (PrH w.heap.size) w p j (Kg f ⟨[],[]⟩ l)):=by
 obtain⟨ay,bi⟩:∃ay,Kg f ⟨[],[]⟩ l=ay:=⟨_,rfl⟩;rw[bi];have bj:Zk w.heap.size w (w.alloc (.cells #[ν,ν] 30)):=bA;have aO:=Zd w [ν,ν] 30;have bC:l.length≤1000000:=by obtain⟨_,_,m⟩:=I;exact m.fit
 have W:=I.lt;have bG:=I.old bj;have bI:(w.alloc (.cells #[ν,ν] 30)).heap.size=w.heap.size+1:=by simp
 have bb:Zm (PgI (w.alloc (.cells #[ν,ν] 30)) p j w.heap.size (w.heap.size+1) f ay f none 0 [] none 0 [] l (w.alloc (.cells #[ν,ν] 30))):=
  ⟨AFr.refl _ _ _ _,bG,aO,Fh.zero _ _ _ _ _,Hg.zero _ _,(fun g e=>by cases e),fun _=>⟨rfl,rfl⟩,by simpa using bC,bz,Zb _,bi⟩
 obtain⟨ao,aZ⟩:=Y2 W bI;have ai:Zm (∀R,AFr p w.heap.size (w.heap.size+1) (w.alloc (.cells #[ν,ν] 30)) R→SFr p w R):=fun R d=>Uv (SFr.of_below bj) d (by omega) (Zb _)
 clear bi aO bC bG bz I bj bI;go_enter func28,ntmps28;go_wp2_with fail;obtain⟨az,bw⟩:∃az,w.alloc (.cells #[ν,ν] 30)=az:=⟨_,rfl⟩;rw[bw]at bb aZ ai ⊢;clear bw
 go_loopw [] (fun wr=> ∃(g:Nat) (E:Option Zl) (F:Nat) (r:List Ar) (ak:Option Zl) (al:Nat) (H:List YFv) (l:List Tk),Zm (PgI az p j w.heap.size (w.heap.size+1) f ay g E F r ak al H l wr)) (fun wr=>Dz p wr)
 case atStart=>exact⟨f,none,0,[],none,0,[],l,bb⟩
 case round=>
  obtain⟨g,E,F,r,ak,al,H,l,B⟩:=hrel;clear bb;obtain⟨t,aE,rfl⟩:=B.o.par.ends.ne;obtain⟨L,bS⟩:∃L,g=L+1:=⟨g-1,by have:=B.o.fuel;omega⟩;subst bS;have bt:=Za (Gy p j t aE wr B.o.par)
  by_cases hk:t.kind=5
  ·have aQ:Except.ok (⟨r,H.map (·.x)⟩,t::aE)=ay:=by
    rw[←B.o.res,yI hk]
   subst aQ;have bU:(t.kind !=5)=false:=by simp [hk]
   have bV:(t.kind==5)=true:=by simp [hk]
   clear hk;go_wp2_with fail;refine bt.o.mono ?_;rintro e aG ⟨rfl,V⟩;unfold tkV;obtain⟨Z,bN⟩:=Y2 (ai.o _ (B.o.fr.old V)) (B.o.par.old V);have bB:r.length≤1000000:=by have:=B.o.len;omega
   have bE:H.length≤1000000:=by have:=B.o.len;omega
   obtain⟨bL,bP⟩:=Y2 (Qf.ars (B.o.ra.old V) bB) ((B.o.rf.old V).fus bE);have aO:=B.o.o.old V;obtain ⟨bY, bZ⟩ := τ2 aO;clear V aO bB bE;go_wp2_with fail;have aW:∀b,w.heap.size+1≤b→w.heap.size≤b:=fun b V=>by omega
   exact Zp (v:=.agg #[.slice E r.length F,.slice ak H.length al]) (by simp [results,results28,go_sem,bY,bZ]) rfl ⟨Z.o,_,rfl,bN.o,_,_,rfl,by
    obtain⟨a,cap,b,bo,ag,D,m,X,P⟩:=bL.o;exact⟨a,cap,b,bo,ag,D,m,X.imp id (fun q=>⟨q.1,aW _ q.2⟩),P⟩,by
    obtain⟨a,cap,b,bo,pv,lv,aM,ag,D,m,X,P⟩:=bP.o;exact⟨a,cap,b,bo,pv,lv,aM,ag,D,m,X.imp id (fun q=>⟨q.1,aW _ q.2⟩),fun i ba=>⟨(P i ba).1,(P i ba).2.1.mono aW,(P i ba).2.2.1.mono aW,(P i ba).2.2.2.mono aW⟩⟩⟩
  ·have aQ:=B.o.res
   rw[pH hk]at aQ;have aX:=Za aQ;have bU:(t.kind !=5)=true:=by simp [hk]
   have bV:(t.kind==5)=false:=by simp [hk]
   have ca:=Za hk;have bO:Zm (PgS az p j w.heap.size (w.heap.size+1) E F r ak al H (t::aE) wr):=⟨B.o.fr,B.o.par,B.o.o,B.o.ra,B.o.rf,B.o.ap,B.o.nf,B.o.len⟩;have Y:w.heap.size<w.heap.size+1:=Nat.lt_succ_self _;have bx:=B.o.fuel;have aH:=Za bx;have bc:Zm (L+1≤f):=B.o.le;have bd:=Za B.o.par.len;clear hk aQ bx B;go_wp2_with fail;refine bt.o.mono ?_;rintro e aG ⟨rfl,V⟩;unfold tkV;have bu:=Za (bO.o.old V);have S:Zk aG.heap.size aG (aG.alloc (.cells #[.string ⟨#[105,110,116]⟩] 9)):=bA;have aY:=Za (bu.o.old S);have aj:=Za (Dn p j (t::aE) [105,110,116] aY.o.par aG.heap.size 1 ((Zd aG [.string ⟨#[105,110,116]⟩] 9).at 0 _ rfl));clear V S;go_wp2_with fail;refine aj.o.mono ?_;intro e bX h
   cases hw:An [105,110,116] (t::aE)with
   |error n=>
    rw[hw]at h;obtain⟨d,rfl⟩:=h;have c:=aX.o;unfold Nr at c;rw[hw]at c;dsimp only at c;subst c;have Z:=Za (ai.o _ (aY.o.fr.trans (AFr.of_sfr d)));clear hw d;unfold Bv;go_wp2;exact⟨rfl,Z.o,rfl⟩
   |ok r1=>
   rw[hw]at h;obtain⟨d,rfl,y⟩:=h;have bk:=Bp hw;obtain⟨bv,bs,br,bh⟩:=Y4 (aY.o.next ao.o Y d y (Ze bk)) (Gb p j r1 bX y) bk hw;clear d y hw bk aj bu aY;go_wp2_with fail;refine bs.o.mono ?_;intro e bp h
   cases A:Ew r1 with
   |error n=>
    rw[A]at h;obtain⟨d,rfl⟩:=h;have c:=aX.o;unfold Nr at c;rw[bh.o]at c;dsimp only at c;rw[A]at c;dsimp only at c;subst c;have Z:=Za (ai.o _ (bv.o.fr.trans (AFr.of_sfr d)));clear A d;unfold Bv;go_wp2;exact⟨rfl,Z.o,rfl⟩
   |ok q=>
   obtain⟨s,bW⟩:=q;rw[A]at h;obtain⟨d,v,rfl,y,ag⟩:=h;have ag:v= σ s:=ag;subst ag;have bD:=Gu A;have ax:=Za (bv.o.next ao.o Y d y (Ze bD));have c:=aX.o;unfold Nr at c;rw[bh.o]at c;dsimp only at c;rw[A]at c;dsimp only at c;have bf:=Za c;have bF:bW.length+2≤(t::aE).length:=by have:=br.o;omega
   have au:=Za bF;clear d y A c bF bD aX bh br bs;obtain⟨u,T,rfl⟩:=ax.o.par.ends.ne;obtain ⟨bJ, bK⟩ := τ2 ax.o.o
   by_cases hz:H=[]
   ·subst hz
    obtain⟨rfl,rfl⟩:=ax.o.nf rfl
    cases hu:isP [91] u with
    |true=>
     have bg:=Za (Bz p j u T [91] bp ax.o.par hu);have c:=bf.o;rw[if_pos (by rfl),Bt hu]at c;dsimp only at c;have av:=Za c;clear hu c;go_wp2_with fail;refine bg.o.mono ?_;rintro e G ⟨rfl,d,y⟩;have K:=Za (ax.o.next ao.o Y d y (by simp));clear d y bJ bK;go_upto_region 5 with(fail);have ad:w.heap.size+1≤G.heap.size:=by have:=K.o.fr.size;have:=aZ.o;omega
     have af:r.length≤1000000:=by have:=K.o.len;omega
     have W:=ao.o
     cases hy:Ks 3 T with
     |error n=>
      have c:=av.o;rw[hy]at c;dsimp only at c;subst c;refine Zo (Q:=Exit.then (Met (RY5 p j w.heap.size (w.heap.size+1) s E F r (ν) t T [] (some n) G _ _ _ _ _ _ _ _ _ _ _ _ _ _ _ _ _ _ _ _ _ _ _ _ _ _ _ _ _ _ _ _)) _) (sY p j w.heap.size (w.heap.size+1) s E F r (ν) t T [] (some n) G K.o.par K.o.o K.o.ra W Y ad af (fun R D=>by have m:=Nh p j T 3 (by decide) R D;rw[hy]at m;exact m.mono (fun e w2 I=>⟨I.2,I.1⟩)) (fun e C w'=> ∃M,e=.panic [{v:=.iface 110 (.agg #[ι M]),recovered:=false}]∧n=M∧C.defers=[]∧AFr p w.heap.size (w.heap.size+1) G w') (fun M C w' A ae d=>by injection A with A;exact⟨M,rfl,A,ae,d⟩) _ _ (fun _ _ q=>q) (fun _ _ q=>q)) ?_;intro e C w' J
      cases e with
      |normal=>
       obtain⟨aT,ab,aq,⟨_,y,_⟩,_⟩:=(show RY5 p j w.heap.size (w.heap.size+1) s E F r (ν) t T [] (some n) G _ _ _ _ _ _ _ _ _ _ _ _ _ _ _ _ _ _ _ _ _ _ _ _ _ _ _ _ _ _ _ _ C w' from J);exact y.ends.elim
      |panic ch=>
       obtain⟨aS,h,rfl,ae,d⟩:=J;injection h with h
       subst h;exact⟨ae,ai.o _ (K.o.fr.trans d),rfl⟩
      |_=>
       obtain⟨aS,h,_⟩:=J
       cases h
     |ok q=>
      obtain⟨aF,z⟩:=q;have c:=av.o;rw[hy]at c;dsimp only at c;have aw:=Za c;have am:=Sz hy;have ah:=Za am;refine wp_cut (fun C w'=>RY5 p j w.heap.size (w.heap.size+1) s E F r (ν) aF T z none G _ _ _ _ _ _ _ _ _ _ _ _ _ _ _ _ _ _ _ _ _ _ _ _ _ _ _ _ _ _ _ _ C w') ?rest (fun bQ bR hJ hM=>sY p j w.heap.size (w.heap.size+1) s E F r (ν) aF T z none G K.o.par K.o.o K.o.ra W Y ad af (fun R D=>by have m:=Nh p j T 3 (by decide) R D;rw[hy]at m;exact m.mono (fun e w2 I=>by obtain⟨d,v,rfl,y,ag⟩:=I;have ag:v=tkV aF:=ag;subst ag;exact⟨rfl,d,y⟩)) _ (fun M C w' A=>by cases A) bQ bR hJ hM)
      case rest=>
       rintro C aC ⟨aT,ab,aq,⟨D,m,X,P⟩,rfl⟩;have O:(r++[(⟨s,aF.num⟩:Ar)]).length=r.length+1:=by simp
       have aa:Zm (PgS az p j w.heap.size (w.heap.size+1) (some ⟨ab,0,none⟩) aq (r++[(⟨s,aF.num⟩:Ar)]) none 0 [] z aC):=by
        refine⟨K.o.fr.trans D,m,?_,?_,Hg.zero _ _,?_,fun _=>⟨rfl,rfl⟩,?_⟩
        ·rw[O];exact X
        ·rw[O];exact P
        ·intro g _ c;cases c
        ·have:=K.o.len
         simp only[List.length_nil]at this ⊢;rw[O];omega
       have S:Zk aC.heap.size aC (aC.alloc (.cells #[.string ⟨#[93]⟩,.string ⟨#[59]⟩] 9)):=bA;have k:=Za (aa.o.old S);have bH:aC.heap.size≠p:=by have:=aa.o.par.lt;omega
       have aj:=Za (Qj p j z [93] [59] (aa.o.old S).par aC.heap.size 2 ((Zd aC [.string ⟨#[93]⟩,.string ⟨#[59]⟩] 9).at 0 _ rfl) ((Zd aC [.string ⟨#[93]⟩,.string ⟨#[59]⟩] 9).at 1 _ rfl) bH);clear D m X P O S bH hy c am ad af W;go_wp2_with fail;refine aj.o.mono ?_;intro e an h
       cases hw:Hz [93] [59] z with
       |error n=>
        rw[hw]at h;obtain⟨d,rfl⟩:=h;have c:=aw.o;rw[hw]at c;dsimp only at c;subst c;have Z:=Za (ai.o _ (k.o.fr.trans (AFr.of_sfr d)));clear hw d;unfold Bv;go_wp2;exact⟨rfl,Z.o,rfl⟩
       |ok U=>
        rw[hw]at h;obtain⟨d,rfl,y⟩:=h;have aA:=kU hw;have ar:=k.o.next ao.o Y d y (Ze aA);have c:=aw.o;rw[hw]at c;dsimp only at c;have bq:Zm (PgI az p j w.heap.size (w.heap.size+1) f ay L (some ⟨ab,0,none⟩) aq (r++[(⟨s,aF.num⟩:Ar)]) none 0 [] U an):=⟨ar.fr,ar.par,ar.o,ar.ra,ar.rf,ar.ap,ar.nf,ar.len,by have:=aH.o;have:=au.o;have:=ah.o;simp only[Zg]at*;omega,Nat.le_of_succ_le bc.o,c⟩;have aB:Dz p an<Dz p wr:=by
         rw[bq.o.par.len,bd.o];have:=au.o;have:=ah.o;simp only[Zg]at*;omega
        have aJ:=Za aB;clear d y hw aA ar c aB;go_wp2;go_roundw
        case rel=>exact⟨L,_,_,_,_,_,_,U,bq⟩
        case measure=>exact aJ.o
    |false=>
     have bg:=Za (Aq p j u T [91] bp ax.o.par hu);have c:=bf.o;rw[if_pos (by rfl),Ah hu]at c;dsimp only at c;have av:=Za c;clear hu c;go_wp2_with fail;refine bg.o.mono ?_;rintro e G ⟨rfl,V⟩;have K:=Za (ax.o.old V);clear V bJ bK;have S:Zk G.heap.size G (G.alloc (.cells #[.string ⟨#[40]⟩] 9)):=bA;obtain⟨aa,aj⟩:=Y2 (K.o.old S) (Dn p j (u::T) [40] (K.o.old S).par G.heap.size 1 ((Zd G [.string ⟨#[40]⟩] 9).at 0 _ rfl));clear S;go_wp2_with fail;refine aj.o.mono ?_;intro e N h
     cases hw:An [40] (u::T)with
     |error n=>
      rw[hw]at h;obtain⟨d,rfl⟩:=h;have c:=av.o;rw[hw]at c;dsimp only at c;subst c;have Z:=Za (ai.o _ (aa.o.fr.trans (AFr.of_sfr d)));clear hw d;unfold Bv;go_wp2;exact⟨rfl,Z.o,rfl⟩
     |ok z=>
     rw[hw]at h;obtain⟨d,rfl,y⟩:=h;have am:=Bp hw;have k:=Za (aa.o.next ao.o Y d y (Ze am));have c:=av.o;rw[hw]at c;dsimp only at c;obtain⟨aw,ah⟩:=Y2 c am;clear d y hw c am aj aa;go_upto_region 8 with(fail);have ad:w.heap.size+1≤N.heap.size:=by have:=k.o.fr.size;have:=aZ.o;omega
     have af:([]:List YFv).length≤1000000:=by have:=k.o.len;omega
     have W:=ao.o;have aD:4*z.length+2≤L:=by have:=aH.o;have:=au.o;have:=ah.o;simp only[Zg]at*;omega
     cases hy:Hm L s z with
     |error n=>
      have c:=aw.o;rw[hy]at c;dsimp only at c;subst c;refine Zo (Q:=Exit.then (Met (RY8 p j w.heap.size (w.heap.size+1) s none 0 ([]:List YFv) (.slice E r.length F) ⟨[],[],[],[]⟩ z [] (some n) N _ _ _ _ _ _ _ _ _ _ _ _ _ _ _ _ _ _ _ _ _ _ _ _ _ _ _ _ _ _ _ _ _ _)) _) (cN p j w.heap.size (w.heap.size+1) s none 0 ([]:List YFv) (.slice E r.length F) ⟨[],[],[],[]⟩ z [] (some n) N k.o.par k.o.o k.o.rf W Y ad af (fun R D=>by have m:=Sh L s z R p j aD D;rw[hy]at m;exact m.mono (fun e w2 I=>⟨I.2,I.1⟩)) (fun e C w'=> ∃M,e=.panic [{v:=.iface 110 (.agg #[ι M]),recovered:=false}]∧n=M∧C.defers=[]∧AFr p w.heap.size (w.heap.size+1) N w') (fun M C w' A ae d=>by injection A with A;exact⟨M,rfl,A,ae,d⟩) (fun _ _ q=>q) (fun _ _ q=>q)) ?_;intro e C w' J
      cases e with
      |normal=>
       obtain⟨_,_,_,_,_,_,aT,ab,aq,⟨_,y,_⟩,_⟩:=(show RY8 p j w.heap.size (w.heap.size+1) s none 0 ([]:List YFv) (.slice E r.length F) ⟨[],[],[],[]⟩ z [] (some n) N _ _ _ _ _ _ _ _ _ _ _ _ _ _ _ _ _ _ _ _ _ _ _ _ _ _ _ _ _ _ _ _ _ _ C w' from J);exact y.ends.elim
      |panic ch=>
       obtain⟨aS,h,rfl,ae,d⟩:=J;injection h with h
       subst h;exact⟨ae,ai.o _ (k.o.fr.trans d),rfl⟩
      |_=>
       obtain⟨aS,h,_⟩:=J
       cases h
     |ok q=>
      obtain⟨x,U⟩:=q;have c:=aw.o;rw[hy]at c;dsimp only at c;have be:=Za c;have aA:=Mn hy;have bM:=Za aA;refine Zo (Q:=Exit.then (Met (RY8 p j w.heap.size (w.heap.size+1) s none 0 ([]:List YFv) (.slice E r.length F) x z U none N _ _ _ _ _ _ _ _ _ _ _ _ _ _ _ _ _ _ _ _ _ _ _ _ _ _ _ _ _ _ _ _ _ _)) (fun _ _ _=>False)) (cN p j w.heap.size (w.heap.size+1) s none 0 ([]:List YFv) (.slice E r.length F) x z U none N k.o.par k.o.o k.o.rf W Y ad af (fun R D=>by have m:=Sh L s z R p j aD D;rw[hy]at m;exact m.mono (fun e w2 I=>by obtain⟨d,v,rfl,y,pv,lv,aM,rfl,bl,bm,bn⟩:=I;exact⟨pv,lv,aM,rfl,d,y,bl,bm,bn⟩)) (fun _ _ _=>False) (fun M C w' A=>by cases A) (fun _ _ q=>q) (fun _ _ q=>q)) ?_;intro e C an J
      cases e with
      |normal=>
       obtain⟨aU,aV,aR,l2,aK,aL,aT,ab,aq,⟨D,m,X,P,ac,aN⟩,rfl⟩:=(show RY8 p j w.heap.size (w.heap.size+1) s none 0 ([]:List YFv) (.slice E r.length F) x z U none N _ _ _ _ _ _ _ _ _ _ _ _ _ _ _ _ _ _ _ _ _ _ _ _ _ _ _ _ _ _ _ _ _ _ C an from J);have O:(([]:List YFv)++[(⟨x,.slice aU x.params.length aV,.slice aR x.locals.length l2,.slice aK x.body.length aL⟩:YFv)]).length=([]:List YFv).length+1:=by simp
       have aP:=k.o.ra.gr aN (fun g e c=>k.o.ap g e c);have aI:Zm (PgI az p j w.heap.size (w.heap.size+1) f ay L E F r (some ⟨ab,0,none⟩) aq (([]:List YFv)++[(⟨x,.slice aU x.params.length aV,.slice aR x.locals.length l2,.slice aK x.body.length aL⟩:YFv)]) U an):=by
        refine⟨k.o.fr.trans D,m,?_,aP,?_,?_,?_,?_,?_,Nat.le_of_succ_le bc.o,?_⟩
        ·rw[O];exact X
        ·rw[O];exact P
        ·intro g e c
         rw[O]at c;have c:ab=g:=by injection c
         subst c;rcases ac with ac|ac
         ·exact k.o.ap _ e ac
         ·have:=(k.o.ra.lt _ e).2;omega
        ·intro e
         exact absurd e (by simp)
        ·have:=k.o.len
         rw[O];omega
        ·have:=aH.o;have:=au.o;have:=ah.o;simp only[Zg]at*;omega
        ·rw[List.map_append];exact be.o
       have aB:Dz p an<Dz p wr:=by
        rw[aI.o.par.len,bd.o];have:=au.o;have:=ah.o;simp only[Zg]at*;omega
       have aJ:=Za aB;clear J D m X P ac aN O aP hy c aA ad af W aB aD;go_wp2;go_roundw
       case rel=>exact⟨L,_,_,_,_,_,_,U,aI⟩
       case measure=>exact aJ.o
      |_=>exact False.elim J
   ·have cd:¬H.length=0:=fun e=>hz (List.length_eq_zero_iff.1 e)
    have cb:((H.length:Int)==0)=false:=by simp [hz]
    have cc:¬(H.length:Int)=0:=by omega
    have c:=bf.o;rw[if_neg (by rw[List.isEmpty_iff,List.map_eq_nil_iff];exact hz)]at c;dsimp only at c;have av:=Za c;have K:=ax;obtain⟨G,bT⟩:∃G,G=bp:=⟨_,rfl⟩;subst bT;clear c hz;have S:Zk G.heap.size G (G.alloc (.cells #[.string ⟨#[40]⟩] 9)):=bA;obtain⟨aa,aj⟩:=Y2 (K.o.old S) (Dn p j (u::T) [40] (K.o.old S).par G.heap.size 1 ((Zd G [.string ⟨#[40]⟩] 9).at 0 _ rfl));clear S;go_wp2_with fail;refine aj.o.mono ?_;intro e N h
    cases hw:An [40] (u::T)with
    |error n=>
     rw[hw]at h;obtain⟨d,rfl⟩:=h;have c:=av.o;rw[hw]at c;dsimp only at c;subst c;have Z:=Za (ai.o _ (aa.o.fr.trans (AFr.of_sfr d)));clear hw d;unfold Bv;go_wp2;exact⟨rfl,Z.o,rfl⟩
    |ok z=>
    rw[hw]at h;obtain⟨d,rfl,y⟩:=h;have am:=Bp hw;have k:=Za (aa.o.next ao.o Y d y (Ze am));have c:=av.o;rw[hw]at c;dsimp only at c;obtain⟨aw,ah⟩:=Y2 c am;clear d y hw c am aj aa;go_upto_region 8 with(fail);have ad:w.heap.size+1≤N.heap.size:=by have:=k.o.fr.size;have:=aZ.o;omega
    have af:H.length≤1000000:=by have:=k.o.len;omega
    have W:=ao.o;have aD:4*z.length+2≤L:=by have:=aH.o;have:=au.o;have:=ah.o;simp only[Zg]at*;omega
    cases hy:Hm L s z with
    |error n=>
     have c:=aw.o;rw[hy]at c;dsimp only at c;subst c;refine Zo (Q:=Exit.then (Met (RY8 p j w.heap.size (w.heap.size+1) s ak al H (.slice E r.length F) ⟨[],[],[],[]⟩ z [] (some n) N _ _ _ _ _ _ _ _ _ _ _ _ _ _ _ _ _ _ _ _ _ _ _ _ _ _ _ _ _ _ _ _ _ _)) _) (cN p j w.heap.size (w.heap.size+1) s ak al H (.slice E r.length F) ⟨[],[],[],[]⟩ z [] (some n) N k.o.par k.o.o k.o.rf W Y ad af (fun R D=>by have m:=Sh L s z R p j aD D;rw[hy]at m;exact m.mono (fun e w2 I=>⟨I.2,I.1⟩)) (fun e C w'=> ∃M,e=.panic [{v:=.iface 110 (.agg #[ι M]),recovered:=false}]∧n=M∧C.defers=[]∧AFr p w.heap.size (w.heap.size+1) N w') (fun M C w' A ae d=>by injection A with A;exact⟨M,rfl,A,ae,d⟩) (fun _ _ q=>q) (fun _ _ q=>q)) ?_;intro e C w' J
     cases e with
     |normal=>
      obtain⟨_,_,_,_,_,_,aT,ab,aq,⟨_,y,_⟩,_⟩:=(show RY8 p j w.heap.size (w.heap.size+1) s ak al H (.slice E r.length F) ⟨[],[],[],[]⟩ z [] (some n) N _ _ _ _ _ _ _ _ _ _ _ _ _ _ _ _ _ _ _ _ _ _ _ _ _ _ _ _ _ _ _ _ _ _ C w' from J);exact y.ends.elim
     |panic ch=>
      obtain⟨aS,h,rfl,ae,d⟩:=J;injection h with h
      subst h;exact⟨ae,ai.o _ (k.o.fr.trans d),rfl⟩
     |_=>
      obtain⟨aS,h,_⟩:=J
      cases h
    |ok q=>
     obtain⟨x,U⟩:=q;have c:=aw.o;rw[hy]at c;dsimp only at c;have be:=Za c;have aA:=Mn hy;have bM:=Za aA;refine Zo (Q:=Exit.then (Met (RY8 p j w.heap.size (w.heap.size+1) s ak al H (.slice E r.length F) x z U none N _ _ _ _ _ _ _ _ _ _ _ _ _ _ _ _ _ _ _ _ _ _ _ _ _ _ _ _ _ _ _ _ _ _)) (fun _ _ _=>False)) (cN p j w.heap.size (w.heap.size+1) s ak al H (.slice E r.length F) x z U none N k.o.par k.o.o k.o.rf W Y ad af (fun R D=>by have m:=Sh L s z R p j aD D;rw[hy]at m;exact m.mono (fun e w2 I=>by obtain⟨d,v,rfl,y,pv,lv,aM,rfl,bl,bm,bn⟩:=I;exact⟨pv,lv,aM,rfl,d,y,bl,bm,bn⟩)) (fun _ _ _=>False) (fun M C w' A=>by cases A) (fun _ _ q=>q) (fun _ _ q=>q)) ?_;intro e C an J
     cases e with
     |normal=>
      obtain⟨aU,aV,aR,l2,aK,aL,aT,ab,aq,⟨D,m,X,P,ac,aN⟩,rfl⟩:=(show RY8 p j w.heap.size (w.heap.size+1) s ak al H (.slice E r.length F) x z U none N _ _ _ _ _ _ _ _ _ _ _ _ _ _ _ _ _ _ _ _ _ _ _ _ _ _ _ _ _ _ _ _ _ _ C an from J);have O:(H++[(⟨x,.slice aU x.params.length aV,.slice aR x.locals.length l2,.slice aK x.body.length aL⟩:YFv)]).length=H.length+1:=by simp
      have aP:=k.o.ra.gr aN (fun g e c=>k.o.ap g e c);have aI:Zm (PgI az p j w.heap.size (w.heap.size+1) f ay L E F r (some ⟨ab,0,none⟩) aq (H++[(⟨x,.slice aU x.params.length aV,.slice aR x.locals.length l2,.slice aK x.body.length aL⟩:YFv)]) U an):=by
       refine⟨k.o.fr.trans D,m,?_,aP,?_,?_,?_,?_,?_,Nat.le_of_succ_le bc.o,?_⟩
       ·rw[O];exact X
       ·rw[O];exact P
       ·intro g e c
        rw[O]at c;have c:ab=g:=by injection c
        subst c;rcases ac with ac|ac
        ·exact k.o.ap _ e ac
        ·have:=(k.o.ra.lt _ e).2;omega
       ·intro e
        exact absurd e (by simp)
       ·have:=k.o.len
        rw[O];omega
       ·have:=aH.o;have:=au.o;have:=ah.o;simp only[Zg]at*;omega
       ·rw[List.map_append];exact be.o
      have aB:Dz p an<Dz p wr:=by
       rw[aI.o.par.len,bd.o];have:=au.o;have:=ah.o;simp only[Zg]at*;omega
      have aJ:=Za aB;clear J D m X P ac aN O aP hy c aA ad af W aB aD;go_wp2;go_roundw
      case rel=>exact⟨L,_,_,_,_,_,_,U,aI⟩
      case measure=>exact aJ.o
     |_=>exact False.elim J
section
variable {P:Program} {Q:Exit→Act→List Frame→Zi→Prop} {a:Act} {cs:List Frame} {w:Zi}
def Wz(P:Program)(Q:Exit→Act→List Frame→Zi→Prop):List Oper→Act→List Frame→Zi→Prop
 |[],a,cs,w=>Q .normal a cs w
 |o::rest,a,cs,w=>o.guard=none∧match(execOp a.eval o).run P w with
  |.ok .recover w'=>(match recoverD cs with
   |some (v,cs')=>Wz P Q rest (a.put o.dst v) cs' w'
   |none=>Wz P Q rest (a.put o.dst .nilIface) cs w')
  |r=>o.upon P a (fun b w'=>Wz P Q rest b cs w') (fun e b w'=>Q e b cs w') r
theorem oE {i:Oper}{a:Act}{f g:Act→Zi→Prop}{h:Exit→Act→Zi→Prop}(d:∀a w,f a w→g a w){j:Result Next}(b:i.upon P a f h j):i.upon P a g h j:=by
 unfold Oper.upon at b ⊢;split at b
 ·exact d _ _ b
 ·exact d _ _ b
 ·exact d _ _ b
 ·refine Calls.mono b ?_
  intro e w' q
  cases e with
  |returned v=>exact d _ _ q
  |panicked c=>exact q
  |outgrown=>exact q
 ·exact Rows.mono b (fun v w' q=>d _ _ q)
 ·exact b
 ·exact b
theorem aX {ops:Array Oper}:∀(n k:Nat),k+n=ops.size→∀(a:Act) (c:List Frame) (w:Zi),Wz P Q (ops.toList.drop k) a c w→wpOpsS P ops Q (List.range' k n) a c w
 |0,k,hk,a,c,w,b=>by
  rw[List.drop_of_length_le (by rw[Array.length_toList];omega)]at b;exact b
 |n+1,k,hk,a,c,w,b=>by
  have g:k<ops.toList.length:=by rw[Array.length_toList];omega
  rw[List.drop_eq_getElem_cons g]at b;obtain⟨h,b⟩:=b;have j:ops[k]? =some (ops.toList[k]):=by rw[←Array.getElem?_toList,Zh g]
  have f:=aX (ops:=ops) n (k+1) (by omega);rw[List.range'_succ,wpOpsS,j];simp only[Region.wanted,h,if_true];split at b
  ·rename_i w' e
   rw[e];dsimp only;split at b
   ·rename_i v cs' d
    rw[d];exact f _ _ _ b
   ·rename_i d
    rw[d];exact f _ _ _ b
  ·rename_i l i
   split
   ·rename_i w' e
    exact absurd e (i w')
   ·exact oE (fun a w q=>f _ _ _ q) b
theorem Qw {id:Nat}{ops:Array Oper}{l:List Oper}(c:ops.toList=l)(b:Wz P Q l a cs w):(Code.region id ops false).wpS P Q a cs w:=by
 apply wpS_region
 rw[List.range_eq_range'];exact aX ops.size 0 (by omega) a cs w (by rw[List.drop_zero,c];exact b)
theorem Va {c:Oper}{rest:List Oper}(h:c.guard=none)(g:∀d:Act→Zi→Prop,(∀a w,Wz P Q rest a cs w→d a w)→c.wp P a w d (fun e f w'=>Q e f cs w')):Wz P Q (c::rest) a cs w:=by
 refine⟨h,?_⟩;have b:=g _ (fun _ _ q=>q);unfold Oper.wp at b;split
 ·rename_i w' i
  rw[i]at b;exact b.elim
 ·exact b
theorem nC {b:Oper}{rest:List Oper}(e:b.guard=none)(f:(execOp a.eval b).run P w=.ok .recover w){v:Value}{cs':List Frame}(d:recoverD cs=some (v,cs'))(c:Wz P Q rest (a.put b.dst v) cs' w):Wz P Q (b::rest) a cs w:=by
 refine⟨e,?_⟩;rw[f];dsimp only;rw[d];exact c
theorem mV {b:Oper}{rest:List Oper}(e:b.guard=none)(f:(execOp a.eval b).run P w=.ok .recover w)(d:recoverD cs=none)(c:Wz P Q rest (a.put b.dst .nilIface) cs w):Wz P Q (b::rest) a cs w:=by
 refine⟨e,?_⟩;rw[f];dsimp only;rw[d];exact c
end
@[go_sem] theorem assert_nil (w:Zi):(Instr.typeAssert .nilIface 20 110 true).run Zc w=.ok (.tuple #[.agg #[.int .i64 0],.bool false]) w:=by kernel_rfl
@[go_sem] theorem assert_wrong (v:Value) (w:Zi):(Instr.typeAssert (.iface 110 v) 20 110 true).run Zc w=.ok (.tuple #[v,.bool true]) w:=by kernel_rfl
def Mq(n:Int):Value:=.iface 110 (.agg #[.int .i64 n])
structure VCE (b0 b1 b2 T0 T1 B:Nat)(n x1 x2:Int)(a0 a1 a2 a3 a4:Value)(W:Zi)(L:Nat→Bool)(z12 z13 z14:Value)(wx:Zi):Prop where
 ord:L 5=true→∀j,j<5→L j=true
 p4_3:L 4=true→L 3=true
 c0:L 0=true→z12=.agg #[.int .i64 0,.int .i64 0,.int .i64 0,.string ⟨#[]⟩,.slice none 0 0]
 c1:L 1=true→z13=.pointer (some ⟨T0,0,none⟩)
 c2:L 2=true→z14=.int .i64 n
 fr:Zk B W wx
 o0:L 3=false→Ad wx b0 [a0,a1,a2,a3,a4] 35
 o0t:L 3=true→Ad wx b0 [.int .i64 0,.int .i64 0,.int .i64 0,.string ⟨#[]⟩,.slice none 0 0] 35
 o1:L 4=false→Ad wx b1 [.int .i64 x1] 24
 o1t:L 4=true→Ad wx b1 [.int .i64 40] 24
 o2:L 5=false→Ad wx b2 [.int .i64 x2] 3
 o2t:L 5=true→Ad wx b2 [.int .i64 n] 3
 wr:Ad wx T0 [.int .i64 n] 110
 nn:Ad wx T1 [.int .i64 0,.int .i64 0,.int .i64 0,.string ⟨#[]⟩,.slice none 0 0] 35
def ICE(c d e a b B:Nat)(n x y:Int)(k l m o p:Value)(i:Zi)(s t u v w q r:Value)(L:Nat→Bool)(j:Act)(w':Zi):Prop:=
 ∃f g h:Value,VCE c d e a b B n x y k l m o p i L f g h w'∧j=⟨[.pointer (some ⟨c,0,none⟩),.pointer (some ⟨d,0,none⟩),.pointer (some ⟨e,0,none⟩),.pointer (some ⟨a,0,none⟩),s,.pointer (some ⟨b,0,none⟩),t,u,v,w,q,r,f,g,h].toArray,[]⟩
def RCE(b c d a e B:Nat)(n u v:Int)(p q r s t:Value)(f:Zi)(j k l m o h i:Value)(g:Act)(w':Zi):Prop:=
 (Zk B f w'∧Ad w' b [.int .i64 0,.int .i64 0,.int .i64 0,.string ⟨#[]⟩,.slice none 0 0] 35∧Ad w' c [.int .i64 40] 24∧Ad w' d [.int .i64 n] 3)∧g=⟨[.pointer (some ⟨b,0,none⟩),.pointer (some ⟨c,0,none⟩),.pointer (some ⟨d,0,none⟩),.pointer (some ⟨a,0,none⟩),j,.pointer (some ⟨e,0,none⟩),k,l,m,o,h,i,.agg #[.int .i64 0,.int .i64 0,.int .i64 0,.string ⟨#[]⟩,.slice none 0 0],.pointer (some ⟨a,0,none⟩),.int .i64 n].toArray,[]⟩
theorem reg_CE(e q r l v B:Nat)(n D E:Int)(F G H I J:Value){m:Zi}(d:Ad m e [F,G,H,I,J] 35)(W:Ad m q [.int .i64 D] 24)(X:Ad m r [.int .i64 E] 3)(u:Ad m l [.int .i64 n] 110)(f:Ad m v [.int .i64 0,.int .i64 0,.int .i64 0,.string ⟨#[]⟩,.slice none 0 0] 35)(aq:e<q)(ar:q<r)(au:r<l)(aw:l<v)(av:B≤e){Q R S T U O P Y Z aa:Value}{V i:Act→Zi→Prop}(hJ:∀w w',RCE e q r l v B n D E F G H I J m Q R S T U O P w w'→V w w')(hM:∀w w',Met V w w'→i w w'):
  Code.wp Zc ((Tryz.f77.body.bind (La 3)).getD .skip) (Exit.then i (fun _ _ _=>False)) ⟨[.pointer (some ⟨e,0,none⟩),.pointer (some ⟨q,0,none⟩),.pointer (some ⟨r,0,none⟩),.pointer (some ⟨l,0,none⟩),Q,.pointer (some ⟨v,0,none⟩),R,S,T,U,O,P,Y,Z,aa].toArray,[]⟩ m:=by
 obtain⟨ae,af,ag,ai,ah⟩:=Y5 d W X u f;clear d W X u f
 conv=>arg 2;whnf
 (try dsimp only);refine Fv (by kernel_rfl) (by kernel_rfl) (ICE e q r l v B n D E F G H I J m Q R S T U O P) ?_ ?_ ?_
 ·exact⟨Y,Z,aa,⟨(fun b=>by cases b),(fun b=>by cases b),(fun b=>by cases b),(fun b=>by cases b),(fun b=>by cases b),((Zf _ _).drew),(fun _=>ae.o.old (Zf _ _).drew),(fun b=>by cases b),(fun _=>af.o.old (Zf _ _).drew),(fun b=>by cases b),(fun _=>ag.o.old (Zf _ _).drew),(fun b=>by cases b),(ai.o.old (Zf _ _).drew),(ah.o.old (Zf _ _).drew)⟩,rfl⟩
 ·intro L aj ao k M N s h
  obtain⟨y,z,A,a,rfl⟩:=M;have N:k=0∨k=1∨k=2∨k=3∨k=4∨k=5:=by
   have:k<6:=N;omega
  rcases N with rfl|rfl|rfl|rfl|rfl|rfl
  ·have g:=kf a.ord s
   have f:=a.nn;have ax:=f.at 0 _ rfl;have aC:=f.fz 0;have ay:=f.at 1 _ rfl;have aD:=f.fz 1;have az:=f.at 2 _ rfl;have aE:=f.fz 2;have aA:=f.at 3 _ rfl;have aF:=f.fz 3;have aB:=f.at 4 _ rfl;have aG:=f.fz 4;have aH:=f.lt;refine Bh rfl rfl (fun i x=>?_)
   conv=>arg 2;whnf
   go_wp2;exact⟨.agg #[ι 0,ι 0,ι 0,ε,ν],z,A,⟨kl g,kq a.p4_3,(fun _=>rfl),kc a.c1,kc a.c2,a.fr,(fun d=>a.o0 (kb d)),kc a.o0t,(fun d=>a.o1 (kb d)),kc a.o1t,(fun d=>a.o2 (kb d)),kl g,a.wr,a.nn⟩,rfl⟩
  ·have g:=kf a.ord s
   refine Bh rfl rfl (fun i x=>?_)
   conv=>arg 2;whnf
   go_wp2;exact⟨y,π l,A,⟨kl g,kq a.p4_3,kc a.c0,(fun _=>rfl),kc a.c2,a.fr,(fun d=>a.o0 (kb d)),kc a.o0t,(fun d=>a.o1 (kb d)),kc a.o1t,(fun d=>a.o2 (kb d)),kl g,a.wr,a.nn⟩,rfl⟩
  ·have g:=kf a.ord s
   have al:L 1=true:=h _ rfl ⟨1,.data⟩ (by simp) rfl;obtain rfl:=(a.c1 al).symm;have u:=a.wr;have aI:=u.at 0 _ rfl;have aJ:=u.fz 0;have aK:=u.lt;refine Bh rfl rfl (fun i x=>?_)
   conv=>arg 2;whnf
   go_wp2;exact⟨y,π l,ι n,⟨kl g,kq a.p4_3,kc a.c0,kc a.c1,(fun _=>rfl),a.fr,(fun d=>a.o0 (kb d)),kc a.o0t,(fun d=>a.o1 (kb d)),kc a.o1t,(fun d=>a.o2 (kb d)),kl g,a.wr,a.nn⟩,rfl⟩
  ·have g:=kf a.ord s
   have ak:L 0=true:=h _ rfl ⟨0,.data⟩ (by simp) rfl;obtain rfl:=(a.c0 ak).symm;have c:=a.o0 s;have ab:=c.at 0 _ rfl;have ac:=c.fz 0;have D:=c.at 1 _ rfl;have aN:=c.fz 1;have E:=c.at 2 _ rfl;have aO:=c.fz 2;have aL:=c.at 3 _ rfl;have aP:=c.fz 3;have aM:=c.at 4 _ rfl;have aQ:=c.fz 4;have ad:=c.lt;refine Bh rfl rfl (fun i x=>?_)
   conv=>arg 2;whnf
   go_wp2;exact⟨.agg #[ι 0,ι 0,ι 0,ε,ν],z,A,⟨kl g,(fun _=>Bo L 3),kc a.c0,kc a.c1,kc a.c2,(((((a.fr.setCell (p:=⟨e,0,none⟩) (show B≤e by omega) _).setCell (p:=⟨e,1,none⟩) (show B≤e by omega) _).setCell (p:=⟨e,2,none⟩) (show B≤e by omega) _).setCell (p:=⟨e,3,none⟩) (show B≤e by omega) _).setCell (p:=⟨e,4,none⟩) (show B≤e by omega) _),(ks),(fun _=>(((((c.set 0 (ι 0)).set 1 (ι 0)).set 2 (ι 0)).set 3 (ε)).set 4 (ν))),(fun b=>((((((a.o1 (kb b)).other (by omega) _ _).other (by omega) _ _).other (by omega) _ _).other (by omega) _ _).other (by omega) _ _)),(fun b=>((((((a.o1t (kb b)).other (by omega) _ _).other (by omega) _ _).other (by omega) _ _).other (by omega) _ _).other (by omega) _ _)),(fun b=>((((((a.o2 (kb b)).other (by omega) _ _).other (by omega) _ _).other (by omega) _ _).other (by omega) _ _).other (by omega) _ _)),kl g,(((((a.wr.other (by omega) _ _).other (by omega) _ _).other (by omega) _ _).other (by omega) _ _).other (by omega) _ _),(((((a.nn.other (by omega) _ _).other (by omega) _ _).other (by omega) _ _).other (by omega) _ _).other (by omega) _ _)⟩,rfl⟩
  ·have g:=kf a.ord s
   have an:L 3=true:=h _ rfl ⟨3,.chain⟩ (by simp) rfl;have c:=a.o1 s;have ab:=c.at 0 _ rfl;have ac:=c.fz 0;have ad:=c.lt;refine Bh rfl rfl (fun i x=>?_)
   conv=>arg 2;whnf
   go_wp2;exact⟨y,z,A,⟨kl g,(kd (an)),kc a.c0,kc a.c1,kc a.c2,(a.fr.setCell (p:=⟨q,0,none⟩) (show B≤q by omega) _),(fun b=>((a.o0 (kb b)).other (by omega) _ _)),(fun b=>((a.o0t (kb b)).other (by omega) _ _)),(ks),(fun _=>c.set 0 (ι 40)),(fun b=>((a.o2 (kb b)).other (by omega) _ _)),kl g,(a.wr.other (by omega) _ _),(a.nn.other (by omega) _ _)⟩,rfl⟩
  ·have K:∀j,j<5→L j=true:=fun j C=>by
    have C:j=0∨j=1∨j=2∨j=3∨j=4:=by omega
    rcases C with rfl|rfl|rfl|rfl|rfl
    ·exact h _ rfl ⟨0,.phase⟩ (by simp) rfl
    ·exact h _ rfl ⟨1,.phase⟩ (by simp) rfl
    ·exact h _ rfl ⟨2,.data⟩ (by simp) rfl
    ·exact h _ rfl ⟨3,.phase⟩ (by simp) rfl
    ·exact h _ rfl ⟨4,.chain⟩ (by simp) rfl
   have am:L 2=true:=h _ rfl ⟨2,.data⟩ (by simp) rfl;obtain rfl:=(a.c2 am).symm;have ap:L 4=true:=h _ rfl ⟨4,.chain⟩ (by simp) rfl;have c:=a.o2 s;have ab:=c.at 0 _ rfl;have ac:=c.fz 0;have ad:=c.lt;refine Bh rfl rfl (fun i x=>?_)
   conv=>arg 2;whnf
   go_wp2;exact⟨y,z,ι n,⟨(fun _ j C=>by rw[Ay L (show j≠5 by omega)];exact K j C),kq a.p4_3,kc a.c0,kc a.c1,kc a.c2,(a.fr.setCell (p:=⟨r,0,none⟩) (show B≤r by omega) _),(fun b=>by rw[Ay L (by decide),K 3 (by decide)]at b;cases b),(fun b=>((a.o0t (kb b)).other (by omega) _ _)),(fun b=>by rw[Ay L (by decide),K 4 (by decide)]at b;cases b),(fun b=>((a.o1t (kb b)).other (by omega) _ _)),(ks),(fun _=>c.set 0 (ι n)),(a.wr.other (by omega) _ _),(a.nn.other (by omega) _ _)⟩,rfl⟩
 ·intro L aj ao M t
  obtain⟨y,z,A,a,rfl⟩:=M;obtain rfl:=(a.c0 (t 0 (by decide))).symm;obtain rfl:=(a.c1 (t 1 (by decide))).symm;obtain rfl:=(a.c2 (t 2 (by decide))).symm;exact hM _ _ (Met.intro (hJ _ _ ⟨⟨a.fr,a.o0t (t 3 (by decide)),a.o1t (t 4 (by decide)),a.o2t (t 5 (by decide))⟩,rfl⟩))
theorem fU(a b d:Nat)(w:Zi):
  CallsD Zc 77 #[.pointer (some ⟨a,0,none⟩),.pointer (some ⟨b,0,none⟩),.pointer (some ⟨d,0,none⟩)] .returning w fun e g w'=>e=.returned (.tuple #[])∧g=.returning∧Zk w.heap.size w w':=by
 refine callsD_of_wpS func77 rfl fun c₀ cs hu=>?_
 have f:(#[Value.pointer (some ⟨a,0,none⟩),π b,π d]++Array.replicate (Tryz.f77.ntmps-(#[Value.pointer (some ⟨a,0,none⟩),π b,π d]:Array Value).size) Zj)= #[π a,π b,π d,Zj,Zj,Zj,Zj,Zj,Zj,Zj,Zj,Zj,Zj,Zj,Zj]:=by
  rw[ntmps77];rfl
 rw[f];clear f;apply wpS_seq
 refine Qw rfl ?_;refine mV rfl ?hr ?hc ?hh
 case hc=>simp only[recoverD,hu]
 case hr=>simp [go_sem]
 case hh=>
 iterate 7
  refine Va rfl (fun h i=>?_);go_wp2_with fail
 show Code.wpS _ _ _ _ _ _
 refine wpS_of_wp ?_;go_wp2_with fail;refine⟨rfl,.returning,by cases c₀;cases hu;rfl,.tuple #[],by simp [results,results77],rfl,rfl,bA⟩
theorem Qt(a b d:Nat)(n l m:Int)(f g h i j:Value)(p:List PanicEntry)(B:Nat)(w:Zi)(s:Ad w a [f,g,h,i,j] 35)(t:Ad w b [.int .i64 l] 24)(u:Ad w d [.int .i64 m] 3)(I:a<b)(J:b<d)(K:B≤a):
  CallsD Zc 77 #[.pointer (some ⟨a,0,none⟩),.pointer (some ⟨b,0,none⟩),.pointer (some ⟨d,0,none⟩)] (.panicking ({v:=Mq n,recovered:=false}::p)) w fun e N w'=>e=.returned (.tuple #[])∧N=.panicking ({v:=Mq n,recovered:=true}::p)∧Zk B w w'∧
   Ad w' a [.int .i64 0,.int .i64 0,.int .i64 0,.string ⟨#[]⟩,.slice none 0 0] 35∧Ad w' b [.int .i64 40] 24∧Ad w' d [.int .i64 n] 3:=by
 refine callsD_of_wpS func77 rfl fun c₀ cs hu=>?_
 have x:(#[Value.pointer (some ⟨a,0,none⟩),π b,π d]++Array.replicate (Tryz.f77.ntmps-(#[Value.pointer (some ⟨a,0,none⟩),π b,π d]:Array Value).size) Zj)= #[π a,π b,π d,Zj,Zj,Zj,Zj,Zj,Zj,Zj,Zj,Zj,Zj,Zj,Zj]:=by
  rw[ntmps77];rfl
 rw[x];clear x;apply wpS_seq
 refine Qw rfl ?_;refine nC rfl ?hr (v:=Mq n) (cs':= {c₀ with mode:=.panicking ({v:=Mq n,recovered:=true}::p)}::cs) ?hc ?hh
 case hc=>simp only[recoverD,hu]
 case hr=>simp [go_sem]
 case hh=>
 unfold Mq at*;obtain⟨A,C,r⟩:=Y3 s t u;clear hu s t u
 iterate 7
  refine Va rfl (fun O P=>?_);go_wp2_with fail
 show Code.wpS _ _ _ _ _ _
 refine wpS_of_wp ?_;go_upto_region 3 with(fail);have k:Zk w.heap.size w ((w.alloc (.cells #[ι n] 110)).alloc (ζ)):=(bA).alloc (by simp) _;have M:=(Zd w [ι n] 110).alloc (ζ);have y:=Zd (w.alloc (.cells #[ι n] 110)) η 35;rw[show(w.alloc (.cells #[ι n] 110)).heap.size=w.heap.size+1 by simp]at y;have L:=r.o.lt;refine Zo (Q:=Exit.then (Met (RCE a b d w.heap.size (w.heap.size+1) B n l m f g h i j _ _ _ _ _ _ _ _)) (fun _ _ _=>False)) (reg_CE a b d w.heap.size (w.heap.size+1) B n l m f g h i j (A.o.old k) (C.o.old k) (r.o.old k) M y I J L (Nat.lt_succ_self _) K (fun _ _ q=>q) (fun _ _ q=>q)) ?_;intro e D w' z
 cases e with
 |normal=>
  obtain⟨⟨E,F,G,H⟩,rfl⟩:=(show RCE a b d w.heap.size (w.heap.size+1) B n l m f g h i j _ _ _ _ _ _ _ _ D w' from z);exact⟨rfl,_,rfl,.tuple #[],by simp [results,results77],rfl,rfl,(k.mono (by omega)).trans E,F,G,H⟩
 |_=>exact False.elim z
structure VCP (b0 b1 b2 T0 T1 B:Nat)(n x1 x2:Int)(a0 a1:Value)(W:Zi)(L:Nat→Bool)(z12 z13 z14:Value)(wx:Zi):Prop where
 ord:L 5=true→∀j,j<5→L j=true
 p4_3:L 4=true→L 3=true
 c0:L 0=true→z12=.agg #[.slice none 0 0,.slice none 0 0]
 c1:L 1=true→z13=.pointer (some ⟨T0,0,none⟩)
 c2:L 2=true→z14=.int .i64 n
 fr:Zk B W wx
 o0:L 3=false→Ad wx b0 [a0,a1] 30
 o0t:L 3=true→Ad wx b0 [.slice none 0 0,.slice none 0 0] 30
 o1:L 4=false→Ad wx b1 [.int .i64 x1] 24
 o1t:L 4=true→Ad wx b1 [.int .i64 40] 24
 o2:L 5=false→Ad wx b2 [.int .i64 x2] 3
 o2t:L 5=true→Ad wx b2 [.int .i64 n] 3
 wr:Ad wx T0 [.int .i64 n] 110
 nn:Ad wx T1 [.slice none 0 0,.slice none 0 0] 30
def ICP(c d e a b B:Nat)(n u v:Int)(k l:Value)(i:Zi)(p q r s t m o:Value)(L:Nat→Bool)(j:Act)(w':Zi):Prop:=
 ∃f g h:Value,VCP c d e a b B n u v k l i L f g h w'∧j=⟨[.pointer (some ⟨c,0,none⟩),.pointer (some ⟨d,0,none⟩),.pointer (some ⟨e,0,none⟩),.pointer (some ⟨a,0,none⟩),p,.pointer (some ⟨b,0,none⟩),q,r,s,t,m,o,f,g,h].toArray,[]⟩
def RCP(b c d a e B:Nat)(n r s:Int)(p q:Value)(f:Zi)(j k l m o h i:Value)(g:Act)(w':Zi):Prop:=
 (Zk B f w'∧Ad w' b [.slice none 0 0,.slice none 0 0] 30∧Ad w' c [.int .i64 40] 24∧Ad w' d [.int .i64 n] 3)∧g=⟨[.pointer (some ⟨b,0,none⟩),.pointer (some ⟨c,0,none⟩),.pointer (some ⟨d,0,none⟩),.pointer (some ⟨a,0,none⟩),j,.pointer (some ⟨e,0,none⟩),k,l,m,o,h,i,.agg #[.slice none 0 0,.slice none 0 0],.pointer (some ⟨a,0,none⟩),.int .i64 n].toArray,[]⟩
theorem reg_CP(f m q i v B:Nat)(n D R:Int)(E F:Value){l:Zi}(c:Ad l f [E,F] 30)(T:Ad l m [.int .i64 D] 24)(U:Ad l q [.int .i64 R] 3)(u:Ad l i [.int .i64 n] 110)(s:Ad l v [.slice none 0 0,.slice none 0 0] 30)(an:f<m)(ao:m<q)(ap:q<i)(ar:i<v)(aq:B≤f){M N O P Q J K V W X:Value}{S h:Act→Zi→Prop}(hJ:∀w w',RCP f m q i v B n D R E F l M N O P Q J K w w'→S w w')(hM:∀w w',Met S w w'→h w w'):
  Code.wp Zc ((Tryz.f58.body.bind (La 3)).getD .skip) (Exit.then h (fun _ _ _=>False)) ⟨[.pointer (some ⟨f,0,none⟩),.pointer (some ⟨m,0,none⟩),.pointer (some ⟨q,0,none⟩),.pointer (some ⟨i,0,none⟩),M,.pointer (some ⟨v,0,none⟩),N,O,P,Q,J,K,V,W,X].toArray,[]⟩ l:=by
 obtain⟨ab,ac,ad,af,ae⟩:=Y5 c T U u s;clear c T U u s
 conv=>arg 2;whnf
 (try dsimp only);refine Fv (by kernel_rfl) (by kernel_rfl) (ICP f m q i v B n D R E F l M N O P Q J K) ?_ ?_ ?_
 ·exact⟨V,W,X,⟨(fun b=>by cases b),(fun b=>by cases b),(fun b=>by cases b),(fun b=>by cases b),(fun b=>by cases b),((Zf _ _).drew),(fun _=>ab.o.old (Zf _ _).drew),(fun b=>by cases b),(fun _=>ac.o.old (Zf _ _).drew),(fun b=>by cases b),(fun _=>ad.o.old (Zf _ _).drew),(fun b=>by cases b),(af.o.old (Zf _ _).drew),(ae.o.old (Zf _ _).drew)⟩,rfl⟩
 ·intro L ag al k H I r g
  obtain⟨y,z,A,a,rfl⟩:=H;have I:k=0∨k=1∨k=2∨k=3∨k=4∨k=5:=by
   have:k<6:=I;omega
  rcases I with rfl|rfl|rfl|rfl|rfl|rfl
  ·have e:=kf a.ord r
   have s:=a.nn;have au:=s.at 0 _ rfl;have aw:=s.fz 0;have av:=s.at 1 _ rfl;have ax:=s.fz 1;have ay:=s.lt;refine Bh rfl rfl (fun h x=>?_)
   conv=>arg 2;whnf
   go_wp2;exact⟨.agg #[ν,ν],z,A,⟨kl e,kq a.p4_3,(fun _=>rfl),kc a.c1,kc a.c2,a.fr,(fun c=>a.o0 (kb c)),kc a.o0t,(fun c=>a.o1 (kb c)),kc a.o1t,(fun c=>a.o2 (kb c)),kl e,a.wr,a.nn⟩,rfl⟩
  ·have e:=kf a.ord r
   refine Bh rfl rfl (fun h x=>?_)
   conv=>arg 2;whnf
   go_wp2;exact⟨y,π i,A,⟨kl e,kq a.p4_3,kc a.c0,(fun _=>rfl),kc a.c2,a.fr,(fun c=>a.o0 (kb c)),kc a.o0t,(fun c=>a.o1 (kb c)),kc a.o1t,(fun c=>a.o2 (kb c)),kl e,a.wr,a.nn⟩,rfl⟩
  ·have e:=kf a.ord r
   have ai:L 1=true:=g _ rfl ⟨1,.data⟩ (by simp) rfl;obtain rfl:=(a.c1 ai).symm;have u:=a.wr;have az:=u.at 0 _ rfl;have aA:=u.fz 0;have aB:=u.lt;refine Bh rfl rfl (fun h x=>?_)
   conv=>arg 2;whnf
   go_wp2;exact⟨y,π i,ι n,⟨kl e,kq a.p4_3,kc a.c0,kc a.c1,(fun _=>rfl),a.fr,(fun c=>a.o0 (kb c)),kc a.o0t,(fun c=>a.o1 (kb c)),kc a.o1t,(fun c=>a.o2 (kb c)),kl e,a.wr,a.nn⟩,rfl⟩
  ·have e:=kf a.ord r
   have ah:L 0=true:=g _ rfl ⟨0,.data⟩ (by simp) rfl;obtain rfl:=(a.c0 ah).symm;have d:=a.o0 r;have Y:=d.at 0 _ rfl;have Z:=d.fz 0;have D:=d.at 1 _ rfl;have aC:=d.fz 1;have aa:=d.lt;refine Bh rfl rfl (fun h x=>?_)
   conv=>arg 2;whnf
   go_wp2;exact⟨.agg #[ν,ν],z,A,⟨kl e,(fun _=>Bo L 3),kc a.c0,kc a.c1,kc a.c2,((a.fr.setCell (p:=⟨f,0,none⟩) (show B≤f by omega) _).setCell (p:=⟨f,1,none⟩) (show B≤f by omega) _),(ks),(fun _=>((d.set 0 (ν)).set 1 (ν))),(fun b=>(((a.o1 (kb b)).other (by omega) _ _).other (by omega) _ _)),(fun b=>(((a.o1t (kb b)).other (by omega) _ _).other (by omega) _ _)),(fun b=>(((a.o2 (kb b)).other (by omega) _ _).other (by omega) _ _)),kl e,((a.wr.other (by omega) _ _).other (by omega) _ _),((a.nn.other (by omega) _ _).other (by omega) _ _)⟩,rfl⟩
  ·have e:=kf a.ord r
   have ak:L 3=true:=g _ rfl ⟨3,.chain⟩ (by simp) rfl;have d:=a.o1 r;have Y:=d.at 0 _ rfl;have Z:=d.fz 0;have aa:=d.lt;refine Bh rfl rfl (fun h x=>?_)
   conv=>arg 2;whnf
   go_wp2;exact⟨y,z,A,⟨kl e,(kd (ak)),kc a.c0,kc a.c1,kc a.c2,(a.fr.setCell (p:=⟨m,0,none⟩) (show B≤m by omega) _),(fun b=>((a.o0 (kb b)).other (by omega) _ _)),(fun b=>((a.o0t (kb b)).other (by omega) _ _)),(ks),(fun _=>d.set 0 (ι 40)),(fun b=>((a.o2 (kb b)).other (by omega) _ _)),kl e,(a.wr.other (by omega) _ _),(a.nn.other (by omega) _ _)⟩,rfl⟩
  ·have G:∀j,j<5→L j=true:=fun j C=>by
    have C:j=0∨j=1∨j=2∨j=3∨j=4:=by omega
    rcases C with rfl|rfl|rfl|rfl|rfl
    ·exact g _ rfl ⟨0,.phase⟩ (by simp) rfl
    ·exact g _ rfl ⟨1,.phase⟩ (by simp) rfl
    ·exact g _ rfl ⟨2,.data⟩ (by simp) rfl
    ·exact g _ rfl ⟨3,.phase⟩ (by simp) rfl
    ·exact g _ rfl ⟨4,.chain⟩ (by simp) rfl
   have aj:L 2=true:=g _ rfl ⟨2,.data⟩ (by simp) rfl;obtain rfl:=(a.c2 aj).symm;have am:L 4=true:=g _ rfl ⟨4,.chain⟩ (by simp) rfl;have d:=a.o2 r;have Y:=d.at 0 _ rfl;have Z:=d.fz 0;have aa:=d.lt;refine Bh rfl rfl (fun h x=>?_)
   conv=>arg 2;whnf
   go_wp2;exact⟨y,z,ι n,⟨(fun _ j C=>by rw[Ay L (show j≠5 by omega)];exact G j C),kq a.p4_3,kc a.c0,kc a.c1,kc a.c2,(a.fr.setCell (p:=⟨q,0,none⟩) (show B≤q by omega) _),(fun b=>by rw[Ay L (by decide),G 3 (by decide)]at b;cases b),(fun b=>((a.o0t (kb b)).other (by omega) _ _)),(fun b=>by rw[Ay L (by decide),G 4 (by decide)]at b;cases b),(fun b=>((a.o1t (kb b)).other (by omega) _ _)),(ks),(fun _=>d.set 0 (ι n)),(a.wr.other (by omega) _ _),(a.nn.other (by omega) _ _)⟩,rfl⟩
 ·intro L ag al H t
  obtain⟨y,z,A,a,rfl⟩:=H;obtain rfl:=(a.c0 (t 0 (by decide))).symm;obtain rfl:=(a.c1 (t 1 (by decide))).symm;obtain rfl:=(a.c2 (t 2 (by decide))).symm;exact hM _ _ (Met.intro (hJ _ _ ⟨⟨a.fr,a.o0t (t 3 (by decide)),a.o1t (t 4 (by decide)),a.o2t (t 5 (by decide))⟩,rfl⟩))
theorem fS(a b d:Nat)(w:Zi):
  CallsD Zc 58 #[.pointer (some ⟨a,0,none⟩),.pointer (some ⟨b,0,none⟩),.pointer (some ⟨d,0,none⟩)] .returning w fun e g w'=>e=.returned (.tuple #[])∧g=.returning∧Zk w.heap.size w w':=by
 refine callsD_of_wpS func58 rfl fun c₀ cs hu=>?_
 have f:(#[Value.pointer (some ⟨a,0,none⟩),π b,π d]++Array.replicate (Tryz.f58.ntmps-(#[Value.pointer (some ⟨a,0,none⟩),π b,π d]:Array Value).size) Zj)= #[π a,π b,π d,Zj,Zj,Zj,Zj,Zj,Zj,Zj,Zj,Zj,Zj,Zj,Zj]:=by
  rw[ntmps58];rfl
 rw[f];clear f;apply wpS_seq
 refine Qw rfl ?_;refine mV rfl ?hr ?hc ?hh
 case hc=>simp only[recoverD,hu]
 case hr=>simp [go_sem]
 case hh=>
 iterate 7
  refine Va rfl (fun h i=>?_);go_wp2_with fail
 show Code.wpS _ _ _ _ _ _
 refine wpS_of_wp ?_;go_wp2_with fail;refine⟨rfl,.returning,by cases c₀;cases hu;rfl,.tuple #[],by simp [results,results58],rfl,rfl,bA⟩
theorem Rq(a b d:Nat)(n i j:Int)(f g:Value)(k:List PanicEntry)(B:Nat)(w:Zi)(m:Ad w a [f,g] 30)(p:Ad w b [.int .i64 i] 24)(r:Ad w d [.int .i64 j] 3)(F:a<b)(G:b<d)(H:B≤a):
  CallsD Zc 58 #[.pointer (some ⟨a,0,none⟩),.pointer (some ⟨b,0,none⟩),.pointer (some ⟨d,0,none⟩)] (.panicking ({v:=Mq n,recovered:=false}::k)) w fun e K w'=>e=.returned (.tuple #[])∧K=.panicking ({v:=Mq n,recovered:=true}::k)∧Zk B w w'∧
   Ad w' a [.slice none 0 0,.slice none 0 0] 30∧Ad w' b [.int .i64 40] 24∧Ad w' d [.int .i64 n] 3:=by
 refine callsD_of_wpS func58 rfl fun c₀ cs hu=>?_
 have s:(#[Value.pointer (some ⟨a,0,none⟩),π b,π d]++Array.replicate (Tryz.f58.ntmps-(#[Value.pointer (some ⟨a,0,none⟩),π b,π d]:Array Value).size) Zj)= #[π a,π b,π d,Zj,Zj,Zj,Zj,Zj,Zj,Zj,Zj,Zj,Zj,Zj,Zj]:=by
  rw[ntmps58];rfl
 rw[s];clear s;apply wpS_seq
 refine Qw rfl ?_;refine nC rfl ?hr (v:=Mq n) (cs':= {c₀ with mode:=.panicking ({v:=Mq n,recovered:=true}::k)}::cs) ?hc ?hh
 case hc=>simp only[recoverD,hu]
 case hr=>simp [go_sem]
 case hh=>
 unfold Mq at*;obtain⟨x,y,l⟩:=Y3 m p r;clear hu m p r
 iterate 7
  refine Va rfl (fun L M=>?_);go_wp2_with fail
 show Code.wpS _ _ _ _ _ _
 refine wpS_of_wp ?_;go_upto_region 3 with(fail);have h:Zk w.heap.size w ((w.alloc (.cells #[ι n] 110)).alloc (.cells #[ν,ν] 30)):=(bA).alloc (by simp) _;have J:=(Zd w [ι n] 110).alloc (.cells #[ν,ν] 30);have t:=Zd (w.alloc (.cells #[ι n] 110)) [ν,ν] 30;rw[show(w.alloc (.cells #[ι n] 110)).heap.size=w.heap.size+1 by simp]at t;have I:=l.o.lt;refine Zo (Q:=Exit.then (Met (RCP a b d w.heap.size (w.heap.size+1) B n i j f g _ _ _ _ _ _ _ _)) (fun _ _ _=>False)) (reg_CP a b d w.heap.size (w.heap.size+1) B n i j f g (x.o.old h) (y.o.old h) (l.o.old h) J t F G I (Nat.lt_succ_self _) H (fun _ _ q=>q) (fun _ _ q=>q)) ?_;intro e z w' u
 cases e with
 |normal=>
  obtain⟨⟨A,C,D,E⟩,rfl⟩:=(show RCP a b d w.heap.size (w.heap.size+1) B n i j f g _ _ _ _ _ _ _ _ z w' from u);exact⟨rfl,_,rfl,.tuple #[],by simp [results,results58],rfl,rfl,(h.mono (by omega)).trans A,C,D,E⟩
 |_=>exact False.elim u
theorem bG {w:Zi}{i g cap:Nat}{b:List Tk}(d:Fs w i b (.slice (some ⟨g,0,none⟩) b.length cap)):∀(l a:List Tk),b=a++l→Ko w g (a.length*4) l
 |[],a,e=>trivial
 |t::l,a,e=>by
  have k:b[a.length]? =some t:=by rw[e];simp
  have n:a.length<b.length:=by rw[e];simp
  have c:∀q u,q<4→(Hc t)[q]? =some u→w.cell? ⟨g,a.length*4+q,none⟩=some u:=by
   intro q u j m;have f:=d.cellAt (a.length*4+q) (by omega);rw[Mt Hc 4 (fun _=>rfl) b a.length q t k j,m]at f;exact f
  have h:=bG d l (a++[t]) (by rw[e];simp);rw[List.length_append,List.length_singleton,Nat.succ_mul]at h;exact⟨c 0 _ (by decide) rfl,c 1 _ (by decide) rfl,c 2 _ (by decide) rfl,c 3 _ (by decide) rfl,h⟩
theorem Vo {w:Zi}{c:Nat}{a:List Tk}{v:Value}(b:Fs w c a v)(i:0<a.length):∃g cap,v=.slice (some ⟨g,0,none⟩) a.length cap∧Ko w g 0 a∧a.length≤cap∧g<w.heap.size∧c≤g:=by
 have f:=World.ownsRow.lt b;rcases b.2 with⟨_,k⟩|⟨g,cap,h,rfl,d,j,e,l⟩
 ·omega
 ·have:=bG b a [] rfl
  exact⟨g,cap,rfl,by simpa using this,e,(f g rfl).2,d⟩
theorem Ps.under {w:Zi}{p b:Nat}{l:List Tk}(a:Ps w p b l){k:Nat}(d:k<b)(i:Nat)(v:Value):Ps (w.setCell ⟨k,i,none⟩ v) p b l:=by
 obtain⟨c,cap,a⟩:=a;exact⟨c,cap,⟨a.own.other (by have:=a.lt;omega) i v,a.row.keep (Al w (by show ¬k=b;omega) i v),a.hcap,a.fit,a.lt,a.ends,a.nums⟩⟩
theorem Cd.ymono {D D':Nat→Prop}{w:Zi}(h:∀b,D b→D' b){l:List Ar}{v:Value}(c:Cd D w l v):Cd D' w l v:=by
 obtain⟨a,cap,b,j,i,d,e,f,g⟩:=c;exact⟨a,cap,b,j,i,d,e,f.imp id fun c=>⟨c.1,h _ c.2⟩,g⟩
theorem Bw.ymono {D D':Nat→Prop}{w:Zi}(e:∀b,D b→D' b){l:List Fu}{v:Value}(c:Bw D w l v):Bw D' w l v:=by
 obtain⟨a,cap,b,n,pv,lv,g,m,h,j,k,d⟩:=c;exact⟨a,cap,b,n,pv,lv,g,m,h,j,k.imp id fun c=>⟨c.1,e _ c.2⟩,fun i f=>⟨(d i f).1,(d i f).2.1.mono e,(d i f).2.2.1.mono e,(d i f).2.2.2.mono e⟩⟩
theorem Cd.yshape {D:Nat→Prop}{w:Zi}{l:List Ar}{v:Value}(c:Cd D w l v):∃a cap,v=.slice a l.length cap:=by
 obtain⟨a,cap,b,e,d,_⟩:=c;exact⟨a,cap,d⟩
theorem Bw.yshape {D:Nat→Prop}{w:Zi}{l:List Fu}{v:Value}(c:Bw D w l v):∃a cap,v=.slice a l.length cap:=by
 obtain⟨a,cap,b,f,pv,lv,e,d,_⟩:=c;exact⟨a,cap,d⟩
theorem Vf {D:Nat→Prop}(w:Zi){b:Nat}(d:¬D b){a c:Value}:Db D w ((w.setCell ⟨b,0,none⟩ a).setCell ⟨b,1,none⟩ c):=
 (Al w d 0 a).trans (Al _ d 1 c)
def kB:PR Ex→Ex ×Int ×Int
 |.error n=>(exZ,40,n)
 |.ok (_,[])=>(exZ,40,0)
 |.ok (x,t::_)=>if t.kind=5 then(x,0,0)else(exZ,40,t.line)
def WhE(w:Zi)(a:Ex ×Int ×Int)(e:Ending)(w':Zi):Prop:=Zk w.heap.size w w'∧∃v,e=.returned (.tuple #[v,.int .i64 a.2.1,.int .i64 a.2.2])∧ExH w.heap.size a.1 v w'
theorem qM(aX:Bs)(i:List Tk)(aJ:Iy i)(bB:∀t,t∈i→I64 t.num)(bz:i.length≤1000000)(f:Nat)(m:4*i.length+4≤f)(w:Zi)(bt:Zm (∀h,Zk w.heap.size w h→Zn Zc 57 #[.string (Aa aX)] h fun e w'=>Zk h.heap.size h w'∧∃v,e=.returned (.tuple #[v,.int .i64 0,.int .i64 0])∧Fs w' h.heap.size i v)):
  Zn Zc 32 #[.string (Aa aX),.func (.func 33) #[] #[]] w (WhE w (kB (Bk f 1 i))):=by
 have bD:∀(aI:Fn) (first cap:Array Value) (w:Zi),(Instr.makeFunc aI first cap).run Zc w=.ok (.func aI first cap) w:=fun _ _ _ _=>rfl
 obtain⟨z,D⟩:∃z,(((w.alloc (ζ)).alloc (.cells #[ι 0] 24)).alloc (.cells #[ι 0] 3))=z:=⟨_,rfl⟩;have ao:Zk w.heap.size w z:=D ▸ ((bA).alloc (by simp) _).alloc (by simp;omega) _;have aQ:z.heap.size=w.heap.size+3:=by rw[←D];simp
 have c:Ad z w.heap.size η 35:=D ▸ ((Zd w η 35).alloc _).alloc _;have l:Ad z (w.heap.size+1) [ι 0] 24:=by
  have:=(Zd (w.alloc (ζ)) [ι 0] 24).alloc (.cells #[ι 0] 3);rw[show(w.alloc (ζ)).heap.size=w.heap.size+1 by simp]at this;exact D ▸ this
 have j:Ad z (w.heap.size+2) [ι 0] 3:=by
  have:=Zd ((w.alloc (ζ)).alloc (.cells #[ι 0] 24)) [ι 0] 3;rw[show((w.alloc (ζ)).alloc (.cells #[ι 0] 24)).heap.size=w.heap.size+2 by simp]at this;exact D ▸ this
 obtain⟨bs,av,bd,be,bf,bv,aF⟩:=Y7 (bt.o z ao) ao c l j aQ D;obtain⟨am,an⟩:∃am,Bk f 1 i=am:=⟨_,rfl⟩;rw[an];have br:=Za an;clear ao aQ c l j D an
 go_enter_defers func32,ntmps32
 go_upto_region 1 with(fail);rw[aF.o];rw[show w.heap.size+1+1=w.heap.size+2 from rfl];clear aF;go_wp2_with fail;refine bs.o.mono ?_;rintro e h ⟨d,v,rfl,aP⟩;have aK:=av.o.trans (d.mono av.o.size);have aw:=Za aK;have U:=be.o.old d;have V:=bf.o.old d;obtain⟨bg,bh,au,bu⟩:=Y4 (bd.o.old d) U V aP;have aV:=U.at 0 _ rfl;have bI:=U.fz 0;have aW:=V.at 0 _ rfl;have bJ:=V.fz 0;have bK:=U.lt;have bL:=V.lt;clear d aK aP U V;go_upto_region 2 with(fail);rw[Af aV,Af aW];clear bI bJ bK bL aW;obtain⟨g,cap,aq,ap⟩:=Vo bu.o (by obtain⟨t,bE,rfl⟩:=aJ.ne;simp);have bj:Zm (w.heap.size+3≤g):=(bv.o ▸ ap.2.2.2:w.heap.size+3≤g);subst aq;have ab:=Za ap;clear ap;go_upto_region 6 with(fail);have R:Zk h.heap.size h (h.alloc (.cells #[κ g i.length cap] 113)):=bA;have F:Ps (h.alloc (.cells #[κ g i.length cap] 113)) h.heap.size g i:=⟨0,cap,Zd h [κ g i.length cap] 113,ab.o.1.keep (Be R),ab.o.2.1,bz,ab.o.2.2.1,aJ,bB⟩;obtain⟨aC,ay,az,aA,Y⟩:=Y5 F (aw.o.alloc aw.o.size (.cells #[κ g i.length cap] 113)) (bg.o.old R) (bh.o.old R) (au.o.old R);have aM:=au.o.lt;have u:Zm (w.heap.size+2<h.heap.size):=aM;have al:Zm (h.heap.size<(h.alloc (.cells #[κ g i.length cap] 113)).heap.size):=F.lt
 clear R F aM aV ab;obtain⟨J,aO⟩:∃J,h.heap.size=J:=⟨_,rfl⟩;rw[aO]at aC u al ⊢;generalize h.alloc (.cells #[κ g i.length cap] 113)=ak at*;clear aO;have aB:=Za ((Nk f).2.1 i ak J g (by omega) aC.o);rw[br.o]at aB;go_wp2_with fail;refine aB.o.mono ?_;intro e C aL
 cases am with
 |error n=>
  obtain⟨m,rfl⟩:=aL;have c:=az.o.sfr m (by have:=u.o;omega);have l:=aA.o.sfr m (by have:=u.o;omega);have j:=Y.o.sfr m (by have:=u.o;omega);have I:Zk w.heap.size w C:=ay.o.trans ((m.below (Ze al.o)).mono (by have:=u.o;omega));obtain⟨ac,ad,ae,X⟩:=Y4 c l j I;clear c l j I m;unfold Bv;go_wp2_with fail;refine leaves_cons (f:=77) (args:= #[π w.heap.size,π (w.heap.size+1),π (w.heap.size+2)]) (by simp) (by simp [go_sem]) ?_;refine(Qt w.heap.size (w.heap.size+1) (w.heap.size+2) n 0 0 (ι 0) (ι 0) (ι 0) (ε) (ν) [] w.heap.size C ac.o ad.o ae.o (by omega) (by omega) (Zb _)).mono ?_;rintro e aT B ⟨rfl,rfl,d,a,r,s⟩;have S:=X.o.trans (d.mono (Zb _));have K:=a.at 0 _ rfl;have af:=a.fz 0;have L:=a.at 1 _ rfl;have ag:=a.fz 1;have M:=a.at 2 _ rfl;have ah:=a.fz 2;have N:=a.at 3 _ rfl;have ai:=a.fz 3;have O:=a.at 4 _ rfl;have aj:=a.fz 4;have P:=r.at 0 _ rfl;have aH:=r.fz 0;have T:=s.at 0 _ rfl;have aR:=s.fz 0;show ∃v,(results Tryz.f32 _).run Zc B=.ok v B∧_
  refine⟨.tuple #[.agg #[ι 0,ι 0,ι 0,ε,ν],ι 40,ι n],by simp [results,results32,go_sem,K,L,M,N,O,P,T],S,_,rfl,⟨_,rfl,Ag.zero,Eo⟩⟩
 |ok q=>
  obtain⟨x,bE⟩:=q;obtain⟨m,v,rfl,F,aq⟩:=aL;obtain⟨bS,rfl,hx,aN⟩:=aq;obtain⟨G,H,rfl⟩:=hx.shape;have c:=az.o.sfr m (by have:=u.o;omega);have l:=aA.o.sfr m (by have:=u.o;omega);have j:=Y.o.sfr m (by have:=u.o;omega);have I:Zk w.heap.size w C:=ay.o.trans ((m.below (Ze al.o)).mono (by have:=u.o;omega));obtain⟨ac,ad,ae,X⟩:=Y4 c l j I;have bC:=bj.o;have bR:w.heap.size+3≤C.heap.size:=by have:=j.lt;omega
  have bM:=c.at 0 _ rfl;have af:=c.fz 0;have bN:=c.at 1 _ rfl;have ag:=c.fz 1;have bO:=c.at 2 _ rfl;have ah:=c.fz 2;have bP:=c.at 3 _ rfl;have ai:=c.fz 3;have bQ:=c.at 4 _ rfl;have aj:=c.fz 4;obtain⟨t,ar,rfl⟩:=F.ends.ne;obtain⟨y,A⟩:∃y,(((((C.setCell ⟨w.heap.size,0,none⟩ (ι x.kind)).setCell ⟨w.heap.size,1,none⟩ (ι x.op)).setCell ⟨w.heap.size,2,none⟩ (ι x.n)).setCell ⟨w.heap.size,3,none⟩ (σ x.name)).setCell ⟨w.heap.size,4,none⟩ (ρ G x.args H))=y:=⟨_,rfl⟩;have aS:Db (w.heap.size< ·) C y:=A ▸ (Ha C (by show ¬w.heap.size<w.heap.size;omega) _ _ _ _ _);obtain⟨aD,bn,bo,bp⟩:=Y4 (show Ps y J g (t::ar)from A ▸ (((((F.under (by omega) _ _).under (by omega) _ _).under (by omega) _ _).under (by omega) _ _).under (by omega) _ _)) (show Ad y w.heap.size (χ x (ρ G x.args H)) 35 from A ▸ (((((c.set 0 (ι x.kind)).set 1 (ι x.op)).set 2 (ι x.n)).set 3 (σ x.name)).set 4 (ρ G x.args H))) (show Ad y (w.heap.size+1) [ι 0] 24 from A ▸ (((((l.other (by omega) _ _).other (by omega) _ _).other (by omega) _ _).other (by omega) _ _).other (by omega) _ _)) (show Ad y (w.heap.size+2) [ι 0] 3 from A ▸ (((((j.other (by omega) _ _).other (by omega) _ _).other (by omega) _ _).other (by omega) _ _).other (by omega) _ _))
  obtain⟨ax,bl,aG,aE⟩:=Y4 (show Zk w.heap.size w y from A ▸ (((((I.setCell (p:=⟨w.heap.size,0,none⟩) (Zb _) (ι x.kind)).setCell (p:=⟨w.heap.size,1,none⟩) (Zb _) (ι x.op)).setCell (p:=⟨w.heap.size,2,none⟩) (Zb _) (ι x.n)).setCell (p:=⟨w.heap.size,3,none⟩) (Zb _) (σ x.name)).setCell (p:=⟨w.heap.size,4,none⟩) (Zb _) (ρ G x.args H))) aS A (show Ag (ak.heap.size≤ ·) C x.args _∧I64 x.n from⟨hx,aN⟩);clear c l j F I aS A bC hx aN;go_upto_region 7 with(fail);rw[aG.o];have bm:=Za (Gy J g t ar y aD.o);clear bM af bN ag bO ah bP ai bQ aj aG;go_wp2_with fail;refine bm.o.mono ?_;rintro e aU ⟨rfl,E⟩;unfold tkV;obtain⟨k,Z,aa,bq,W,bk⟩:=Y6 (bn.o.old E) (bo.o.old E) (bp.o.old E) (aD.o.old E) (ax.o.trans (E.mono ax.o.size)) (bl.o.trans (Be E));clear E
  by_cases hk:t.kind=5
  ·rw[hk]
   have aY:=k.o.at 0 _ rfl;have a:=k.o.fz 0;have aZ:=k.o.at 1 _ rfl;have r:=k.o.fz 1;have ba:=k.o.at 2 _ rfl;have s:=k.o.fz 2;have bb:=k.o.at 3 _ rfl;have bw:=k.o.fz 3;have bc:=k.o.at 4 _ rfl;have bx:=k.o.fz 4;have u1:=Z.o.at 0 _ rfl;have bF:=Z.o.fz 0;have u2:=aa.o.at 0 _ rfl;have bG:=aa.o.fz 0;clear bD;go_wp2_with fail;rw[Af aY,Af aZ,Af ba,Af bb,Af bc,Af u1,Af u2];refine leaves_cons (f:=77) (args:= #[π w.heap.size,π (w.heap.size+1),π (w.heap.size+2)]) (by simp) (by simp [go_sem]) ?_;refine(fU w.heap.size (w.heap.size+1) (w.heap.size+2) aU).mono ?_;rintro e aT B ⟨rfl,rfl,d⟩;clear aY a aZ r ba s bb bw bc bx u1 bF u2 bG;have S:=W.o.trans (d.mono W.o.size);have a:=k.o.old d;have r:=Z.o.old d;have s:=aa.o.old d;have K:=a.at 0 _ rfl;have af:=a.fz 0;have L:=a.at 1 _ rfl;have ag:=a.fz 1;have M:=a.at 2 _ rfl;have ah:=a.fz 2;have N:=a.at 3 _ rfl;have ai:=a.fz 3;have O:=a.at 4 _ rfl;have aj:=a.fz 4;have P:=r.at 0 _ rfl;have aH:=r.fz 0;have T:=s.at 0 _ rfl;have aR:=s.fz 0;show ∃v,(results Tryz.f32 _).run Zc B=.ok v B∧_
   refine⟨.tuple #[.agg #[ι x.kind,ι x.op,ι x.n,σ x.name,ρ G x.args H],ι 0,ι 0],by simp [results,results32,go_sem,K,L,M,N,O,P,T],?_⟩;rw[kB,if_pos hk];exact⟨S,_,rfl,⟨_,rfl,(aE.o.1.keep (Pz bk.o (fun b d=>by have:=Y.o.lt;show w.heap.size<b;have:ak.heap.size≤b:=d;omega))|>.keep (Be d)).mono (fun b d=>by have:=Y.o.lt;have:ak.heap.size≤b:=d;show w.heap.size≤b;omega),aE.o.2⟩⟩
  ·have bi:=Za (Ki J g t ar aU bq.o)
   go_wp2_with fail;refine bi.o.mono ?_;rintro e bH ⟨rfl,Q⟩;have c:=k.o.old Q;have l:=Z.o.old Q;have j:=aa.o.old Q;obtain⟨ac,ad,ae,X⟩:=Y4 c l j (W.o.trans (Q.mono W.o.size));clear c l j Q;unfold Bv;go_wp2_with fail;refine leaves_cons (f:=77) (args:= #[π w.heap.size,π (w.heap.size+1),π (w.heap.size+2)]) (by simp) (by simp [go_sem]) ?_;refine(Qt w.heap.size (w.heap.size+1) (w.heap.size+2) t.line 0 0 (ι x.kind) (ι x.op) (ι x.n) (σ x.name) (ρ G x.args H) [] w.heap.size bH ac.o ad.o ae.o (by omega) (by omega) (Zb _)).mono ?_;rintro e aT B ⟨rfl,rfl,d,a,r,s⟩;have S:=X.o.trans (d.mono (Zb _));have K:=a.at 0 _ rfl;have af:=a.fz 0;have L:=a.at 1 _ rfl;have ag:=a.fz 1;have M:=a.at 2 _ rfl;have ah:=a.fz 2;have N:=a.at 3 _ rfl;have ai:=a.fz 3;have O:=a.at 4 _ rfl;have aj:=a.fz 4;have P:=r.at 0 _ rfl;have aH:=r.fz 0;have T:=s.at 0 _ rfl;have aR:=s.fz 0;show ∃v,(results Tryz.f32 _).run Zc B=.ok v B∧_
   refine⟨.tuple #[.agg #[ι 0,ι 0,ι 0,ε,ν],ι 40,ι t.line],by simp [results,results32,go_sem,K,L,M,N,O,P,T],?_⟩;rw[kB,if_neg hk];exact⟨S,_,rfl,⟨_,rfl,Ag.zero,Eo⟩⟩
def oH:PR Pr→Pr ×Int ×Int
 |.error n=>((⟨[],[]⟩:Pr),40,n)
 |.ok (_,[])=>((⟨[],[]⟩:Pr),40,0)
 |.ok (x,t::_)=>if t.kind=5 then(x,0,0)else((⟨[],[]⟩:Pr),40,t.line)
def WhP(w:Zi)(a:Pr ×Int ×Int)(e:Ending)(w':Zi):Prop:=Zk w.heap.size w w'∧∃v,e=.returned (.tuple #[v,.int .i64 a.2.1,.int .i64 a.2.2])∧PrH w.heap.size a.1 v w'
theorem pL(aV:Bs)(i:List Tk)(aI:Iy i)(br:∀t,t∈i→I64 t.num)(bq:i.length≤1000000)(f:Nat)(l:4*i.length+4≤f)(w:Zi)(bn:Zm (∀c,Zk w.heap.size w c→Zn Zc 57 #[.string (Aa aV)] c fun e w'=>Zk c.heap.size c w'∧∃v,e=.returned (.tuple #[v,.int .i64 0,.int .i64 0])∧Fs w' c.heap.size i v)):
  Zn Zc 27 #[.string (Aa aV),.func (.func 28) #[] #[]] w (WhP w (oH (Kg f ⟨[],[]⟩ i))):=by
 have bt:∀(aH:Fn) (first cap:Array Value) (w:Zi),(Instr.makeFunc aH first cap).run Zc w=.ok (.func aH first cap) w:=fun _ _ _ _=>rfl
 obtain⟨y,C⟩:∃y,(((w.alloc (.cells #[ν,ν] 30)).alloc (.cells #[ι 0] 24)).alloc (.cells #[ι 0] 3))=y:=⟨_,rfl⟩;have ak:Zk w.heap.size w y:=C ▸ ((bA).alloc (by simp) _).alloc (by simp;omega) _;have aO:y.heap.size=w.heap.size+3:=by rw[←C];simp
 have h:Ad y w.heap.size [ν,ν] 30:=C ▸ ((Zd w [ν,ν] 30).alloc _).alloc _;have k:Ad y (w.heap.size+1) [ι 0] 24:=by
  have:=(Zd (w.alloc (.cells #[ν,ν] 30)) [ι 0] 24).alloc (.cells #[ι 0] 3);rw[show(w.alloc (.cells #[ν,ν] 30)).heap.size=w.heap.size+1 by simp]at this;exact C ▸ this
 have j:Ad y (w.heap.size+2) [ι 0] 3:=by
  have:=Zd ((w.alloc (.cells #[ν,ν] 30)).alloc (.cells #[ι 0] 24)) [ι 0] 3;rw[show((w.alloc (.cells #[ν,ν] 30)).alloc (.cells #[ι 0] 24)).heap.size=w.heap.size+2 by simp]at this;exact C ▸ this
 obtain⟨bm,ar,aY,aZ,ba,bp,aE⟩:=Y7 (bn.o y ak) ak h k j aO C;obtain⟨ai,aj⟩:∃ai,Kg f ⟨[],[]⟩ i=ai:=⟨_,rfl⟩;rw[aj];have bl:=Za aj;clear ak aO h k j C aj
 go_enter_defers func27,ntmps27
 go_upto_region 1 with(fail);rw[aE.o];rw[show w.heap.size+1+1=w.heap.size+2 from rfl];clear aE;go_wp2_with fail;refine bm.o.mono ?_;rintro e c ⟨a,v,rfl,aN⟩;have aJ:=ar.o.trans (a.mono ar.o.size);have au:=Za aJ;have V:=aZ.o.old a;have W:=ba.o.old a;obtain⟨bb,bc,aq,bo⟩:=Y4 (aY.o.old a) V W aN;have aT:=V.at 0 _ rfl;have bz:=V.fz 0;have aU:=W.at 0 _ rfl;have bB:=W.fz 0;have bC:=V.lt;have bD:=W.lt;clear a aJ aN V W;go_upto_region 2 with(fail);rw[Af aT,Af aU];clear bz bB bC bD aU;obtain⟨g,cap,am,al⟩:=Vo bo.o (by obtain⟨t,bu,rfl⟩:=aI.ne;simp);have be:Zm (w.heap.size+3≤g):=(bp.o ▸ al.2.2.2:w.heap.size+3≤g);subst am;have ab:=Za al;clear al;go_upto_region 6 with(fail);have S:Zk c.heap.size c (c.alloc (.cells #[κ g i.length cap] 113)):=bA;have E:Ps (c.alloc (.cells #[κ g i.length cap] 113)) c.heap.size g i:=⟨0,cap,Zd c [κ g i.length cap] 113,ab.o.1.keep (Be S),ab.o.2.1,bq,ab.o.2.2.1,aI,br⟩;obtain⟨aB,aw,ax,ay,G⟩:=Y5 E (au.o.alloc au.o.size (.cells #[κ g i.length cap] 113)) (bb.o.old S) (bc.o.old S) (aq.o.old S);have aL:=aq.o.lt;have r:Zm (w.heap.size+2<c.heap.size):=aL;have ah:Zm (c.heap.size<(c.alloc (.cells #[κ g i.length cap] 113)).heap.size):=E.lt
 clear S E aL aT ab;obtain⟨N,aM⟩:∃N,c.heap.size=N:=⟨_,rfl⟩;rw[aM]at aB r ah ⊢;generalize c.alloc (.cells #[κ g i.length cap] 113)=F at*;clear aM;have az:=Za (rB f i F N g (by omega) aB.o);rw[bl.o]at az;go_wp2_with fail;refine az.o.mono ?_;intro e u aK
 cases ai with
 |error n=>
  obtain⟨l,rfl⟩:=aK;have h:=ax.o.sfr l (by have:=r.o;omega);have k:=ay.o.sfr l (by have:=r.o;omega);have j:=G.o.sfr l (by have:=r.o;omega);have M:Zk w.heap.size w u:=aw.o.trans ((l.below (Ze ah.o)).mono (by have:=r.o;omega));obtain⟨ac,ad,ae,Y⟩:=Y4 h k j M;clear h k j M l;unfold Bv;go_wp2_with fail;refine leaves_cons (f:=58) (args:= #[π w.heap.size,π (w.heap.size+1),π (w.heap.size+2)]) (by simp) (by simp [go_sem]) ?_;refine(Rq w.heap.size (w.heap.size+1) (w.heap.size+2) n 0 0 (ν) (ν) [] w.heap.size u ac.o ad.o ae.o (by omega) (by omega) (Zb _)).mono ?_;rintro e aR B ⟨rfl,rfl,a,d,m,z⟩;have T:=Y.o.trans (a.mono (Zb _));have O:=d.at 0 _ rfl;have af:=d.fz 0;have P:=d.at 1 _ rfl;have ag:=d.fz 1;have Q:=m.at 0 _ rfl;have aG:=m.fz 0;have U:=z.at 0 _ rfl;have aP:=z.fz 0;show ∃v,(results Tryz.f27 _).run Zc B=.ok v B∧_
  refine⟨.tuple #[.agg #[ν,ν],ι 40,ι n],by simp [results,results27,go_sem,O,P,Q,U],T,_,rfl,⟨_,_,rfl,Cd.zero,Bw.zero⟩⟩
 |ok q=>
  obtain⟨x,bu⟩:=q;obtain⟨l,v,rfl,E,am⟩:=aK;obtain⟨bG,bH,rfl,an,ao⟩:=am;obtain⟨I,J,rfl⟩:=an.yshape;obtain⟨K,L,rfl⟩:=ao.yshape;have h:=ax.o.sfr l (by have:=r.o;omega);have k:=ay.o.sfr l (by have:=r.o;omega);have j:=G.o.sfr l (by have:=r.o;omega);have M:Zk w.heap.size w u:=aw.o.trans ((l.below (Ze ah.o)).mono (by have:=r.o;omega));obtain⟨ac,ad,ae,Y⟩:=Y4 h k j M;have bs:=be.o;have bI:w.heap.size+3≤u.heap.size:=by have:=j.lt;omega
  have bE:=h.at 0 _ rfl;have af:=h.fz 0;have bF:=h.at 1 _ rfl;have ag:=h.fz 1;obtain⟨t,ap,rfl⟩:=E.ends.ne;obtain⟨s,A⟩:∃s,((u.setCell ⟨w.heap.size,0,none⟩ (ρ I x.arrays J)).setCell ⟨w.heap.size,1,none⟩ (ρ K x.funcs L))=s:=⟨_,rfl⟩;have aQ:Db (w.heap.size< ·) u s:=A ▸ (Vf u (by show ¬w.heap.size<w.heap.size;omega));obtain⟨aC,bh,bi,bj,av,bf,aF,aD⟩:=Y8 (show Ps s N g (t::ap)from A ▸ ((E.under (by omega) _ _).under (by omega) _ _)) (show Ad s w.heap.size [ρ I x.arrays J,ρ K x.funcs L] 30 from A ▸ ((h.set 0 (ρ I x.arrays J)).set 1 (ρ K x.funcs L))) (show Ad s (w.heap.size+1) [ι 0] 24 from A ▸ ((k.other (by omega) _ _).other (by omega) _ _)) (show Ad s (w.heap.size+2) [ι 0] 3 from A ▸ ((j.other (by omega) _ _).other (by omega) _ _)) (show Zk w.heap.size w s from A ▸ ((M.setCell (p:=⟨w.heap.size,0,none⟩) (Zb _) (ρ I x.arrays J)).setCell (p:=⟨w.heap.size,1,none⟩) (Zb _) (ρ K x.funcs L))) aQ A (show Cd (F.heap.size≤ ·) u x.arrays _∧Bw (F.heap.size≤ ·) u x.funcs _ from⟨an,ao⟩);clear h k j E M aQ A bs an ao;go_upto_region 7 with(fail);rw[aF.o];have bg:=Za (Gy N g t ap s aC.o);clear bE af bF ag aF;go_wp2_with fail;refine bg.o.mono ?_
  rintro e aS ⟨rfl,D⟩;unfold tkV;obtain⟨H,Z,aa,bk,X,aA⟩:=Y6 (bh.o.old D) (bi.o.old D) (bj.o.old D) (aC.o.old D) (av.o.trans (D.mono av.o.size)) (bf.o.trans (Be D));clear D
  by_cases hk:t.kind=5
  ·rw[hk]
   have aW:=H.o.at 0 _ rfl;have d:=H.o.fz 0;have aX:=H.o.at 1 _ rfl;have m:=H.o.fz 1;have u1:=Z.o.at 0 _ rfl;have bv:=Z.o.fz 0;have u2:=aa.o.at 0 _ rfl;have bw:=aa.o.fz 0;clear bt;go_wp2_with fail;rw[Af aW,Af aX,Af u1,Af u2];refine leaves_cons (f:=58) (args:= #[π w.heap.size,π (w.heap.size+1),π (w.heap.size+2)]) (by simp) (by simp [go_sem]) ?_;refine(fS w.heap.size (w.heap.size+1) (w.heap.size+2) aS).mono ?_;rintro e aR B ⟨rfl,rfl,a⟩;clear aW d aX m u1 bv u2 bw;have T:=X.o.trans (a.mono X.o.size);have d:=H.o.old a;have m:=Z.o.old a;have z:=aa.o.old a;have O:=d.at 0 _ rfl;have af:=d.fz 0;have P:=d.at 1 _ rfl;have ag:=d.fz 1;have Q:=m.at 0 _ rfl;have aG:=m.fz 0;have U:=z.at 0 _ rfl;have aP:=z.fz 0;show ∃v,(results Tryz.f27 _).run Zc B=.ok v B∧_
   refine⟨.tuple #[.agg #[ρ I x.arrays J,ρ K x.funcs L],ι 0,ι 0],by simp [results,results27,go_sem,O,P,Q,U],?_⟩;rw[oH,if_pos hk];exact⟨T,_,rfl,⟨_,_,rfl,(aD.o.1.keep (Pz aA.o (fun b a=>by have:=G.o.lt;show w.heap.size<b;have:F.heap.size≤b:=a;omega))|>.keep (Be a)).ymono (fun b a=>by have:=G.o.lt;have:F.heap.size≤b:=a;show w.heap.size≤b;omega),(aD.o.2.keep (Pz aA.o (fun b a=>by have:=G.o.lt;show w.heap.size<b;have:F.heap.size≤b:=a;omega))|>.keep (Be a)).ymono (fun b a=>by have:=G.o.lt;have:F.heap.size≤b:=a;show w.heap.size≤b;omega)⟩⟩
  ·have bd:=Za (Ki N g t ap aS bk.o)
   go_wp2_with fail;refine bd.o.mono ?_;rintro e bx ⟨rfl,R⟩;have h:=H.o.old R;have k:=Z.o.old R;have j:=aa.o.old R;obtain⟨ac,ad,ae,Y⟩:=Y4 h k j (X.o.trans (R.mono X.o.size));clear h k j R;unfold Bv;go_wp2_with fail;refine leaves_cons (f:=58) (args:= #[π w.heap.size,π (w.heap.size+1),π (w.heap.size+2)]) (by simp) (by simp [go_sem]) ?_;refine(Rq w.heap.size (w.heap.size+1) (w.heap.size+2) t.line 0 0 (ρ I x.arrays J) (ρ K x.funcs L) [] w.heap.size bx ac.o ad.o ae.o (by omega) (by omega) (Zb _)).mono ?_;rintro e aR B ⟨rfl,rfl,a,d,m,z⟩;have T:=Y.o.trans (a.mono (Zb _));have O:=d.at 0 _ rfl;have af:=d.fz 0;have P:=d.at 1 _ rfl;have ag:=d.fz 1;have Q:=m.at 0 _ rfl;have aG:=m.fz 0;have U:=z.at 0 _ rfl;have aP:=z.fz 0;show ∃v,(results Tryz.f27 _).run Zc B=.ok v B∧_
   refine⟨.tuple #[.agg #[ν,ν],ι 40,ι t.line],by simp [results,results27,go_sem,O,P,Q,U],?_⟩;rw[oH,if_neg hk];exact⟨T,_,rfl,⟨_,_,rfl,Cd.zero,Bw.zero⟩⟩
def Qo:Ex ×Int ×Int→Ex ×Int ×Int
 |(x,e,n)=>if e=0∧Cf x=false then(exZ,41,1)else(x,e,n)
theorem nN(ak:Bs)(w:Zi)(J:Ex ×Int ×Int)(M:Zm (∀f,Zk w.heap.size w f→Zn Zc 32 #[.string (Aa ak),.func (.func 33) #[] #[]] f (WhE f J))):
  Zn Zc 12 #[.string (Aa ak)] w (WhE w (Qo J)):=by
 obtain⟨x,D,k⟩:=J;obtain⟨l,E⟩:∃l,w.alloc (ζ)=l:=⟨_,rfl⟩;have I:Zk w.heap.size w l:=E ▸ bA;have V:Ad l w.heap.size η 35:=E ▸ Zd w η 35;obtain⟨L,B,A,O⟩:=Y4 (M.o l I) I V E;clear I V E;go_enter func12,ntmps12;go_upto_region 1 with(fail);rw[O.o];clear O;go_wp2_with fail;refine L.o.mono ?_;rintro e f ⟨j,v,rfl,Z⟩;dsimp only at Z;obtain⟨ao,rfl,hx,Y⟩:=Z;obtain⟨h,i,rfl⟩:=hx.shape;have F:=Za (B.o.trans (j.mono B.o.size));have al:Zm (w.heap.size<f.heap.size):=(A.o.old j).lt;obtain⟨K,H⟩:=Y2 (A.o.old j) (show Ag (w.heap.size< ·) f x.args _∧I64 x.n from⟨hx.mono (fun b j=>by have:=B.o.size;have an:=A.o.lt;have:l.heap.size≤b:=j;show w.heap.size<b;omega),Y⟩);clear j hx Y L M B A;go_upto_region 2 with(fail);obtain⟨c,d,G⟩:=Y3 (Zd f (χ x (ρ h x.args i)) 35) (K.o.alloc (ξ x (ρ h x.args i))) (F.o.alloc F.o.size (ξ x (ρ h x.args i)))
 have W:Zk f.heap.size f (f.alloc (ξ x (ρ h x.args i))):=bA;have m:=Za (show Ag (w.heap.size< ·) _ x.args _∧I64 x.n from⟨(H.o.1).keep (Be W),H.o.2⟩);clear W H F K;generalize f.alloc (ξ x (ρ h x.args i))=w2 at*;obtain⟨P,X⟩:∃P,f.heap.size=P:=⟨_,rfl⟩;rw[X]at al c ⊢;clear X;have af:=c.o.at 0 _ rfl;have Q:=c.o.fz 0;have ag:=c.o.at 1 _ rfl;have R:=c.o.fz 1;have ah:=c.o.at 2 _ rfl;have S:=c.o.fz 2;have ai:=c.o.at 3 _ rfl;have T:=c.o.fz 3;have aj:=c.o.at 4 _ rfl;have U:=c.o.fz 4;have aa:=d.o.at 0 _ rfl;have q0:=d.o.fz 0;have ab:=d.o.at 1 _ rfl;have q1:=d.o.fz 1;have ac:=d.o.at 2 _ rfl;have q2:=d.o.fz 2;have ad:=d.o.at 3 _ rfl;have q3:=d.o.fz 3;have ae:=d.o.at 4 _ rfl;have q4:=d.o.fz 4
 by_cases he:D=0
 ·subst he
  go_wp2_with fail;refine(Mm x (w.heap.size< ·) _ m.o.1).mono ?_;rintro e am ⟨rfl,q⟩;obtain⟨g,a,C,N⟩:=Y4 (c.o.old q) (d.o.old q) (G.o.trans (q.mono G.o.size)) (show Ag (w.heap.size< ·) am x.args _∧I64 x.n from⟨(m.o.1).keep (Be q),m.o.2⟩);clear q af Q aa q0 ag R ab q1 ah S ac q2 ai T ad q3 aj U ae q4;have af:=g.o.at 0 _ rfl;have Q:=g.o.fz 0;have ag:=g.o.at 1 _ rfl;have R:=g.o.fz 1;have ah:=g.o.at 2 _ rfl;have S:=g.o.fz 2;have ai:=g.o.at 3 _ rfl;have T:=g.o.fz 3;have aj:=g.o.at 4 _ rfl;have U:=g.o.fz 4;have aa:=a.o.at 0 _ rfl;have q0:=a.o.fz 0;have ab:=a.o.at 1 _ rfl;have q1:=a.o.fz 1;have ac:=a.o.at 2 _ rfl;have q2:=a.o.fz 2;have ad:=a.o.at 3 _ rfl;have q3:=a.o.fz 3;have ae:=a.o.at 4 _ rfl;have q4:=a.o.fz 4
  cases hr:Cf x
  ·go_wp2_with fail
   have r:=(((((a.o.set 0 (ι 0)).set 1 (ι 0)).set 2 (ι 0)).set 3 (ε)).set 4 (ν));obtain ⟨s, t, u, y, z⟩ := τ5 r;exact Zp (v:=.tuple #[.agg #[ι 0,ι 0,ι 0,ε,ν],ι 41,ι 1]) (by simp [results,results12,go_sem,s,t,u,y,z]) rfl (by
    rw[show Qo (x,0,k)=(exZ,41,1)by simp [Qo,hr]];exact⟨(((((C.o.setCell (p:=⟨w.heap.size,0,none⟩) (Zb _) (ι 0)).setCell (p:=⟨w.heap.size,1,none⟩) (Zb _) (ι 0)).setCell (p:=⟨w.heap.size,2,none⟩) (Zb _) (ι 0)).setCell (p:=⟨w.heap.size,3,none⟩) (Zb _) (ε)).setCell (p:=⟨w.heap.size,4,none⟩) (Zb _) (ν)),_,rfl,⟨_,rfl,Ag.zero,Eo⟩⟩)
  ·go_wp2_with fail
   have r:=(((((a.o.set 0 (ι x.kind)).set 1 (ι x.op)).set 2 (ι x.n)).set 3 (σ x.name)).set 4 (ρ h x.args i));obtain ⟨s, t, u, y, z⟩ := τ5 r;exact Zp (v:=.tuple #[.agg #[ι x.kind,ι x.op,ι x.n,σ x.name,ρ h x.args i],ι 0,ι k]) (by simp [results,results12,go_sem,s,t,u,y,z]) rfl (by
    rw[show Qo (x,0,k)=(x,0,k)by simp [Qo,hr]];exact⟨(((((C.o.setCell (p:=⟨w.heap.size,0,none⟩) (Zb _) (ι x.kind)).setCell (p:=⟨w.heap.size,1,none⟩) (Zb _) (ι x.op)).setCell (p:=⟨w.heap.size,2,none⟩) (Zb _) (ι x.n)).setCell (p:=⟨w.heap.size,3,none⟩) (Zb _) (σ x.name)).setCell (p:=⟨w.heap.size,4,none⟩) (Zb _) (ρ h x.args i)),_,rfl,⟨_,rfl,((N.o.1).keep (Ha _ (by show ¬w.heap.size<w.heap.size;omega) _ _ _ _ _)).mono (fun b j=>Ze j),N.o.2⟩⟩)
 ·have a:=d;have g:=c;have C:=G
  go_wp2_with fail;have r:=(((((a.o.set 0 (ι x.kind)).set 1 (ι x.op)).set 2 (ι x.n)).set 3 (σ x.name)).set 4 (ρ h x.args i));obtain ⟨s, t, u, y, z⟩ := τ5 r;exact Zp (v:=.tuple #[.agg #[ι x.kind,ι x.op,ι x.n,σ x.name,ρ h x.args i],ι D,ι k]) (by simp [results,results12,go_sem,s,t,u,y,z]) rfl (by
   rw[show Qo (x,D,k)=(x,D,k)by simp [Qo,he]];exact⟨(((((C.o.setCell (p:=⟨w.heap.size,0,none⟩) (Zb _) (ι x.kind)).setCell (p:=⟨w.heap.size,1,none⟩) (Zb _) (ι x.op)).setCell (p:=⟨w.heap.size,2,none⟩) (Zb _) (ι x.n)).setCell (p:=⟨w.heap.size,3,none⟩) (Zb _) (σ x.name)).setCell (p:=⟨w.heap.size,4,none⟩) (Zb _) (ρ h x.args i)),_,rfl,⟨_,rfl,((m.o.1).keep (Ha _ (by show ¬w.heap.size<w.heap.size;omega) _ _ _ _ _)).mono (fun b j=>Ze j),m.o.2⟩⟩)
def Sn:Pr ×Int ×Int→Pr ×Int ×Int
 |(x,e,n)=>if e=0∧Eh x=false then((⟨[],[]⟩:Pr),41,1)else(x,e,n)
theorem mD(ab:Bs)(w:Zi)(K:Pr ×Int ×Int)(N:Zm (∀c,Zk w.heap.size w c→Zn Zc 27 #[.string (Aa ab),.func (.func 28) #[] #[]] c (WhP c K))):
  Zn Zc 10 #[.string (Aa ab)] w (WhP w (Sn K)):=by
 obtain⟨x,B,l⟩:=K;obtain⟨k,C⟩:∃k,w.alloc (.cells #[ν,ν] 30)=k:=⟨_,rfl⟩;have H:Zk w.heap.size w k:=C ▸ bA;have T:Ad k w.heap.size [ν,ν] 30:=C ▸ Zd w [ν,ν] 30;obtain⟨M,s,r,P⟩:=Y4 (N.o k H) H T C;clear H T C;go_enter func10,ntmps10;go_upto_region 1 with(fail);rw[P.o];clear P;go_wp2_with fail;refine M.o.mono ?_;rintro e c ⟨a,v,rfl,V⟩;dsimp only at V;obtain⟨ae,af,rfl,I,J⟩:=V;obtain⟨d,f,rfl⟩:=I.yshape;obtain⟨g,h,rfl⟩:=J.yshape;have D:=Za (s.o.trans (a.mono s.o.size));have ac:Zm (w.heap.size<c.heap.size):=(r.o.old a).lt;obtain⟨L,F⟩:=Y2 (r.o.old a) (show Cd (w.heap.size< ·) c x.arrays _∧Bw (w.heap.size< ·) c x.funcs _ from⟨I.ymono (fun b a=>by have:=s.o.size;have ad:=r.o.lt;have:k.heap.size≤b:=a;show w.heap.size<b;omega),J.ymono (fun b a=>by have:=s.o.size;have ad:=r.o.lt;have:k.heap.size≤b:=a;show w.heap.size<b;omega)⟩);clear a I J M N s r;go_upto_region 2 with(fail);obtain⟨j,m,E⟩:=Y3 (Zd c [ρ d x.arrays f,ρ g x.funcs h] 30) (L.o.alloc (.cells #[ρ d x.arrays f,ρ g x.funcs h] 30)) (D.o.alloc D.o.size (.cells #[ρ d x.arrays f,ρ g x.funcs h] 30));have G:Zk c.heap.size c (c.alloc (.cells #[ρ d x.arrays f,ρ g x.funcs h] 30)):=bA
 have n:=Za (show Cd (w.heap.size< ·) _ x.arrays _∧Bw (w.heap.size< ·) _ x.funcs _ from⟨(F.o.1).keep (Be G),(F.o.2).keep (Be G)⟩);clear G F D L;generalize c.alloc (.cells #[ρ d x.arrays f,ρ g x.funcs h] 30)=w2 at*;obtain⟨Q,U⟩:∃Q,c.heap.size=Q:=⟨_,rfl⟩;rw[U]at ac j ⊢;clear U;have Z:=j.o.at 0 _ rfl;have R:=j.o.fz 0;have aa:=j.o.at 1 _ rfl;have S:=j.o.fz 1;have W:=m.o.at 0 _ rfl;have q0:=m.o.fz 0;have X:=m.o.at 1 _ rfl;have q1:=m.o.fz 1
 by_cases he:B=0
 ·subst he
  go_wp2_with fail;refine(bT x (w.heap.size< ·) n.o.1 n.o.2).mono ?_;rintro e Y ⟨rfl,q⟩;obtain⟨t,i,A,O⟩:=Y4 (j.o.old q) (m.o.old q) (E.o.trans (q.mono E.o.size)) (show Cd (w.heap.size< ·) Y x.arrays _∧Bw (w.heap.size< ·) Y x.funcs _ from⟨(n.o.1).keep (Be q),(n.o.2).keep (Be q)⟩);clear q Z R W q0 aa S X q1;have Z:=t.o.at 0 _ rfl;have R:=t.o.fz 0;have aa:=t.o.at 1 _ rfl;have S:=t.o.fz 1;have W:=i.o.at 0 _ rfl;have q0:=i.o.fz 0;have X:=i.o.at 1 _ rfl;have q1:=i.o.fz 1
  cases hr:Eh x
  ·go_wp2_with fail
   have u:=((i.o.set 0 (ν)).set 1 (ν));obtain ⟨y, z⟩ := τ2 u;exact Zp (v:=.tuple #[.agg #[ν,ν],ι 41,ι 1]) (by simp [results,results10,go_sem,y,z]) rfl (by
    rw[show Sn (x,0,l)=((⟨[],[]⟩:Pr),41,1)by simp [Sn,hr]];exact⟨((A.o.setCell (p:=⟨w.heap.size,0,none⟩) (Zb _) (ν)).setCell (p:=⟨w.heap.size,1,none⟩) (Zb _) (ν)),_,rfl,⟨_,_,rfl,Cd.zero,Bw.zero⟩⟩)
  ·go_wp2_with fail
   have u:=((i.o.set 0 (ρ d x.arrays f)).set 1 (ρ g x.funcs h));obtain ⟨y, z⟩ := τ2 u;exact Zp (v:=.tuple #[.agg #[ρ d x.arrays f,ρ g x.funcs h],ι 0,ι l]) (by simp [results,results10,go_sem,y,z]) rfl (by
    rw[show Sn (x,0,l)=(x,0,l)by simp [Sn,hr]];exact⟨((A.o.setCell (p:=⟨w.heap.size,0,none⟩) (Zb _) (ρ d x.arrays f)).setCell (p:=⟨w.heap.size,1,none⟩) (Zb _) (ρ g x.funcs h)),_,rfl,⟨_,_,rfl,((O.o.1).keep (Vf _ (by show ¬w.heap.size<w.heap.size;omega))).ymono (fun b a=>Ze a),((O.o.2).keep (Vf _ (by show ¬w.heap.size<w.heap.size;omega))).ymono (fun b a=>Ze a)⟩⟩)
 ·have i:=m;have t:=j;have A:=E
  go_wp2_with fail;have u:=((i.o.set 0 (ρ d x.arrays f)).set 1 (ρ g x.funcs h));obtain ⟨y, z⟩ := τ2 u;exact Zp (v:=.tuple #[.agg #[ρ d x.arrays f,ρ g x.funcs h],ι B,ι l]) (by simp [results,results10,go_sem,y,z]) rfl (by
   rw[show Sn (x,B,l)=(x,B,l)by simp [Sn,he]];exact⟨((A.o.setCell (p:=⟨w.heap.size,0,none⟩) (Zb _) (ρ d x.arrays f)).setCell (p:=⟨w.heap.size,1,none⟩) (Zb _) (ρ g x.funcs h)),_,rfl,⟨_,_,rfl,((n.o.1).keep (Vf _ (by show ¬w.heap.size<w.heap.size;omega))).ymono (fun b a=>Ze a),((n.o.2).keep (Vf _ (by show ¬w.heap.size<w.heap.size;omega))).ymono (fun b a=>Ze a)⟩⟩)
end Go.Proofs.YthcpopmmlneneaaGreatDoor

/-
  tree.named and tree.Right: which programs may be. No condition beside the cells.
-/
import Derived.Laws.RangeAny
import Derived.Test.YthcpopmmlneneaaGreatDoorPt03
set_option linter.unusedVariables false
set_option linter.unusedSimpArgs false
namespace Go.Proofs.YthcpopmmlneneaaGreatDoor
open Go.RowKit Go.Proofs.Tryz
set_option maxHeartbeats 20000000
set_option maxRecDepth 100000
open Go.RowKit renaming Below→Zv
open Go renaming Calls→Zw,World→Zx,bodyPost_ret→Zy,wpQuiet_nil→Zz
open Go.Lib renaming hid→Za
open Go.Proofs.Tryz renaming prog→Zb,func99→Zi,ntmps99→Zj,results99→Zk
open World renaming cell?_alloc_lt→Zc
open Go.RowKit.Below renaming refl→Zd,setCell→Zh,alloc→Zm,drew→Zn
open List renaming setIfInBounds_toArray→Ze,set_cons_zero→Zf,set_cons_succ→Zg,getElem?_eq_getElem→Zq,any_eq_not_all_not→Zr,getElem_toArray→Zs,getElem_cons_succ→Zt,getElem_cons_zero→Zu
open Nat renaming le_refl→Zl,zero_le→Zo,lt_succ_iff_lt_or_eq→Zp
def Gz(a:Int):Bool:=decide (a=95∨(97≤a∧a≤122)∨(65≤a∧a≤90))
def Jd(a:Int):Bool:=decide (48≤a∧a≤57)
theorem Iw{a:Int}{w:Zx}:
  Zw Zb 123 #[.int .i32 a] w fun e w'=>e=.returned (.bool (Gz a))∧w=w':=by
 go_enter func123,ntmps123
 go_wp2
 all_goals go_ret
 all_goals(refine⟨Ae ?_,rfl⟩;rw[Bool.eq_iff_iff];simp [Gz];omega)
theorem Mu(a:Int)(w:Zx):
  Zw Zb 124 #[.int .i32 a] w fun e w'=>e=.returned (.bool (Jd a))∧w=w':=by
 go_enter func124,ntmps124
 go_wp2
 all_goals go_ret
 all_goals(refine⟨Ae ?_,rfl⟩;rw[Bool.eq_iff_iff];simp [Jd];omega)
theorem Wi(l:Bs){w:Zx}:
  Zw Zb 122 #[.string (Aa l)] w fun e w'=>e=.returned (.bool (Es l))∧w=w':=by
 go_enter func122,ntmps122
 go_wp2
 all_goals go_ret
 all_goals(refine⟨Ae ?_,rfl⟩;simp_all [Es,Od])
theorem Qg(c:UInt8):Gz (c.toNat:Nat)=Bu c:=by
 rw[Bool.eq_iff_iff];simp [Gz,Bu,UInt8.le_iff_toNat_le,←UInt8.toNat_inj];omega
theorem Si(c:UInt8):Jd (c.toNat:Nat)=Ax c:=by
 rw[Bool.eq_iff_iff];simp [Jd,Ax,UInt8.le_iff_toNat_le];omega
theorem Qz {a:Nat}(b:128≤a):Gz a=false:=by simp [Gz];omega
theorem Uj {a:Nat}(b:128≤a):Jd a=false:=by simp [Jd];omega
theorem Yu {c:UInt8}(a:128≤c.toNat):Bu c=false:=by rw[←Qg];exact Qz a
theorem cL {c:UInt8}(a:128≤c.toNat):Ax c=false:=by rw[←Si];exact Uj a
theorem decode_at(l:Bs)(k:Nat)(g:k<l.length):∃a d,Utf8.decode (Aa l) k=(a,d)∧1≤d∧Gz a=Bu l[k]∧Jd a=Ax l[k]∧(a<128→a=l[k].toNat∧d=1)∧a≤2147483647:=by
 have b:k<(Aa l).size:=g;have c:(Aa l)[k]'b=l[k]:=rfl;have f:=decode_le (Aa l) k
 by_cases ha:((Aa l)[k]'b).toNat<128
 ·rw[decode_ascii _ _ b ha]at f
  exact⟨_,_,decode_ascii _ _ b ha,Zl _,by rw[c];exact Qg _,by rw[c];exact Si _,fun _=>⟨by rw[c],rfl⟩,f⟩
 ·have e:=decode_high (Aa l) k b (by omega)
  have h:128≤l[k].toNat:=by rw[←c];omega
  generalize Utf8.decode (Aa l) k=q at e f ⊢;exact⟨q.1,q.2,rfl,e.2,by rw[Qz e.1,Yu h],by rw[Uj e.1,cL h],fun g=>by omega,f⟩
theorem Tu {a:Nat}(b:Gz a=true):a<128:=by simp [Gz]at b;omega
theorem Qd {a:Nat}(b:Jd a=true):a<128:=by simp [Jd]at b;omega
theorem oO(l:Bs)(B:l.length≤20)(y:l.isEmpty=false)(E:Es l=false)(w:Zx):
  Zw Zb 85 #[.string (Aa l)] w fun e w'=>e=.returned (.bool (Dx true l))∧Zv w.heap.size w w':=by
 go_enter func85,ntmps85;go_wp2_with (go_at_call 122;refine(Wi _).mono ?_;rintro e a ⟨rfl,rfl⟩)
 go_loopw [3,4] (fun _ _ wr=> ∃k:Nat,k≤l.length∧wr=w.iter (Aa l) k∧Hid (Dx true l=Dx (decide (k=0)) (l.drop k))) (fun _ _ wr=>l.length-wr.iterPos w.heap.size)
 case atStart=>exact⟨0,Zo _,rfl,rfl⟩
 case round=>
  obtain⟨k,C,rfl,b⟩:=hrel
  by_cases hlt:k<l.length
  ·have v:=fun m=>run_next_any (P:=Zb) w (Aa l) k m hlt
   obtain⟨h,d,r,A,t,s,u,D⟩:=decode_at l k hlt;rw[r]at v;obtain⟨f,n,p⟩:=Y3 t s u;have c:Hid (Dx (decide (k=0)) (l.drop k)=((Bu l[k]||(!decide (k=0) && Ax l[k])) && Dx false (l.drop (k+1)))):=by
    show _=_
    rw[List.drop_eq_getElem_cons hlt];rfl
   clear t s u r
   by_cases q:Gz h=true
   ·go_wp2_with (go_at_call 123;refine(Iw).mono ?_;rintro e a ⟨rfl,rfl⟩)
    have i:=p.o (Tu q);obtain rfl:=i.2;go_roundw
    case rel=>exact⟨k+1,by omega,rfl,by show _=_;rw[b.o,c.o,←f.o,q];simp⟩
    case measure=>simp;omega
   ·have j:Gz h=false:=by simpa using q
    clear q
    by_cases z:k=0
    ·subst z
     go_wp2_with (go_at_call 123;refine(Iw).mono ?_;rintro e a ⟨rfl,rfl⟩);go_ret
     exact⟨Ae (by rw[b.o,c.o,←f.o,j];simp),bA⟩
    ·have F:((k:Int)==0)=false:=by simpa using z
     by_cases g:Jd h=true
     ·go_wp2_with (first|(go_at_call 123;refine(Iw).mono ?_;rintro e a ⟨rfl,rfl⟩)|(go_at_call 124;refine(Mu _ _).mono ?_;rintro e a ⟨rfl,rfl⟩))
      have i:=p.o (Qd g);obtain rfl:=i.2;go_roundw
      case rel=>exact⟨k+1,by omega,rfl,by show _=_;rw[b.o,c.o,←f.o,←n.o,j,g];simp [z]⟩
      case measure=>simp;omega
     ·have x:Jd h=false:=by simpa using g
      clear g;go_wp2_with (first|(go_at_call 123;refine(Iw).mono ?_;rintro e a ⟨rfl,rfl⟩)|(go_at_call 124;refine(Mu _ _).mono ?_;rintro e a ⟨rfl,rfl⟩));go_ret
      exact⟨Ae (by rw[b.o,c.o,←f.o,←n.o,j,x];simp),bA⟩
  ·have v:=fun m=>run_next_end (P:=Zb) w (Aa l) k m hlt
   go_wp2;go_ret
   exact⟨Ae (by rw[b.o,List.drop_eq_nil_of_le (by omega)];rfl),bA⟩
theorem Lm(l:Bs)(w:Zx):
  Zw Zb 85 #[.string (Aa l)] w fun e w'=>e=.returned (.bool (Ak l))∧Zv w.heap.size w w':=by
 by_cases h0:l=[]
 ·subst h0
  go_enter func85,ntmps85;go_wp2;go_ret
  exact⟨rfl,Zd _ _⟩
 ·have b:l.isEmpty=false:=by simpa using h0
  by_cases h20:l.length≤20
  ·cases hw:Es l
   ·have a:=oO l h20 b hw w
    have e:Ak l=Dx true l:=by simp [Ak,h0,h20,hw]
    rw[e];exact a
   ·go_enter func85,ntmps85
    go_wp2_with (go_at_call 122;refine(Wi _).mono ?_;rintro e d ⟨rfl,rfl⟩);go_ret
    exact⟨Ae (by simp [Ak,hw]),Zd _ _⟩
  ·have c:20<l.length:=by omega
   go_enter func85,ntmps85;go_wp2;go_ret
   exact⟨Ae (by simp [Ak,h20]),Zd _ _⟩
theorem iQ(b d n cap:Nat)(k:FuncId)(y:Array Value)(O:∀args w,(callFunc k args).run Zb w=.ok (.enter k args) w)(w:Zx)(r s t u v:Nat→Value)(p:Nat→Bool)(L:n≤140737488355328)
  (E:∀i,i<n→w.cell? ⟨b,d+i*5,none⟩=some (r i)∧w.cell? ⟨b,d+i*5+1,none⟩=some (s i)∧w.cell? ⟨b,d+i*5+2,none⟩=some (t i)∧w.cell? ⟨b,d+i*5+3,none⟩=some (u i)∧w.cell? ⟨b,d+i*5+4,none⟩=some (v i))
  (F:∀i,i<n→∀f,Zv w.heap.size w f→Zw Zb k (#[.agg #[r i,s i,t i,u i,v i]]++y) f fun e w2=>e=.returned (.bool (p i))∧Zv f.heap.size f w2):
  Zw Zb 137 #[.slice (some ⟨b,d,none⟩) n cap,.func (.func k) #[] y] w fun e w'=>e=.returned (.int .i64 (Ff p n))∧Zv w.heap.size w w':=by
 have J:=Za F;clear F;have H:=Za E;clear E;have P:n<9223372036854775807:=by omega
 clear L;go_enter func137,ntmps137;go_wp2
 go_loopw [5,8] (fun _ q wr=> ∃j:Nat,j≤n∧q= ι j∧(∀i,i<j→p i=false)∧Zv w.heap.size w wr) (fun _ q _=>n-(intOf q).toNat)
 case atStart=>exact⟨0,Zo _,rfl,fun i m=>by omega,Zd _ _⟩
 case round=>
  obtain⟨j,M,rfl,G,a⟩:=hrel;have g:=Za G;clear G
  by_cases hlt:j<n
  ·obtain⟨z,A,B,C,D⟩:=H.o j hlt
   have Q:=Ac a z;have R:=Ac a A;have S:=Ac a B;have T:=Ac a C;have U:=Ac a D;clear z A B C D;have x:=J.o j hlt wr a;have c:=Za a;clear a;have I:=Za x;clear x;go_wp2_with fail;refine I.o.mono ?_
   cases hp:p j
   ·rintro e w2 ⟨rfl,l⟩
    have h:=Za hp;clear hp;go_wp2;go_roundw
    case rel=>exact⟨j+1,by omega,by go_num,fun i m=>by rcases Zp.1 m with K|rfl;exact g.o i K;exact h.o,c.o.trans (l.mono c.o.size)⟩
    case measure=>simp [intOf];omega
   ·rintro e w2 ⟨rfl,l⟩
    have h:=Za hp;clear hp;go_wp2;go_ret
    exact⟨Iv (Pd p j h.o g.o n hlt).symm,c.o.trans (l.mono c.o.size)⟩
  ·have N:n≤j:=by omega
   have c:=Za a;clear a;go_wp2;go_ret
   exact⟨Iv (Kw p n (fun i m=>g.o i (by omega))).symm,c.o⟩
theorem gU{a:Option Addr}{cap:Nat}{f:Value}{w:Zx}:
  Zw Zb 137 #[.slice a 0 cap,f] w fun e w'=>e=.returned (.int .i64 (-1))∧Zv w.heap.size w w':=by
 go_enter func137,ntmps137;go_wp2_with fail;refine wp_loop_rounds 1 ?_;rw[rounds_succ];go_wp2;go_ret
 exact⟨rfl,Zd _ _⟩
theorem Xv(a:Option Addr)(n cap:Nat)(k:FuncId)(f:Array Value)(u:∀args w,(callFunc k args).run Zb w=.ok (.enter k args) w)(w:Zx)(j l m o r:Nat→Value)(p:Nat→Bool)(v:n≤140737488355328)
  (g:n=0∨∃b c,a=some ⟨b,c,none⟩∧∀i,i<n→w.cell? ⟨b,c+i*5,none⟩=some (j i)∧w.cell? ⟨b,c+i*5+1,none⟩=some (l i)∧w.cell? ⟨b,c+i*5+2,none⟩=some (m i)∧w.cell? ⟨b,c+i*5+3,none⟩=some (o i)∧w.cell? ⟨b,c+i*5+4,none⟩=some (r i))
  (t:∀i,i<n→∀d,Zv w.heap.size w d→Zw Zb k (#[.agg #[j i,l i,m i,o i,r i]]++f) d fun e w2=>e=.returned (.bool (p i))∧Zv d.heap.size d w2):
  Zw Zb 97 #[.slice a n cap,.func (.func k) #[] f] w fun e w'=>e=.returned (.bool (Oy p n))∧Zv w.heap.size w w':=by
 have s:Hid (Zw Zb 137 #[.slice a n cap,.func (.func k) #[] f] w fun e w'=>e=.returned (ι (Ff p n))∧Zv w.heap.size w w'):=by
  rcases g with rfl|⟨b,c,rfl,g⟩
  ·exact gU
  ·exact iQ b c n cap k f u w j l m o r p v g t
 clear g t u v;have h:Hid (decide (0≤Ff p n)=Oy p n):=Mk p n;generalize Ff p n=y at s h;generalize Oy p n=q at h;go_enter func97,ntmps97;go_wp2_with fail;refine s.out.mono ?_;rintro e d ⟨rfl,x⟩;go_wp2;go_ret
 exact⟨Ae h.out,x⟩
theorem jG(b d n cap:Nat)(k:FuncId)(y:Array Value)(O:∀args w,(callFunc k args).run Zb w=.ok (.enter k args) w)(w:Zx)(r s t u v:Nat→Value)(p:Nat→Bool)(L:n≤140737488355328)
  (E:∀i,i<n→w.cell? ⟨b,d+i*5,none⟩=some (r i)∧w.cell? ⟨b,d+i*5+1,none⟩=some (s i)∧w.cell? ⟨b,d+i*5+2,none⟩=some (t i)∧w.cell? ⟨b,d+i*5+3,none⟩=some (u i)∧w.cell? ⟨b,d+i*5+4,none⟩=some (v i))
  (F:∀i,i<n→∀f,Zv w.heap.size w f→Zw Zb k (#[.agg #[r i,s i,t i,u i,v i]]++y) f fun e w2=>e=.returned (.bool (p i))∧Zv f.heap.size f w2):
  Zw Zb 125 #[.slice (some ⟨b,d,none⟩) n cap,.func (.func k) #[] y] w fun e w'=>e=.returned (.int .i64 (Ff p n))∧Zv w.heap.size w w':=by
 have J:=Za F;clear F;have H:=Za E;clear E;have P:n<9223372036854775807:=by omega
 clear L;go_enter func125,ntmps125;go_wp2
 go_loopw [5,8] (fun _ q wr=> ∃j:Nat,j≤n∧q= ι j∧(∀i,i<j→p i=false)∧Zv w.heap.size w wr) (fun _ q _=>n-(intOf q).toNat)
 case atStart=>exact⟨0,Zo _,rfl,fun i m=>by omega,Zd _ _⟩
 case round=>
  obtain⟨j,M,rfl,G,a⟩:=hrel;have g:=Za G;clear G
  by_cases hlt:j<n
  ·obtain⟨z,A,B,C,D⟩:=H.o j hlt
   have Q:=Ac a z;have R:=Ac a A;have S:=Ac a B;have T:=Ac a C;have U:=Ac a D;clear z A B C D;have x:=J.o j hlt wr a;have c:=Za a;clear a;have I:=Za x;clear x;go_wp2_with fail;refine I.o.mono ?_
   cases hp:p j
   ·rintro e w2 ⟨rfl,l⟩
    have h:=Za hp;clear hp;go_wp2;go_roundw
    case rel=>exact⟨j+1,by omega,by go_num,fun i m=>by rcases Zp.1 m with K|rfl;exact g.o i K;exact h.o,c.o.trans (l.mono c.o.size)⟩
    case measure=>simp [intOf];omega
   ·rintro e w2 ⟨rfl,l⟩
    have h:=Za hp;clear hp;go_wp2;go_ret
    exact⟨Iv (Pd p j h.o g.o n hlt).symm,c.o.trans (l.mono c.o.size)⟩
  ·have N:n≤j:=by omega
   have c:=Za a;clear a;go_wp2;go_ret
   exact⟨Iv (Kw p n (fun i m=>g.o i (by omega))).symm,c.o⟩
theorem eM{a:Option Addr}{cap:Nat}{f:Value}{w:Zx}:
  Zw Zb 125 #[.slice a 0 cap,f] w fun e w'=>e=.returned (.int .i64 (-1))∧Zv w.heap.size w w':=by
 go_enter func125,ntmps125;go_wp2_with fail;refine wp_loop_rounds 1 ?_;rw[rounds_succ];go_wp2;go_ret
 exact⟨rfl,Zd _ _⟩
theorem Yt(a:Option Addr)(n cap:Nat)(k:FuncId)(f:Array Value)(u:∀args w,(callFunc k args).run Zb w=.ok (.enter k args) w)(w:Zx)(j l m o r:Nat→Value)(p:Nat→Bool)(v:n≤140737488355328)
  (g:n=0∨∃b c,a=some ⟨b,c,none⟩∧∀i,i<n→w.cell? ⟨b,c+i*5,none⟩=some (j i)∧w.cell? ⟨b,c+i*5+1,none⟩=some (l i)∧w.cell? ⟨b,c+i*5+2,none⟩=some (m i)∧w.cell? ⟨b,c+i*5+3,none⟩=some (o i)∧w.cell? ⟨b,c+i*5+4,none⟩=some (r i))
  (t:∀i,i<n→∀d,Zv w.heap.size w d→Zw Zb k (#[.agg #[j i,l i,m i,o i,r i]]++f) d fun e w2=>e=.returned (.bool (p i))∧Zv d.heap.size d w2):
  Zw Zb 86 #[.slice a n cap,.func (.func k) #[] f] w fun e w'=>e=.returned (.bool (Oy p n))∧Zv w.heap.size w w':=by
 have s:Hid (Zw Zb 125 #[.slice a n cap,.func (.func k) #[] f] w fun e w'=>e=.returned (ι (Ff p n))∧Zv w.heap.size w w'):=by
  rcases g with rfl|⟨b,c,rfl,g⟩
  ·exact eM
  ·exact jG b c n cap k f u w j l m o r p v g t
 clear g t u v;have h:Hid (decide (0≤Ff p n)=Oy p n):=Mk p n;generalize Ff p n=y at s h;generalize Oy p n=q at h;go_enter func86,ntmps86;go_wp2_with fail;refine s.out.mono ?_;rintro e d ⟨rfl,x⟩;go_wp2;go_ret
 exact⟨Ae h.out,x⟩
theorem iX(b y n cap:Nat)(k:FuncId)(s:Array Value)(G:∀args w,(callFunc k args).run Zb w=.ok (.enter k args) w)(w:Zx)(q:Nat→Value)(p:Nat→Bool)(D:n≤140737488355328)
  (u:∀i,i<n→w.cell? ⟨b,y+i,none⟩=some (q i))
  (v:∀i,i<n→∀d,Zv w.heap.size w d→Zw Zb k (#[q i]++s) d fun e w2=>e=.returned (.bool (p i))∧Zv d.heap.size d w2):
  Zw Zb 121 #[.slice (some ⟨b,y,none⟩) n cap,.func (.func k) #[] s] w fun e w'=>e=.returned (.int .i64 (Ff p n))∧Zv w.heap.size w w':=by
 have B:=Za v;clear v;have z:=Za u;clear u;have H:n<9223372036854775807:=by omega
 clear D;go_enter func121,ntmps121;go_wp2
 go_loopw [5,8] (fun _ m wr=> ∃j:Nat,j≤n∧m= ι j∧(∀i,i<j→p i=false)∧Zv w.heap.size w wr) (fun _ m _=>n-(intOf m).toNat)
 case atStart=>exact⟨0,Zo _,rfl,fun i l=>by omega,Zd _ _⟩
 case round=>
  obtain⟨j,E,rfl,x,c⟩:=hrel;have f:=Za x;clear x
  by_cases hlt:j<n
  ·have t:=z.o j hlt
   have I:=Ac c t;clear t;have r:=B.o j hlt wr c;have a:=Za c;clear c;have A:=Za r;clear r;go_wp2_with fail;refine A.o.mono ?_
   cases hp:p j
   ·rintro e w2 ⟨rfl,h⟩
    have g:=Za hp;clear hp;go_wp2;go_roundw
    case rel=>exact⟨j+1,by omega,by go_num,fun i l=>by rcases Zp.1 l with C|rfl;exact f.o i C;exact g.o,a.o.trans (h.mono a.o.size)⟩
    case measure=>simp [intOf];omega
   ·rintro e w2 ⟨rfl,h⟩
    have g:=Za hp;clear hp;go_wp2;go_ret
    exact⟨Iv (Pd p j g.o f.o n hlt).symm,a.o.trans (h.mono a.o.size)⟩
  ·have F:n≤j:=by omega
   have a:=Za c;clear c;go_wp2;go_ret
   exact⟨Iv (Kw p n (fun i l=>f.o i (by omega))).symm,a.o⟩
theorem fM{a:Option Addr}{cap:Nat}{f:Value}{w:Zx}:
  Zw Zb 121 #[.slice a 0 cap,f] w fun e w'=>e=.returned (.int .i64 (-1))∧Zv w.heap.size w w':=by
 go_enter func121,ntmps121;go_wp2_with fail;refine wp_loop_rounds 1 ?_;rw[rounds_succ];go_wp2;go_ret
 exact⟨rfl,Zd _ _⟩
theorem Xy(a:Option Addr)(n cap:Nat)(k:FuncId)(d:Array Value)(o:∀args w,(callFunc k args).run Zb w=.ok (.enter k args) w)(w:Zx)(j:Nat→Value)(p:Nat→Bool)(r:n≤140737488355328)
  (f:n=0∨∃b g,a=some ⟨b,g,none⟩∧∀i,i<n→w.cell? ⟨b,g+i,none⟩=some (j i))
  (m:∀i,i<n→∀c,Zv w.heap.size w c→Zw Zb k (#[j i]++d) c fun e w2=>e=.returned (.bool (p i))∧Zv c.heap.size c w2):
  Zw Zb 83 #[.slice a n cap,.func (.func k) #[] d] w fun e w'=>e=.returned (.bool (Oy p n))∧Zv w.heap.size w w':=by
 have l:Hid (Zw Zb 121 #[.slice a n cap,.func (.func k) #[] d] w fun e w'=>e=.returned (ι (Ff p n))∧Zv w.heap.size w w'):=by
  rcases f with rfl|⟨b,g,rfl,f⟩
  ·exact fM
  ·exact iX b g n cap k d o w j p r f m
 clear f m o r;have h:Hid (decide (0≤Ff p n)=Oy p n):=Mk p n;generalize Ff p n=t at l h;generalize Oy p n=q at h;go_enter func83,ntmps83;go_wp2_with fail;refine l.out.mono ?_;rintro e c ⟨rfl,s⟩;go_wp2;go_ret
 exact⟨Ae h.out,s⟩
theorem Cs {l:List Ex}{i:Nat}(a:i<l.length):Bx l i∈l:=by
 simp only[Bx,List.getD_eq_getElem?_getD,Zq a,Option.getD_some];exact List.getElem_mem a
theorem Ro {l:List Ex}{i:Nat}(a:i<l.length):Bx l i=l[i]:=by
 simp [Bx,Zq a]
theorem Jy {l:List St}{i:Nat}(a:i<l.length):Fk l i∈l:=by
 simp only[Fk,List.getD_eq_getElem?_getD,Zq a,Option.getD_some];exact List.getElem_mem a
theorem iE {l:List St}{i:Nat}(a:i<l.length):Fk l i=l[i]:=by
 simp [Fk,Zq a]
theorem Nm(k:FuncId)(h:Array Value)(r:∀args w,(callFunc k args).run Zb w=.ok (.enter k args) w)(l:List Ex)(s:Value)(D:Nat→Prop){w:Zx}(p:Ag D w l s)(f:Ex→Bool)
  (q:∀e o d,e∈l→Zv w.heap.size w d→Ag D d e.args o→Zw Zb k (#[exV e o]++h) d fun j w2=>j=.returned (.bool (f e))∧Zv d.heap.size d w2):
  Zw Zb 97 #[s,.func (.func k) #[] h] w fun j w'=>j=.returned (.bool (l.any f))∧Zv w.heap.size w w':=by
 cases p with
 |mk _ a cap b off sv hcap hfit g h0 h1 h2 h3 h4 hs=>
  rw[←Tc f (fun i=>f (Bx l i)) l (fun i c=>by rw[Ro c])];refine Xv a l.length cap k h r w (fun i=> ι (Bx l i).kind) (fun i=> ι (Bx l i).op) (fun i=> ι (Bx l i).n) (fun i=>.string (Aa (Bx l i).name)) sv (fun i=>f (Bx l i)) (hfit).out ?_ ?_
  ·rcases g with g|⟨g,_⟩
   ·exact .inl g
   ·exact .inr ⟨b,off,g,fun i c=>⟨h0 i c,h1 i c,h2 i c,h3 i c,h4 i c⟩⟩
  ·intro i c d m
   exact q (Bx l i) (sv i) d (Cs c) m ((hs i c).old m)
abbrev stV(x:St)(a t e:Value):Value:=.agg #[.int .i64 x.kind,.string (Aa x.name),a,t,e]
theorem dF(k:FuncId){j:Array Value}(p:∀args w,(callFunc k args).run Zb w=.ok (.enter k args) w)(l:List St)(s:Value)(D:Nat→Prop){w:Zx}(n:Au D w l s)(f:St→Bool)
  (o:∀x a t e d,x∈l→Zv w.heap.size w d→Ag D d x.args a→Au D d x.thn t→Au D d x.els e→Zw Zb k (#[stV x a t e]++j) d fun m w2=>m=.returned (.bool (f x))∧Zv d.heap.size d w2):
  Zw Zb 86 #[s,.func (.func k) #[] j] w fun m w'=>m=.returned (.bool (l.any f))∧Zv w.heap.size w w':=by
 cases n with
 |mk _ a cap b off sa st se hcap hfit g h0 h1 h2 h3 h4 ea et ee=>
  rw[←Tc f (fun i=>f (Fk l i)) l (fun i c=>by rw[iE c])];refine Yt a l.length cap k j p w (fun i=> ι (Fk l i).kind) (fun i=>.string (Aa (Fk l i).name)) sa st se (fun i=>f (Fk l i)) (hfit).out ?_ ?_
  ·rcases g with g|⟨g,_⟩
   ·exact .inl g
   ·exact .inr ⟨b,off,g,fun i c=>⟨h0 i c,h1 i c,h2 i c,h3 i c,h4 i c⟩⟩
  ·intro i c d h
   exact o (Fk l i) (sa i) (st i) (se i) d (Jy c) h ((ea i c).old h) ((et i c).old h) ((ee i c).old h)
def yE(a:Nat):Prop:= ∀(D:Nat→Prop) (e:Ex) (s:Value) (w:Zx),Ag D w e.args s→
 Zw Zb 51 #[exV e s,.int .i64 a] w fun b w'=>b=.returned (.bool (Ic a e))∧Zv w.heap.size w w'
theorem deep_fn(a:Nat)(h:yE a)(D:Nat→Prop)(e:Ex)(s:Value)(w:Zx)(b:Ag D w e.args s){B:Nat}(f:w.cell? ⟨B,0,none⟩=some (.int .i64 (a+1)))(j:a≤1000):
  Zw Zb 98 #[exV e s,.pointer (some ⟨B,0,none⟩)] w fun c w'=>c=.returned (.bool (!Ic a e))∧Zv w.heap.size w w':=by
 have d:=Za b;clear b;have i:B<w.heap.size:=World.block_lt_of_cell? _ _ f;go_enter func98,ntmps98;go_wp2_with fail;refine(h D e s _ (d.out.old (bA))).mono ?_;rintro c k ⟨rfl,g⟩;go_wp2;go_ret
 exact⟨rfl,(bA).trans (g.mono (by simp))⟩
theorem fK:∀a,a≤1000→yE a
 |0,_=>by
  intro D e s w _;go_enter func51,ntmps51;go_wp2;go_ret
  exact⟨rfl,(bA).alloc (by simp) _⟩
 |a+1,hm=>by
  intro D e s w c;obtain⟨g,f⟩:=Y2 (fK a (by omega)) c;clear c;have i:(0:Int)<(a:Int)+1:=by omega
  go_enter func51,ntmps51;go_wp2_with fail;refine(Nm 98 _ Tryz.call98 e.args s D (f.out.old ((bA).alloc (by simp) _)) (fun x=> !Ic a x) ?_).mono ?_
  ·intro x h d _ b hx
   exact deep_fn a g.out D x h d hx (Ac b (by simp)) (by omega)
  ·rintro j d ⟨rfl,b⟩
   go_wp2;go_ret
   exact⟨Ae (by simp [Ic,Zr]),((bA).alloc (by simp) _).trans (b.mono (by simp;omega))⟩
theorem xZ{a n:Int}{nm:Bs}{s:Value}{w:Zx}:
  Zw Zb 99 #[.agg #[.int .i64 1,.int .i64 a,.int .i64 n,.string (Aa nm),s]] w fun b w'=>b=.returned (.tuple #[.agg #[.int .i64 1,.int .i64 0,.int .i64 n,.string (Aa []),.slice none 0 0],.int .i64 0,.bool (decide (0≤n))])∧Zv w.heap.size w w':=by
 go_enter Zi,Zj;go_wp2_with fail
 go_region;go_wp2_with fail
 all_goals(refine Zy (v:=.tuple #[.agg #[ι 1,ι 0,ι n,.string (Aa []),ν],ι 0,.bool (decide (0≤n))]) (by simp [results,Zk,go_sem]) rfl ⟨rfl,?_⟩)
 all_goals(repeat(first|exact Zd _ _|refine Zh ?_ (by simp) _|refine Zn ?_ |refine Zm ?_ (by simp) _))
theorem sG{f n:Int}{nm:Bs}{s:Value}{w:Zx}:
  Zw Zb 99 #[.agg #[.int .i64 2,.int .i64 f,.int .i64 n,.string (Aa nm),s]] w fun g w'=>g=.returned (.tuple #[.agg #[.int .i64 2,.int .i64 0,.int .i64 0,.string (Aa nm),.slice none 0 0],.int .i64 0,.bool (Ak nm)])∧Zv w.heap.size w w':=by
 go_enter Zi,Zj;go_wp2_with fail
 go_region_held3 (fun w'=>w'.cell? ⟨w.heap.size,3,none⟩=some (σ nm)∧w'.cell? ⟨w.heap.size+1,0,none⟩=some (ι 2)∧w'.cell? ⟨w.heap.size+1,1,none⟩=some (ι 0)∧w'.cell? ⟨w.heap.size+1,2,none⟩=some (ι 0)∧w'.cell? ⟨w.heap.size+1,3,none⟩=some (σ nm)∧w'.cell? ⟨w.heap.size+1,4,none⟩=some (ν)) (first|(simp [*,Af,Zc];done)|go_keep) (first|(go_at_call 85;refine(Lm _ _).mono ?_;rintro e b ⟨d,a⟩;subst d;obtain⟨c,o⟩:=Uk a;have p:w.heap.size+1<b.heap.size:=(by have:=a.size;simp at this;omega);have h:b.cell? ⟨w.heap.size,3,none⟩=some (σ nm):=Ac a (by simp [Zc]);have i:b.cell? ⟨w.heap.size+1,0,none⟩=some (ι 2):=Ac a (by simp [Zc]);have j:b.cell? ⟨w.heap.size+1,1,none⟩=some (ι 0):=Ac a (by simp [Zc]);have k:b.cell? ⟨w.heap.size+1,2,none⟩=some (ι 0):=Ac a (by simp [Zc]);have l:b.cell? ⟨w.heap.size+1,3,none⟩=some (σ nm):=Ac a (by simp [Zc]);have m:b.cell? ⟨w.heap.size+1,4,none⟩=some (ν):=Ac a (by simp [Zc])))
 go_wp2_with fail
 all_goals(refine Zy (v:=.tuple #[.agg #[ι 2,ι 0,ι 0,σ nm,ν],ι 0,.bool (Ak nm)]) (by simp [results,Zk,go_sem,c]) rfl ⟨rfl,?_⟩)
 all_goals(repeat(refine Zh ?_ (by simp) _))
 all_goals(exact((bA).alloc (by simp) _).drew.trans (a.mono (by simp;omega)))
theorem lS{n:Int}{nm:Bs}{s:Value}{w:Zx}:
  Zw Zb 99 #[.agg #[.int .i64 3,.int .i64 17,.int .i64 n,.string (Aa nm),s]] w fun a w'=>a=.returned (.tuple #[.agg #[.int .i64 3,.int .i64 17,.int .i64 0,.string (Aa []),.slice none 0 0],.int .i64 1,.bool true])∧Zv w.heap.size w w':=by
 go_enter Zi,Zj;go_wp2_with fail
 go_region;go_wp2_with fail
 all_goals(refine Zy (v:=.tuple #[.agg #[ι 3,ι 17,ι 0,.string (Aa []),ν],ι 1,.bool true]) (by simp [results,Zk,go_sem]) rfl ⟨rfl,?_⟩)
 all_goals(repeat(first|exact Zd _ _|refine Zh ?_ (by simp) _|refine Zn ?_ |refine Zm ?_ (by simp) _))
theorem kA{n:Int}{nm:Bs}{s:Value}{w:Zx}:
  Zw Zb 99 #[.agg #[.int .i64 3,.int .i64 18,.int .i64 n,.string (Aa nm),s]] w fun a w'=>a=.returned (.tuple #[.agg #[.int .i64 3,.int .i64 18,.int .i64 0,.string (Aa []),.slice none 0 0],.int .i64 1,.bool true])∧Zv w.heap.size w w':=by
 go_enter Zi,Zj;go_wp2_with fail
 go_region;go_wp2_with fail
 all_goals(refine Zy (v:=.tuple #[.agg #[ι 3,ι 18,ι 0,.string (Aa []),ν],ι 1,.bool true]) (by simp [results,Zk,go_sem]) rfl ⟨rfl,?_⟩)
 all_goals(repeat(first|exact Zd _ _|refine Zh ?_ (by simp) _|refine Zn ?_ |refine Zm ?_ (by simp) _))
theorem lY{n:Int}{nm:Bs}{s:Value}{w:Zx}:
  Zw Zb 99 #[.agg #[.int .i64 3,.int .i64 19,.int .i64 n,.string (Aa nm),s]] w fun a w'=>a=.returned (.tuple #[.agg #[.int .i64 3,.int .i64 19,.int .i64 0,.string (Aa []),.slice none 0 0],.int .i64 1,.bool true])∧Zv w.heap.size w w':=by
 go_enter Zi,Zj;go_wp2_with fail
 go_region;go_wp2_with fail
 all_goals(refine Zy (v:=.tuple #[.agg #[ι 3,ι 19,ι 0,.string (Aa []),ν],ι 1,.bool true]) (by simp [results,Zk,go_sem]) rfl ⟨rfl,?_⟩)
 all_goals(repeat(first|exact Zd _ _|refine Zh ?_ (by simp) _|refine Zn ?_ |refine Zm ?_ (by simp) _))
theorem tB(a n:Int)(nm:Bs){s:Value}(w:Zx)(b:a≠17)(c:a≠18)(d:a≠19):
  Zw Zb 99 #[.agg #[.int .i64 3,.int .i64 a,.int .i64 n,.string (Aa nm),s]] w fun e w'=>e=.returned (.tuple #[.agg #[.int .i64 3,.int .i64 a,.int .i64 0,.string (Aa []),.slice none 0 0],.int .i64 1,.bool false])∧Zv w.heap.size w w':=by
 have f:(a==17)=false:=by simpa using b
 have g:(a==18)=false:=by simpa using c
 have h:(a==19)=false:=by simpa using d
 clear b c d;go_enter Zi,Zj;go_wp2_with fail
 go_region;go_wp2_with fail
 all_goals(refine Zy (v:=.tuple #[.agg #[ι 3,ι a,ι 0,.string (Aa []),ν],ι 1,.bool false]) (by simp [results,Zk,go_sem]) rfl ⟨rfl,?_⟩)
 all_goals(repeat(first|exact Zd _ _|refine Zh ?_ (by simp) _|refine Zn ?_ |refine Zm ?_ (by simp) _))
theorem xX{b n:Int}{nm:Bs}{s:Value}{w:Zx}:
  Zw Zb 99 #[.agg #[.int .i64 4,.int .i64 b,.int .i64 n,.string (Aa nm),s]] w fun g w'=>g=.returned (.tuple #[.agg #[.int .i64 4,.int .i64 b,.int .i64 0,.string (Aa []),.slice none 0 0],.int .i64 2,.bool (decide (0<Ao b))])∧Zv w.heap.size w w':=by
 go_enter Zi,Zj;go_wp2_with fail
 go_region_held3 (fun w'=>w'.cell? ⟨w.heap.size,1,none⟩=some (ι b)∧w'.cell? ⟨w.heap.size+1,0,none⟩=some (ι 4)∧w'.cell? ⟨w.heap.size+1,1,none⟩=some (ι b)∧w'.cell? ⟨w.heap.size+1,2,none⟩=some (ι 0)∧w'.cell? ⟨w.heap.size+1,3,none⟩=some (.string (Aa []))∧w'.cell? ⟨w.heap.size+1,4,none⟩=some (ν)) (first|(simp [*,Af,Zc];done)|go_keep) (first|(go_at_call 55;refine(Km _ _).mono ?_;rintro e c ⟨f,a⟩;subst f;obtain⟨d,o⟩:=Uk a;have p:w.heap.size+1<c.heap.size:=(by have:=a.size;simp at this;omega);have h:c.cell? ⟨w.heap.size,1,none⟩=some (ι b):=Ac a (by simp [Zc]);have i:c.cell? ⟨w.heap.size+1,0,none⟩=some (ι 4):=Ac a (by simp [Zc]);have j:c.cell? ⟨w.heap.size+1,1,none⟩=some (ι b):=Ac a (by simp [Zc]);have k:c.cell? ⟨w.heap.size+1,2,none⟩=some (ι 0):=Ac a (by simp [Zc]);have l:c.cell? ⟨w.heap.size+1,3,none⟩=some (.string (Aa [])):=Ac a (by simp [Zc]);have m:c.cell? ⟨w.heap.size+1,4,none⟩=some (ν):=Ac a (by simp [Zc])))
 go_wp2_with fail
 all_goals(refine Zy (v:=.tuple #[.agg #[ι 4,ι b,ι 0,.string (Aa []),ν],ι 2,.bool (decide (0<Ao b))]) (by simp [results,Zk,go_sem,d]) rfl ⟨rfl,?_⟩)
 all_goals(repeat(refine Zh ?_ (by simp) _))
 all_goals(exact((bA).alloc (by simp) _).drew.trans (a.mono (by simp;omega)))
theorem nU(i n:Int)(nm:Bs)(a:Option Addr)(d cap:Nat)(h:Ak nm=true)(w:Zx):
  Zw Zb 99 #[.agg #[.int .i64 5,.int .i64 i,.int .i64 n,.string (Aa nm),.slice a d cap]] w fun j w'=>j=.returned (.tuple #[.agg #[.int .i64 5,.int .i64 0,.int .i64 0,.string (Aa nm),.slice none 0 0],.int .i64 d,.bool (decide ((d:Int)≤6))])∧Zv w.heap.size w w':=by
 go_enter Zi,Zj;go_wp2_with fail
 go_region_held3 (fun w'=>w'.cell? ⟨w.heap.size,3,none⟩=some (σ nm)∧w'.cell? ⟨w.heap.size,4,none⟩=some (.slice a d cap)∧w'.cell? ⟨w.heap.size+1,0,none⟩=some (ι 5)∧w'.cell? ⟨w.heap.size+1,1,none⟩=some (ι 0)∧w'.cell? ⟨w.heap.size+1,2,none⟩=some (ι 0)∧w'.cell? ⟨w.heap.size+1,3,none⟩=some (σ nm)∧w'.cell? ⟨w.heap.size+1,4,none⟩=some (ν)) (first|(simp [*,Af,Zc];done)|go_keep) (first|(go_at_call 85;refine(Lm _ _).mono ?_;rintro e c ⟨f,b⟩;rw[h]at f;subst f;obtain⟨g,s⟩:=Uk b;have t:w.heap.size+1<c.heap.size:=(by have:=b.size;simp at this;omega);have k:c.cell? ⟨w.heap.size,3,none⟩=some (σ nm):=Ac b (by simp [Zc]);have l:c.cell? ⟨w.heap.size,4,none⟩=some (.slice a d cap):=Ac b (by simp [Zc]);have m:c.cell? ⟨w.heap.size+1,0,none⟩=some (ι 5):=Ac b (by simp [Zc]);have o:c.cell? ⟨w.heap.size+1,1,none⟩=some (ι 0):=Ac b (by simp [Zc]);have p:c.cell? ⟨w.heap.size+1,2,none⟩=some (ι 0):=Ac b (by simp [Zc]);have q:c.cell? ⟨w.heap.size+1,3,none⟩=some (σ nm):=Ac b (by simp [Zc]);have r:c.cell? ⟨w.heap.size+1,4,none⟩=some (ν):=Ac b (by simp [Zc])))
 go_wp2_with fail
 all_goals(refine Zy (v:=.tuple #[.agg #[ι 5,ι 0,ι 0,σ nm,ν],ι d,.bool (decide ((d:Int)≤6))]) (by simp [results,Zk,go_sem,g]) rfl ⟨rfl,?_⟩)
 all_goals(repeat(refine Zh ?_ (by simp) _))
 all_goals(exact((bA).alloc (by simp) _).drew.trans (b.mono (by simp;omega)))
theorem jV(p n:Int)(nm:Bs)(a:Option Addr)(j cap:Nat)(o:Ak nm=false)(w:Zx):
  Zw Zb 99 #[.agg #[.int .i64 5,.int .i64 p,.int .i64 n,.string (Aa nm),.slice a j cap]] w fun q w'=>q=.returned (.tuple #[.agg #[.int .i64 5,.int .i64 0,.int .i64 0,.string (Aa nm),.slice none 0 0],.int .i64 j,.bool false])∧Zv w.heap.size w w':=by
 go_enter Zi,Zj;go_wp2_with fail;refine wp_region_held_drew (S:=(fun w'=>w'.cell? ⟨w.heap.size,3,none⟩=some (σ nm)∧w'.cell? ⟨w.heap.size,4,none⟩=some (.slice a j cap)∧w'.cell? ⟨w.heap.size+1,0,none⟩=some (ι 5)∧w'.cell? ⟨w.heap.size+1,1,none⟩=some (ι 0)∧w'.cell? ⟨w.heap.size+1,2,none⟩=some (ι 0)∧w'.cell? ⟨w.heap.size+1,3,none⟩=some (σ nm)∧w'.cell? ⟨w.heap.size+1,4,none⟩=some (ν))) (by kernel_rfl) ?_ (fun k=>?_)
 ·(first|(simp [*,Af,Zc];done)|go_keep)
 refine wpAnyH_take (i:=0) (v:= ?_) rfl (by kernel_rfl) (by kernel_rfl) (by kernel_rfl) (fun _ _ _ b=>b) (Or.inl ⟨rfl,?_⟩) (by assumption) ?_;rotate_left 1
 ·intro w c;(try dsimp only at c);go_simp;(try with_reducible rfl)
 (try simp only[Act.put,Ze,Zf,Zg]);refine wpAnyH_take (i:=1) (v:= ?_) rfl (by kernel_rfl) (by kernel_rfl) (by kernel_rfl) (fun _ _ _ b=>b) (Or.inl ⟨rfl,?_⟩) (by assumption) ?_;rotate_left 1
 ·intro w c;(try dsimp only at c);go_simp;(try with_reducible rfl)
 (try simp only[Act.put,Ze,Zf,Zg]);refine wpAnyH_take (i:=2) (v:= ?_) rfl (by kernel_rfl) (by kernel_rfl) (by kernel_rfl) (fun _ _ _ b=>b) (Or.inl ⟨rfl,?_⟩) (by assumption) ?_;rotate_left 1
 ·intro w c;(try dsimp only at c);go_simp;(try with_reducible rfl)
 (try simp only[Act.put,Ze,Zf,Zg]);refine wpAnyH_take (i:=3) (v:= ?_) rfl (by kernel_rfl) (by kernel_rfl) (by kernel_rfl) (fun _ _ _ b=>b) (Or.inl ⟨rfl,?_⟩) (by assumption) ?_;rotate_left 1
 ·intro w c;(try dsimp only at c);go_simp;(try with_reducible rfl)
 (try simp only[Act.put,Ze,Zf,Zg]);refine wpAnyH_take (i:=4) (v:= ?_) rfl (by kernel_rfl) (by kernel_rfl) (by kernel_rfl) (fun _ _ _ b=>b) (Or.inl ⟨rfl,?_⟩) (by assumption) ?_;rotate_left 1
 ·intro w c;(try dsimp only at c);go_simp;(try with_reducible rfl)
 (try simp only[Act.put,Ze,Zf,Zg]);refine wpAnyH_take (i:=5) (v:= ?_) rfl (by kernel_rfl) (by kernel_rfl) (by kernel_rfl) (fun _ _ _ b=>b) (Or.inl ⟨rfl,?_⟩) (by assumption) ?_;rotate_left 1
 ·intro w c;(try dsimp only at c);go_simp;(try with_reducible rfl)
 (try simp only[Act.put,Ze,Zf,Zg]);refine wpAnyH_ready (rs:=[6]) (by kernel_rfl) (by simp) ?_;refine AllReadyH.cons rfl (fun h d=>?_) AllReadyH.nil;(try simp only[Zs,Zt,Zu]);go_simp;go_at_call 85;refine(Lm _ _).mono ?_;rintro e g ⟨l,f⟩;rw[o]at l;subst l;obtain⟨m,A⟩:=Uk f;have B:w.heap.size+1<g.heap.size:=(by have:=f.size;simp at this;omega);have r:g.cell? ⟨w.heap.size,3,none⟩=some (σ nm):=Ac f (by simp [Zc]);have s:g.cell? ⟨w.heap.size,4,none⟩=some (.slice a j cap):=Ac f (by simp [Zc]);have t:g.cell? ⟨w.heap.size+1,0,none⟩=some (ι 5):=Ac f (by simp [Zc]);have u:g.cell? ⟨w.heap.size+1,1,none⟩=some (ι 0):=Ac f (by simp [Zc]);have x:g.cell? ⟨w.heap.size+1,2,none⟩=some (ι 0):=Ac f (by simp [Zc]);have y:g.cell? ⟨w.heap.size+1,3,none⟩=some (σ nm):=Ac f (by simp [Zc]);have z:g.cell? ⟨w.heap.size+1,4,none⟩=some (ν):=Ac f (by simp [Zc]);refine d.out _ _ ?_ (fun k=>?_)
 ·(try dsimp only);(first|(simp [*,Af,Zc];done)|go_keep)
 clear d h;(try simp only[Act.put,Ze,Zf,Zg]);refine wpAnyH_take (i:=7) (v:= ?_) rfl (by kernel_rfl) (by kernel_rfl) (by kernel_rfl) (fun _ _ _ b=>b) (Or.inl ⟨rfl,?_⟩) (by assumption) ?_;rotate_left 1
 ·intro w c;(try dsimp only at c);go_simp;(try with_reducible rfl)
 (try simp only[Act.put,Ze,Zf,Zg]);refine wpAnyH_take (i:=8) rfl (by kernel_rfl) (by kernel_rfl) (by kernel_rfl) (fun _ _ _ b=>b) (Or.inr ⟨rfl,rfl⟩) (by assumption) ?_;(try simp only[Act.put,Ze,Zf,Zg]);refine wpAnyH_take (i:=9) rfl (by kernel_rfl) (by kernel_rfl) (by kernel_rfl) (fun _ _ _ b=>b) (Or.inr ⟨rfl,rfl⟩) (by assumption) ?_;(try simp only[Act.put,Ze,Zf,Zg]);refine wpAnyH_take (i:=10) rfl (by kernel_rfl) (by kernel_rfl) (by kernel_rfl) (fun _ _ _ b=>b) (Or.inr ⟨rfl,rfl⟩) (by assumption) ?_;(try simp only[Act.put,Ze,Zf,Zg]);refine wpAnyH_take (i:=11) rfl (by kernel_rfl) (by kernel_rfl) (by kernel_rfl) (fun _ _ _ b=>b) (Or.inr ⟨rfl,rfl⟩) (by assumption) ?_;(try simp only[Act.put,Ze,Zf,Zg]);refine wpAnyH_take (i:=12) (v:= ?_) rfl (by kernel_rfl) (by kernel_rfl) (by kernel_rfl) (fun _ _ _ b=>b) (Or.inl ⟨rfl,?_⟩) (by assumption) ?_;rotate_left 1
 ·intro w c;(try dsimp only at c);go_simp;(try with_reducible rfl)
 (try simp only[Act.put,Ze,Zf,Zg]);refine wpAnyH_ready (rs:=[13]) (by kernel_rfl) (by simp) ?_;refine AllReadyH.cons rfl (fun h d=>?_) AllReadyH.nil;(try simp only[Zs,Zt,Zu]);go_simp;refine d.out _ _ ?_ (fun k=>?_)
 ·(try dsimp only);(first|(simp [*,Af,Zc];done)|go_keep)
 clear d h;(try simp only[Act.put,Ze,Zf,Zg]);refine wpAnyH_ready (rs:=[14]) (by kernel_rfl) (by simp) ?_;refine AllReadyH.cons rfl (fun h d=>?_) AllReadyH.nil;(try simp only[Zs,Zt,Zu]);go_simp;refine d.out _ _ ?_ (fun k=>?_)
 ·(try dsimp only);(first|(simp [*,Af,Zc];done)|go_keep)
 clear d h;(try simp only[Act.put,Ze,Zf,Zg]);refine wpAnyH_ready (rs:=[15]) (by kernel_rfl) (by simp) ?_;refine AllReadyH.cons rfl (fun h d=>?_) AllReadyH.nil;(try simp only[Zs,Zt,Zu]);go_simp;refine d.out _ _ ?_ (fun k=>?_)
 ·(try dsimp only);(first|(simp [*,Af,Zc];done)|go_keep)
 clear d h;(try simp only[Act.put,Ze,Zf,Zg]);refine wpAnyH_done (by kernel_rfl) ?_ _;go_wp2_with fail
 all_goals(refine Zy (v:=.tuple #[.agg #[ι 5,ι 0,ι 0,σ nm,ν],ι j,.bool false]) (by simp [results,Zk,go_sem,m]) rfl ⟨rfl,?_⟩)
 all_goals(repeat(refine Zh ?_ (by simp) _))
 all_goals(exact((bA).alloc (by simp) _).drew.trans (f.mono (by simp;omega)))
theorem kN{f n:Int}{nm:Bs}{s:Value}{w:Zx}:
  Zw Zb 99 #[.agg #[.int .i64 6,.int .i64 f,.int .i64 n,.string (Aa nm),s]] w fun g w'=>g=.returned (.tuple #[.agg #[.int .i64 6,.int .i64 0,.int .i64 0,.string (Aa nm),.slice none 0 0],.int .i64 1,.bool (Ak nm)])∧Zv w.heap.size w w':=by
 go_enter Zi,Zj;go_wp2_with fail
 go_region_held3 (fun w'=>w'.cell? ⟨w.heap.size,3,none⟩=some (σ nm)∧w'.cell? ⟨w.heap.size+1,0,none⟩=some (ι 6)∧w'.cell? ⟨w.heap.size+1,1,none⟩=some (ι 0)∧w'.cell? ⟨w.heap.size+1,2,none⟩=some (ι 0)∧w'.cell? ⟨w.heap.size+1,3,none⟩=some (σ nm)∧w'.cell? ⟨w.heap.size+1,4,none⟩=some (ν)) (first|(simp [*,Af,Zc];done)|go_keep) (first|(go_at_call 85;refine(Lm _ _).mono ?_;rintro e b ⟨d,a⟩;subst d;obtain⟨c,o⟩:=Uk a;have p:w.heap.size+1<b.heap.size:=(by have:=a.size;simp at this;omega);have h:b.cell? ⟨w.heap.size,3,none⟩=some (σ nm):=Ac a (by simp [Zc]);have i:b.cell? ⟨w.heap.size+1,0,none⟩=some (ι 6):=Ac a (by simp [Zc]);have j:b.cell? ⟨w.heap.size+1,1,none⟩=some (ι 0):=Ac a (by simp [Zc]);have k:b.cell? ⟨w.heap.size+1,2,none⟩=some (ι 0):=Ac a (by simp [Zc]);have l:b.cell? ⟨w.heap.size+1,3,none⟩=some (σ nm):=Ac a (by simp [Zc]);have m:b.cell? ⟨w.heap.size+1,4,none⟩=some (ν):=Ac a (by simp [Zc])))
 go_wp2_with fail
 all_goals(refine Zy (v:=.tuple #[.agg #[ι 6,ι 0,ι 0,σ nm,ν],ι 1,.bool (Ak nm)]) (by simp [results,Zk,go_sem,c]) rfl ⟨rfl,?_⟩)
 all_goals(repeat(refine Zh ?_ (by simp) _))
 all_goals(exact((bA).alloc (by simp) _).drew.trans (a.mono (by simp;omega)))
theorem qQ{a n:Int}{nm:Bs}{s:Value}{w:Zx}:
  Zw Zb 99 #[.agg #[.int .i64 7,.int .i64 a,.int .i64 n,.string (Aa nm),s]] w fun b w'=>b=.returned (.tuple #[.agg #[.int .i64 7,.int .i64 0,.int .i64 0,.string (Aa []),.slice none 0 0],.int .i64 0,.bool true])∧Zv w.heap.size w w':=by
 go_enter Zi,Zj;go_wp2_with fail
 all_goals(refine Zy (v:=.tuple #[.agg #[ι 7,ι 0,ι 0,.string (Aa []),ν],ι 0,.bool true]) (by simp [results,Zk,go_sem]) rfl ⟨rfl,?_⟩)
 all_goals(repeat(first|exact Zd _ _|refine Zh ?_ (by simp) _|refine Zn ?_ |refine Zm ?_ (by simp) _))
theorem iJ(k:Int)(c:(k==1)=false)(d:(k==2)=false)(e:(k==3)=false)(f:(k==4)=false)(g:(k==5)=false)(h:(k==6)=false)(i:(k==7)=false)(a n:Int)(nm:Bs){s:Value}(w:Zx):
  Zw Zb 99 #[.agg #[.int .i64 k,.int .i64 a,.int .i64 n,.string (Aa nm),s]] w fun b w'=>b=.returned (.tuple #[.agg #[.int .i64 k,.int .i64 0,.int .i64 0,.string (Aa []),.slice none 0 0],.int .i64 0,.bool false])∧Zv w.heap.size w w':=by
 go_enter Zi,Zj;go_wp2_with fail
 all_goals(refine Zy (v:=.tuple #[.agg #[ι k,ι 0,ι 0,.string (Aa []),ν],ι 0,.bool false]) (by simp [results,Zk,go_sem]) rfl ⟨rfl,?_⟩)
 all_goals(repeat(first|exact Zd _ _|refine Zh ?_ (by simp) _|refine Zn ?_ |refine Zm ?_ (by simp) _))
theorem yT(e:Ex)(a:Option Addr)(cap:Nat)(w:Zx):
  Zw Zb 99 #[exV e (.slice a e.args.length cap)] w fun h w'=>h=.returned (.tuple #[.agg #[.int .i64 e.kind,.int .i64 (Iq e),.int .i64 (Lb e),.string (Aa (Ez e)),.slice none 0 0],.int .i64 (De e),.bool (Gr e)])∧Zv w.heap.size w w':=by
 obtain⟨k,b,n,nm,args⟩:=e;show Zw _ _ #[.agg #[ι k,ι b,ι n,σ nm,ρ a args cap]] _ _
 have c:∀ {d f:Ending→Zx→Prop},d=f→Zw Zb 99 #[.agg #[ι k,ι b,ι n,σ nm,ρ a args cap]] w d→Zw Zb 99 #[.agg #[ι k,ι b,ι n,σ nm,ρ a args cap]] w f:=fun g=>g ▸ id
 by_cases h1:k=1
 ·subst h1;exact xZ
 by_cases h2:k=2
 ·subst h2;exact sG
 by_cases h3:k=3
 ·subst h3
  by_cases q1:b=17
  ·subst q1;exact lS
  by_cases q2:b=18
  ·subst q2;exact kA
  by_cases q3:b=19
  ·subst q3;exact lY
  refine c ?_ (tB b n nm w q1 q2 q3);simp [Iq,Lb,Ez,De,Gr,Ex.kind,Ex.op,q1,q2,q3]
 by_cases h4:k=4
 ·subst h4;exact xX
 by_cases h5:k=5
 ·subst h5
  cases hn:Ak nm
  ·refine c ?_ (jV b n nm a args.length cap hn w)
   simp [Iq,Lb,Ez,De,Gr,Ex.kind,Ex.name,Ex.args,hn]
  ·refine c ?_ (nU b n nm a args.length cap hn w)
   simp [Iq,Lb,Ez,De,Gr,Ex.kind,Ex.name,Ex.args,hn];rfl
 by_cases h6:k=6
 ·subst h6;exact kN
 by_cases h7:k=7
 ·subst h7;exact qQ
 refine c ?_ (iJ k (by simpa using h1) (by simpa using h2) (by simpa using h3) (by simpa using h4) (by simpa using h5) (by simpa using h6) (by simpa using h7) b n nm w);simp [Iq,Lb,Ez,De,Gr,Ex.kind,h1,h2,h3,h4,h5,h6,h7]
def eI(e:Ex):Prop:= ∀(D:Nat→Prop) (s:Value) (w:Zx),Ag D w e.args s→
 Zw Zb 52 #[exV e s] w fun a w'=>a=.returned (.bool (Cc e))∧Zv w.heap.size w w'
theorem well_fn(e:Ex)(b:eI e)(D:Nat→Prop)(s:Value)(w:Zx)(a:Ag D w e.args s):
  Zw Zb 100 #[exV e s] w fun c w'=>c=.returned (.bool (!Cc e))∧Zv w.heap.size w w':=by
 have d:=Za a;clear a;have f:=Za b;clear b;go_enter func100,ntmps100;go_wp2_with fail;refine(f.out D s _ (d.out.old (bA))).mono ?_;rintro c h ⟨rfl,g⟩;go_wp2;go_ret
 exact⟨rfl,(bA).trans (g.mono (by simp))⟩
theorem qK(e:Ex)(f:∀x,x∈e.args→eI x):eI e:=by
 intro D s w d;obtain⟨g,i⟩:=Y2 d f;clear f;generalize k:e.args=l at d
 cases d with
 |mk _ a cap b off sv hcap hfit ha h0 h1 h2 h3 h4 hs=>
  subst k;clear hcap hfit ha h0 h1 h2 h3 h4 hs;have h:=Za (yT e a cap ((w.alloc (ξ e (ρ a e.args cap)))));go_enter func52,ntmps52;go_wp2_with fail;refine h.o.mono ?_;rintro m p ⟨rfl,c⟩;obtain⟨q,r⟩:=Uk c;have t:w.heap.size<p.heap.size:=by have:=c.size;simp at this;omega
  go_wp2_with fail
  ·refine(Nm 100 #[] Tryz.call100 e.args _ D (((g.out.old (bA)).old c).old (bA)) (fun x=> !Cc x) ?_).mono ?_
   ·intro x n w2 hx _ hs
    exact well_fn x (i.out x hx) D n w2 hs
   ·rintro m w2 ⟨rfl,j⟩
    go_wp2;go_ret
    refine⟨Ae ?_,(((bA).trans (c.mono (by simp))).alloc (by omega) _).trans (j.mono (by simp;omega))⟩;rw[Lh];simp [Cl, *,Zr]
  all_goals
   go_ret
   refine⟨Ae ?_,((bA).trans (c.mono (by simp))).alloc (by omega) _⟩;rw[Lh];simp [Cl, *]
theorem gI:∀(n:Nat) (e:Ex),SizeOf.sizeOf e≤n→eI e
 |0,e,h=>by cases e;simp at h
 |n+1,e,h=>qK e fun x hx=>gI n x (by have:=Ex.size_lt hx;omega)
theorem Mm(e:Ex)(D:Nat→Prop)(s:Value){w:Zx}(g:Ag D w e.args s):
  Zw Zb 24 #[exV e s] w fun c w'=>c=.returned (.bool (Cf e))∧Zv w.heap.size w w':=by
 have f:=Za g;clear g;have d:Hid (Cf e=(Ic 40 e && Cc e)):=rfl;go_enter func24,ntmps24;go_wp2_with fail;refine(fK 40 (by omega) D e s _ (f.out.old (bA))).mono ?_;rintro c k ⟨rfl,a⟩;obtain⟨i,j⟩:=Uk a
 cases hd:Ic 40 e
 ·have b:=Za hd;clear hd
  go_wp2;go_ret
  exact⟨Ae (by rw[d.out,b.o];rfl),(bA).trans (a.mono (by simp))⟩
 ·have b:=Za hd;clear hd
  go_wp2_with fail;refine(gI _ e (Zl _) D s _ ((f.out.old (bA)).old a)).mono ?_;rintro c w2 ⟨rfl,h⟩;go_wp2;go_ret
  exact⟨Ae (by rw[d.out,b.o];rfl),(bA).trans ((a.mono (by simp)).trans (h.mono (by have:=a.size;simp at this;omega)))⟩
theorem pG {c:Type}(b:c→Zx){P:Program}{id:Nat}{Q:Exit→Act→Zx→Prop}{a:Act}{w:Zx}{l:List Oper}(h:P.follows .mixedOrders=true)(f:Region.lexB .any l.toArray=true)(g:∃n,w.drew=b n)
  (e:wpQuiet P l.toArray (fun w'=> ∃n,w'=b n) (fun d=> ∀w',(∃n,w'=b n)→Q .normal d w') l a):(Code.region id l.toArray true).wp P Q a w:=
 wp_region_quiet (C:=fun w'=> ∃n,w'=b n) h f g (by simpa using e)
abbrev Lat(w:Zx):Type:= {w':Zx // Zv w.heap.size w w'}
theorem lat_fun(wr:Zx):∃(b:Type) (_:Nonempty b) (a:b→Zx),Hid (∀n,Zv wr.heap.size wr (a n))∧Hid (∀w',Zv wr.heap.size wr w'→∃n,w'=a n):=⟨Lat wr,⟨⟨wr,Zd _ _⟩⟩,fun n=>n.1,fun n=>n.2,fun w' c=>⟨⟨w',c⟩,rfl⟩⟩
theorem vO {a b c d:Bool}{n:Int}{k:Int}(e:a=En k)(f:n=Ey k)(g:b=Ji k)(h:c=Jn k)(i:d=fOk k):
  Ending.returned (.tuple #[.agg #[.bool a,.int .i64 n,.bool b,.bool c],.bool d])=.returned (.tuple #[.agg #[.bool (En k),.int .i64 (Ey k),.bool (Ji k),.bool (Jn k)],.bool (fOk k)]):=by
 subst e f g h i;rfl
theorem lN{k:Int}{w:Zx}:
  Zw Zb 126 #[.int .i64 k] w fun a w'=>a=.returned (.tuple #[.agg #[.bool (En k),.int .i64 (Ey k),.bool (Ji k),.bool (Jn k)],.bool (fOk k)])∧Zv w.heap.size w w':=by
 go_enter func126,ntmps126
 go_wp2
 all_goals(refine Zy (by simp [results,results126,go_sem];rfl) rfl ?_)
 all_goals(refine⟨vO ?_ ?_ ?_ ?_ ?_,by repeat(first|exact Zd _ _|refine Zh ?_ (by simp) _|refine Zm ?_ (Zl _) _)⟩)
 all_goals(simp only[beq_iff_eq,beq_eq_false_iff_ne,ne_eq]at*;simp [En,Ey,Ji,Jn,fOk, *]<;>omega)
theorem head_eq {l:List Ex}(a:0<l.length):l[0]=l.headD (.mk 0 0 0 [] []):=by cases l with|nil=>simp at a|cons x l=>rfl
theorem mR {α:Type}(l:List α):decide (0<l.length)= !l.isEmpty:=by cases l<;>simp
theorem stmt_fn(e:Ex)(D:Nat→Prop)(s:Value)(w:Zx)(a:Ag D w e.args s):
  Zw Zb 127 #[exV e s] w fun b w'=>b=.returned (.bool (!Cf e))∧Zv w.heap.size w w':=by
 have c:=Za a;clear a;go_enter func127,ntmps127;go_wp2_with fail;refine(Mm e D s (c.out.old (bA))).mono ?_;rintro b f ⟨rfl,d⟩;go_wp2;go_ret
 exact⟨rfl,(bA).trans (d.mono (by simp))⟩
def xB(a:Nat):Prop:= ∀(D:Nat→Prop) (l:List St) (v:Value) (w:Zx),Au D w l v→
 Zw Zb 39 #[v,.int .i64 a] w fun b w'=>b=.returned (.bool (l.all (Dy a)))∧Zv w.heap.size w w'
def StOf(b:Nat):Prop:= ∀(D:Nat→Prop) (x:St) (a t e:Value) (w:Zx),Ag D w x.args a→Au D w x.thn t→Au D w x.els e→
 Zw Zb 88 #[stV x a t e,.int .i64 b] w fun c w'=>c=.returned (.bool (Dy b x))∧Zv w.heap.size w w'
set_option maxHeartbeats 20000000 in
theorem aN(c:Nat)(aW:c≤1000)(af:0<c→xB (c-1)):StOf c:=by
 intro D x ap aP ax w aa ae E;have X:=Za af;clear af;obtain⟨L,W,U⟩:=Y3 aa ae E;clear aa ae E;obtain⟨j,k,rfl⟩:∃j k,ap= ρ j x.args k:=L.o.shape;obtain⟨ar,aw,rfl⟩:∃j k,aP= ρ j x.thn k:=W.o.shape;obtain⟨aq,av,rfl⟩:∃j k,ax= ρ j x.els k:=U.o.shape;have aY:(c:Int)≤1000:=by omega
 have aX:(0:Int)≤c:=by omega
 go_enter func88,ntmps88;go_upto_region 2 with(first|(go_at_call 126;refine(lN).mono ?_;rintro e d ⟨rfl,i⟩;obtain⟨aA,aB⟩:=Uk i;have bd:w.heap.size<d.heap.size:=(by have:=i.size;simp at this;omega)));go_cut [6,48] (fun _ aM S=>aM=.bool (Io c x)∧S=d.alloc (.cells #[.bool (En x.kind),ι (Ey x.kind),.bool (Ji x.kind),.bool (Jn x.kind)] 165))
 case first=>
  cases b0:fOk x.kind
  ·go_wp2
   go_meet;exact⟨by simp [Io,b0],rfl⟩
  cases b1:((c:Int)==0)
  case true=>
   go_wp2;go_meet;exact⟨by simp [Io,b1],rfl⟩
  cases b2:((x.args.length:Int)==Ey x.kind)
  ·have au:((x.args.length:Int) !=Ey x.kind)=true:=by simp [bne,b2]
   go_wp2;go_meet;exact⟨by simp [Io,b2],rfl⟩
  have au:((x.args.length:Int) !=Ey x.kind)=false:=by simp [bne,b2]
  have ak:=mR x.thn;have Z:=mR x.els
  cases b3:Ji x.kind<;>cases b4:x.thn.isEmpty<;>cases b5:Jn x.kind<;>cases b6:x.els.isEmpty
  all_goals
   rw[b4]at ak;rw[b6]at Z;have f:Hid (Io c x=((!Ji x.kind && !x.thn.isEmpty)||(!Jn x.kind && !x.els.isEmpty))):=(by show _=_;simp [Io,b0,b1,b2]);rw[b3,b4,b5,b6]at f;clear b4 b6;simp only[Bool.not_true,Bool.not_false]at ak Z;go_wp2;go_meet;exact⟨by rw[f.out];rfl,by rw[b3,b5]⟩
 case rest=>
  obtain⟨rfl,rfl⟩:=hcut;have R:Zv w.heap.size w (d.alloc (.cells #[.bool (En x.kind),ι (Ey x.kind),.bool (Ji x.kind),.bool (Jn x.kind)] 165)):=
   ((bA).trans (i.mono (by simp))).alloc (by omega) _
  have B:(d.alloc (.cells #[.bool (En x.kind),ι (Ey x.kind),.bool (Ji x.kind),.bool (Jn x.kind)] 165)).cell? ⟨d.heap.size,0,none⟩=some (.bool (En x.kind)):=by simp
  have F:=Ac ((Zd d.heap.size d).alloc (Zl _) (.cells #[.bool (En x.kind),ι (Ey x.kind),.bool (Ji x.kind),.bool (Jn x.kind)] 165)) (a:=⟨w.heap.size,0,none⟩) (x:= ι x.kind) (Ac i (by simp));have G:=Ac ((Zd d.heap.size d).alloc (Zl _) (.cells #[.bool (En x.kind),ι (Ey x.kind),.bool (Ji x.kind),.bool (Jn x.kind)] 165)) (a:=⟨w.heap.size,1,none⟩) (x:= σ x.name) (Ac i (by simp));have u:=Ac ((Zd d.heap.size d).alloc (Zl _) (.cells #[.bool (En x.kind),ι (Ey x.kind),.bool (Ji x.kind),.bool (Jn x.kind)] 165)) (a:=⟨w.heap.size,2,none⟩) (x:= ρ j x.args k) (Ac i (by simp));have H:=Ac ((Zd d.heap.size d).alloc (Zl _) (.cells #[.bool (En x.kind),ι (Ey x.kind),.bool (Ji x.kind),.bool (Jn x.kind)] 165)) (a:=⟨w.heap.size,3,none⟩) (x:= ρ ar x.thn aw) (Ac i (by simp));have I:=Ac ((Zd d.heap.size d).alloc (Zl _) (.cells #[.bool (En x.kind),ι (Ey x.kind),.bool (Ji x.kind),.bool (Jn x.kind)] 165)) (a:=⟨w.heap.size,4,none⟩) (x:= ρ aq x.els av) (Ac i (by simp));have aF:d.heap.size<(d.alloc (.cells #[.bool (En x.kind),ι (Ey x.kind),.bool (Ji x.kind),.bool (Jn x.kind)] 165)).heap.size:=by simp
  clear i aA aB;generalize d.alloc (.cells #[.bool (En x.kind),ι (Ey x.kind),.bool (Ji x.kind),.bool (Jn x.kind)] 165)=A at R B F G u H I aF ⊢;have y:=Za R;clear R
  cases q1:Io c x
  case true=>
   have p:=Za q1;clear q1;go_wp2;go_ret
   refine⟨Ae ?_,y.o⟩
   cases c with
   |zero=>rfl
   |succ c=>
    have q:=p.out;rw[show((c+1:Nat):Int)=(c:Int)+1 from by omega]at q;simp only[Dy,q];rfl
  have p:=Za q1;clear q1;go_upto_region 4 with(fail);go_cut [77] (fun aO S=>aO=.bool (Nn x)∧Zv A.heap.size A S)
  case first=>
   have f:Hid (Nn x=(!(En x.kind==Ak x.name)||(!En x.kind && !(x.name==[]))||(x.kind==10 && !((x.args.headD (.mk 0 0 0 [] [])).kind==5)))):=rfl;obtain⟨aQ,aV,g,h,V⟩:=lat_fun A;have l:Hid (∀n,Zw Zb 85 #[σ x.name] (g n) fun e w'=>e=.returned (.bool (Ak x.name))∧∃c,w'=g c):=fun n=>by
    refine(Lm x.name (g n)).mono ?_;rintro e w' ⟨E,i⟩;exact⟨E,V.o w' ((h.o n).trans (i.mono (h.o n).size))⟩
   have ay:∀n,(g n).cell? ⟨d.heap.size,0,none⟩=some (.bool (En x.kind)):=fun n=>Ac (h.o n) B
   have aR:∀n,(g n).cell? ⟨w.heap.size,0,none⟩=some (ι x.kind):=fun n=>Ac (h.o n) F
   have aS:∀n,(g n).cell? ⟨w.heap.size,1,none⟩=some (σ x.name):=fun n=>Ac (h.o n) G
   have aT:∀n,(g n).cell? ⟨w.heap.size,2,none⟩=some (ρ j x.args k):=fun n=>Ac (h.o n) u
   have ao:Hid (∃n,A.drew=g n):=V.o _ (Zd _ _).drew;refine pG g (by kernel_rfl) (by kernel_rfl) ao.o ?_;have r:∀ {Y:Act→Zx→Prop} {a:Act},(∀n,Y a (g n))→∀w',(∃n,w'=g n)→Y a w':=fun az w' ⟨n,e⟩=>e ▸ az n
   cases n1:En x.kind<;>cases n2:Ak x.name
   all_goals
    rw[n1,n2]at f;rw[n1]at ay;rw[n2]at l;clear F G u H I B
   case false.false=>
    cases n4:(x.name==[])
    ·rw[n4]at f
     have aJ:x.name.isEmpty=false:=by simpa using n4
     repeat(go_big_quiet_step ((go_at_call 85;exact l.o _)))
     refine Zz (r fun nq=>?_);go_wp2;go_meet;exact⟨by rw[f.out];rfl,h.o nq⟩
    ·have aJ:x.name.isEmpty=true:=by simpa using n4
     rw[n4]at f;clear n4
     cases v:(x.kind==10)
     ·rw[v]at f
      repeat(go_big_quiet_step ((go_at_call 85;exact l.o _)))
      refine Zz (r fun nq=>?_);go_wp2;go_meet;exact⟨by rw[f.out];rfl,h.o nq⟩
     ·rw[v]at f
      have aD:x.args.length=1:=by
       have q:=p.out;simp [Io,show x.kind=10 by simpa using v,Ey,fOk,Ji,Jn]at q;omega
      obtain⟨b,aK,rfl,am⟩:=L.o.cell0 (by omega);have aU:∀n,(g n).cell? ⟨b,aK,none⟩=some (ι (Bx x.args 0).kind):=fun n=>Ac (h.o n) (Ac y.o am)
      have aC:0<x.args.length:=by omega
      clear aD am
      repeat(go_big_quiet_step ((go_at_call 85;exact l.o _)))
      refine Zz (r fun nq=>?_);go_wp2;go_meet;exact⟨by rw[f.out,←head_eq aC];simp [bne],h.o nq⟩
   case true.true=>
    have v:(x.kind==10)=false:=by simp [En]at n1;simp;omega
    rw[v]at f
    repeat(go_big_quiet_step ((go_at_call 85;exact l.o _)))
    refine Zz (r fun nq=>?_);go_wp2;go_meet;exact⟨by rw[f.out];rfl,h.o nq⟩
   all_goals
    repeat(go_big_quiet_step ((go_at_call 85;exact l.o _)))
    refine Zz (r fun nq=>?_);go_wp2;go_meet;exact⟨by rw[f.out];rfl,h.o nq⟩
  case rest=>
   obtain⟨rfl,m⟩:=hcut;have M:=Za (y.o.trans (m.mono (by have:=y.o.size;omega)));have aG:=Ac m u;have ag:=Ac m H;have ah:=Ac m I;have ba:=m.size;clear B F G u H I m
   cases q2:Nn x
   case true=>
    have P:=Za q2;clear q2;go_wp2;go_ret
    refine⟨Ae ?_,M.o⟩
    cases c with
    |zero=>rfl
    |succ c=>simp [Dy,P.out]
   have P:=Za q2;clear q2;have t:Hid (0<c):=by
    cases c with
    |zero=>have q:=p.out;simp [Io]at q
    |succ c=>exact Nat.succ_pos c
   obtain⟨J,ac⟩:∃J,c=J+1:=⟨c-1,by have:=t.out;omega⟩;have K:Hid (Dy c x=(!Io c x && !Nn x && x.args.all Cf && x.thn.all (Dy (c-1)) && x.els.all (Dy (c-1)))):=by
    show _=_
    subst ac;simp only[Dy,Nat.add_sub_cancel];rw[show((J+1:Nat):Int)=(J:Int)+1 from by omega]
   clear ac;have ad:Hid (((c-1:Nat):Int)=(c:Int)-1):=by show _=_;have:=t.out;omega
   have aZ:1≤(c:Int):=by have:=t.out;omega
   go_wp2_with fail;refine(Nm 127 #[] Tryz.call127 x.args _ D (L.o.old M.o) (fun e=> !Cf e) (fun e aL al _ _ aE=>stmt_fn e D aL al aE)).mono ?_;rintro aj al ⟨rfl,s⟩;have aH:=Ac s ag;have ai:=Ac s ah;have N:=Za (M.o.trans (s.mono (by omega)));have bb:=s.size;clear aG ag ah s;have T:x.args.any (fun e=> !Cf e)= !x.args.all Cf:=by simp [Zr]
   rw[T];clear T
   cases qa:x.args.all Cf
   ·have z:=Za qa;clear qa
    go_wp2;go_ret
    exact⟨Ae (by rw[K.out,z.out];simp),N.o⟩
   have z:=Za qa;clear qa;go_wp2_with fail;rw[←ad.out];refine(X.out t.out D x.thn _ _ (W.o.old N.o)).mono ?_;rintro aj be ⟨rfl,C⟩;have aI:=Ac C ai;have O:=Za (N.o.trans (C.mono (by omega)));have bc:=C.size;clear aH ai C
   cases qt:x.thn.all (Dy (c-1))
   ·have Q:=Za qt;clear qt
    go_wp2;go_ret
    exact⟨Ae (by rw[K.out,z.out,Q.out];simp),O.o⟩
   have Q:=Za qt;clear qt;go_wp2_with fail;rw[←ad.out];refine(X.out t.out D x.els _ _ (U.o.old O.o)).mono ?_;rintro aj bf ⟨rfl,ab⟩;have an:=Za (O.o.trans (ab.mono (by omega)));clear aI ab;go_wp2;go_ret
   exact⟨Ae (by rw[K.out,z.out,Q.out,p.out,P.out];simp),an.o⟩
theorem sE(b:Nat)(p:b≤1000)(m:StOf b)(D:Nat→Prop)(x:St)(a t e:Value)(w:Zx)(c:Ag D w x.args a)(f:Au D w x.thn t)(d:Au D w x.els e){B:Nat}(k:w.cell? ⟨B,0,none⟩=some (.int .i64 b)):
  Zw Zb 87 #[stV x a t e,.pointer (some ⟨B,0,none⟩)] w fun g w'=>g=.returned (.bool (!Dy b x))∧Zv w.heap.size w w':=by
 obtain⟨h,j,i⟩:=Y3 c f d;clear c f d;have n:B<w.heap.size:=World.block_lt_of_cell? _ _ k;go_enter func87,ntmps87;go_wp2_with fail;refine(m D x a t e _ (h.o.old (bA)) (j.o.old (bA)) (i.o.old (bA))).mono ?_;rintro g q ⟨rfl,l⟩;go_wp2;go_ret
 exact⟨rfl,(bA).trans (l.mono (by simp))⟩
theorem Wq(b:Nat)(m:b≤1000)(f:StOf b):xB b:=by
 intro D l v w d;have h:=Za d;clear d;have i:=Za f;clear f;go_enter func39,ntmps39;go_wp2_with fail;refine(dF 87 Tryz.call87 l v D (h.out.old (bA)) (fun x=> !Dy b x) ?_).mono ?_
 ·intro x a t e g _ c j n k
  exact sE b m i.out D x a t e g j n k (Ac c (by simp))
 ·rintro o g ⟨rfl,c⟩
  go_wp2;go_ret
  exact⟨Ae (by simp [Zr]),(bA).trans (c.mono (by simp))⟩
theorem eT:∀b,b≤1000→StOf b∧xB b
 |0,c=>have a:=aN 0 c (fun c=>by omega);⟨a,Wq 0 c a⟩
 |b+1,c=>have a:=aN (b+1) c (fun _=>(eT b (by omega)).2);⟨a,Wq (b+1) c a⟩
theorem tY{s:Bs}(w:Zx):
  Zw Zb 84 #[.string (Aa s)] w fun a w'=>a=.returned (.bool (!Ak s))∧Zv w.heap.size w w':=by
 go_enter func84,ntmps84;go_wp2_with fail;refine(Lm s _).mono ?_;rintro a c ⟨rfl,b⟩;go_wp2;go_ret
 exact⟨rfl,b⟩
theorem Pg(l:List Bs){v:Value}(D:Nat→Prop){w:Zx}(c:Bb D w l v):
  Zw Zb 38 #[v] w fun g w'=>g=.returned (.bool (l.all Ak))∧Zv w.heap.size w w':=by
 obtain⟨a,cap,b,q,rfl,m,d,e,f⟩:=c;have k:=Za (Xy a l.length cap 84 #[] Tryz.call84 w (fun i=> σ (l.getD i [])) (fun i=> !Ak (l.getD i [])) (d).out
  (e.imp id fun c=>⟨b,q,c.1,f⟩) (fun i _ h _=>tY h))
 clear m d e f;have j:Hid ((!Oy (fun i=> !Ak (l.getD i [])) l.length)=l.all Ak):=by
  show _=_
  rw[Tc (fun s=> !Ak s) _ l (fun i p=>by simp [Zq p])];simp [Zr]
 go_enter func38,ntmps38;go_wp2_with fail;refine k.o.mono ?_;rintro g h ⟨rfl,n⟩;go_wp2;go_ret
 exact⟨Ae j.out,n⟩
theorem bT(p:Pr)(D:Nat→Prop){aD aE:Value}{w:Zx}(aU:Cd D w p.arrays aD)(aV:Bw D w p.funcs aE):
  Zw Zb 16 #[.agg #[aD,aE]] w fun u w'=>u=.returned (.bool (Eh p))∧Zv w.heap.size w w':=by
 obtain⟨y,K,al,bg,rfl,aQ,ai,aj,ak⟩:=aU;obtain⟨s,z,am,bh,pv,lv,aR,rfl,aT,ar,au,av⟩:=aV;have bs:=ai.lt;have bt:=ar.lt;obtain⟨aF,aG,aJ,aK⟩:=Y4 aj ak au av;have N:Hid (Eh p=(p.arrays.all Cz && p.funcs.all Dr)):=rfl;clear aQ ai aj ak aT ar au av;go_enter func16,ntmps16;go_wp2_with fail;have ag:Hid (Zv w.heap.size w (w.alloc (.cells #[ρ y p.arrays K,ρ s p.funcs z] 30))):=bA;have U:(w.alloc (.cells #[ρ y p.arrays K,ρ s p.funcs z] 30)).cell? ⟨w.heap.size,1,none⟩=some (ρ s p.funcs z):=by simp
 have bc:w.heap.size<(w.alloc (.cells #[ρ y p.arrays K,ρ s p.funcs z] 30)).heap.size:=by simp
 generalize w.alloc (.cells #[ρ y p.arrays K,ρ s p.funcs z] 30)=ah at ag U bc ⊢
 go_loopw [2,4,10] (fun X _ W wr=> ∃k:Nat,k≤p.arrays.length∧W= ι k∧X=.bool false∧(∀i,i<k→Cz (Em p.arrays i)=true)∧Zv ah.heap.size ah wr) (fun _ _ W _=>p.arrays.length-(intOf W).toNat)
 case atStart=>exact⟨0,Zo _,rfl,rfl,fun i f=>by omega,Zd _ _⟩
 case round=>
  obtain⟨k,bo,rfl,rfl,E,l⟩:=hrel;have aa:=Za E;clear E;obtain⟨J,ad⟩:=Y2 (ag.o.trans (l.mono (by omega))) l;have br:w.heap.size<wr.heap.size:=by have:=l.size;omega
  have aS:=Ac l U;clear l
  by_cases hlt:k<p.arrays.length
  ·obtain⟨rfl,_⟩:y=some ⟨al,bg,none⟩∧D al:=by rcases aF.out with c|c;omega;exact c
   obtain⟨A,B⟩:=aG.out k hlt;have L:=Ac J.o A;have M:=Ac J.o B;clear A B;generalize C:Em p.arrays k=b at L M;have v:=Za C;clear C;have e:Hid (Cz b=(Ak b.name && decide (1≤b.size∧b.size≤1048576))):=rfl;go_wp2_with fail;refine(Pg [b.name] (fun _=>True) ⟨some ⟨wr.heap.size+1,0,none⟩,1,wr.heap.size+1,0,rfl,Zl _,by show _≤_;simp,.inr ⟨rfl,trivial⟩,fun i f=>by obtain rfl:i=0:=(by simp at f;omega);simp⟩).mono ?_;rintro u r ⟨rfl,m⟩;have q:Zv wr.heap.size wr r:=((bA).alloc (by simp) _).trans (m.mono (by simp;omega));have V:r.cell? ⟨wr.heap.size,1,none⟩=some (ι b.size):=Ac m (by simp [Zc]);obtain⟨x,O⟩:=Y2 q (J.o.trans (q.mono (by omega)));clear m q;rw[show([b.name].all Ak)=Ak b.name from by simp];have h:Hid (Cz b=false→Eh p=false):=fun c=>by
    rw[N.out,Rl p.arrays Ar.nil Cz k hlt (by rw[show p.arrays.getD k Ar.nil=b from v.o];exact c)];rfl
   cases q1:Ak b.name
   ·have g:=Za q1;clear q1
    go_wp2;go_ret
    exact⟨Ae (h.out (by rw[e.out,g.out];rfl)).symm,O.o⟩
   have g:=Za q1;clear q1
   by_cases q2:1≤b.size
   ·by_cases q3:b.size≤1048576
    ·go_wp2
     go_roundw
     case rel=>
      refine⟨k+1,by omega,by go_num,rfl,fun i f=>?_,ad.o.trans (x.o.mono ad.o.size)⟩;rcases Zp.1 f with c|rfl
      ·exact aa.out i c
      ·rw[v.o,e.out,g.out];simp [q2,q3]
     case measure=>simp [intOf];omega
    ·go_wp2
     go_ret
     exact⟨Ae (h.out (by rw[e.out,g.out];simp;omega)).symm,O.o⟩
   ·go_wp2
    go_ret
    exact⟨Ae (h.out (by rw[e.out,g.out];simp;omega)).symm,O.o⟩
  ·have aX:k=p.arrays.length:=by omega
   have ab:Hid (p.arrays.all Cz=true):=bD p.arrays Ar.nil Cz (fun i f=>aa.out i (by omega));clear aX;go_wp2
   go_loopw [2,6,33] (fun X _ Y n=> ∃j:Nat,j≤p.funcs.length∧Y= ι j∧X=.bool false∧(∀i,i<j→Dr (Bc p.funcs i)=true)∧Zv wr.heap.size wr n) (fun _ _ Y _=>p.funcs.length-(intOf Y).toNat)
   case atStart=>exact⟨0,Zo _,rfl,rfl,fun i f=>by omega,Zd _ _⟩
   case round=>
    clear U aS;obtain⟨j,bn,rfl,rfl,E,l⟩:=hrel;have Z:=Za E;clear E
    rename Zx=>n
    obtain⟨d,ae⟩:=Y2 (J.o.trans (l.mono (by omega))) l;clear l
    by_cases hlj:j<p.funcs.length
    ·obtain⟨rfl,_⟩:s=some ⟨am,bh,none⟩∧D am:=by rcases aJ.out with c|c;omega;exact c
     obtain⟨⟨A,B,aw,ax⟩,az,gl,ay⟩:=aK.out j hlj;have L:=Ac d.o A;have M:=Ac d.o B;have ap:=Ac d.o aw;have aq:=Ac d.o ax;obtain⟨I,H,G⟩:=Y3 (az.old d.o) (gl.old d.o) (ay.old d.o);clear A B aw ax az gl ay;generalize C:Bc p.funcs j=b at L I H G;generalize pv j=aP at M I;generalize lv j=aO at ap H;generalize aR j=aH at aq G;have v:=Za C;clear C;obtain⟨pa,bi,aY⟩:∃a cap,aP= ρ a b.params cap:=by obtain⟨a,cap,_,_,c,_⟩:=I.out;exact⟨a,cap,c⟩
     subst aY;obtain⟨bj,bk,aZ⟩:∃a cap,aO= ρ a b.locals cap:=by obtain⟨a,cap,_,_,c,_⟩:=H.out;exact⟨a,cap,c⟩
     subst aZ;obtain⟨bl,bm,ba⟩:∃a cap,aH= ρ a b.body cap:=G.out.shape;subst ba;have e:Hid (Dr b=(Ak b.name && b.params.all Ak && b.locals.all Ak && decide (b.params.length≤6) && b.body.all (Dy 40))):=rfl;have h:Hid (Dr b=false→Eh p=false):=fun c=>by
      rw[N.out,ab.out,Rl p.funcs Fu.nil Dr j hlj (by rw[show p.funcs.getD j Fu.nil=b from v.o];exact c)];rfl
     go_wp2_with fail;refine(Pg [b.name] (fun _=>True) ⟨some ⟨n.heap.size+1,0,none⟩,1,n.heap.size+1,0,rfl,Zl _,by show _≤_;simp,.inr ⟨rfl,trivial⟩,fun i f=>by obtain rfl:i=0:=(by simp at f;omega);simp⟩).mono ?_;rintro u r ⟨rfl,m⟩;have q:Zv n.heap.size n r:=((bA).alloc (by simp) _).trans (m.mono (by simp;omega));have V:r.cell? ⟨n.heap.size,1,none⟩=some (ρ pa b.params bi):=Ac m (by simp [Zc]);have an:r.cell? ⟨n.heap.size,2,none⟩=some (ρ bj b.locals bk):=Ac m (by simp [Zc]);have ao:r.cell? ⟨n.heap.size,3,none⟩=some (ρ bl b.body bm):=Ac m (by simp [Zc]);have x:=Za q;have bb:=q.size;clear m q L M ap aq;rw[show([b.name].all Ak)=Ak b.name from by simp];have aL:=Za (d.o.trans (x.o.mono (by have:=d.o.size;omega)))
     cases q1:Ak b.name
     ·have g:=Za q1;clear q1
      go_wp2;go_ret
      exact⟨Ae (h.out (by rw[e.out,g.out];rfl)).symm,aL.o⟩
     have g:=Za q1;clear q1;go_wp2_with fail;refine(Pg b.params D (I.out.old x.o)).mono ?_;rintro u bv ⟨rfl,t⟩;have P:=Za (x.o.trans (t.mono bb));have aB:=Ac t V;have bd:=Ac t an;have aC:=Ac t ao;have bp:=t.size;clear t V an ao;have aM:=Za (d.o.trans (P.o.mono (by have:=d.o.size;omega)))
     cases q2:b.params.all Ak
     ·have R:=Za q2;clear q2
      go_wp2;go_ret
      exact⟨Ae (h.out (by rw[e.out,R.out];simp)).symm,aM.o⟩
     have R:=Za q2;clear q2;go_wp2_with fail;refine(Pg b.locals D (H.out.old P.o)).mono ?_;rintro u bw ⟨rfl,F⟩;have Q:=Za (P.o.trans (F.mono (by omega)));have be:=Ac F aB;have bf:=Ac F aC;have bq:=F.size;clear F aB bd aC;have af:=Za (d.o.trans (Q.o.mono (by have:=d.o.size;omega)))
     cases q3:b.locals.all Ak
     ·have S:=Za q3;clear q3
      go_wp2;go_ret
      exact⟨Ae (h.out (by rw[e.out,S.out];simp)).symm,af.o⟩
     have S:=Za q3;clear q3
     by_cases q4:b.params.length≤6
     ·go_wp2_with fail
      refine((eT 40 (by omega)).2 D b.body _ _ (G.out.old Q.o)).mono ?_;rintro u bx ⟨rfl,aA⟩;have ac:=Za (Q.o.trans (aA.mono (by omega)));clear aA be bf;have aN:=Za (d.o.trans (ac.o.mono (by have:=d.o.size;omega)))
      cases q5:b.body.all (Dy 40)
      ·have T:=Za q5;clear q5
       go_wp2;go_ret
       exact⟨Ae (h.out (by rw[e.out,T.out];simp)).symm,aN.o⟩
      ·have T:=Za q5;clear q5
       go_wp2;go_roundw
       case rel=>
        refine⟨j+1,by omega,by go_num,rfl,fun i f=>?_,ae.o.trans (ac.o.mono ae.o.size)⟩;rcases Zp.1 f with c|rfl
        ·exact Z.out i c
        ·rw[v.o,e.out,g.out,R.out,S.out,T.out];simp [q4]
       case measure=>simp [intOf];omega
     ·have bu:6<b.params.length:=by omega
      go_wp2;go_ret
      exact⟨Ae (h.out (by rw[e.out];simp [q4])).symm,af.o⟩
    ·have aW:j=p.funcs.length:=by omega
     have aI:Hid (p.funcs.all Dr=true):=bD p.funcs Fu.nil Dr (fun i f=>Z.out i (by omega));clear aW;go_wp2;go_ret
     exact⟨Ae (by rw[N.out,ab.out,aI.out];rfl),d.o⟩
end Go.Proofs.YthcpopmmlneneaaGreatDoor

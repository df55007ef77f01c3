/-
  A raw expression's text is short: what its numbers pay for. No condition.
-/
import Derived.Test.YthcpopmmlneneaaGreatDoorPt15
import Derived.Lib.SlBytesConst
set_option linter.unusedVariables false
set_option linter.unusedSimpArgs false
namespace Go.Proofs.YthcpopmmlneneaaGreatDoor
open Go.RowKit Go.Proofs.Tryz
set_option maxHeartbeats 20000000
set_option maxRecDepth 100000
open Go.RowKit renaming Hid→Ym,Below→Yn,intOf→Yo
open Go renaming World→Yp,Calls→Yq,bodyPost_ret→Yr,wpList_append_lies→Ys
open Go.Lib renaming hid→Za,decodeL→Zp,cell_of_heap→Yh
open Go.Proofs.Tryz renaming prog→Zb,results67→Zo,results13→Yf,underlying80→Yk
open Nat renaming le_refl→Zc,zero_le→Ze,lt_succ_iff_lt_or_eq→Zk,le_trans→Zq
open Ad renaming new→Zd
open List renaming length_append→Zf,getElem?_eq_getElem→Zg,all_eq_true→Zi,length_cons→Zl,length_nil→Zr,getElem_of_mem→Zt,length_drop→Zu,mem_cons_self→Zv,sizeOf_lt_of_mem→Zw,getElem_mem→Zx,length_pos_iff→Zy,length→Zz,length_take→Ya,mem_cons_of_mem→Yc,getElem?_eq_some_iff→Yd,mem_singleton→Ye,mem_of_getElem?→Yg,count_le_length→Yi,take_of_length_le→Yj,getD_eq_getElem?_getD→Yl
open Go.RowKit.Below renaming refl→Zh
open IntWalk renaming i64_in→Zj
open Bool renaming eq_iff_iff→Zm,and_eq_true→Zn
open World renaming drewN_drewN→Zs
open Calls renaming quiet_of→Yb
theorem Rm:∀s:Bs,Es s=true→s.all Bu=true:=by
 intro s a;unfold Es Od at a;simp only[List.contains_cons,List.contains_nil,Bool.or_false,Bool.or_eq_true,beq_iff_eq]at a;rcases a with rfl|rfl|rfl|rfl|rfl|rfl|rfl|rfl|rfl|rfl<;>decide+kernel
theorem fZ {c:UInt8}(a:Bu c=true):c≠32:=by rintro rfl;revert a;decide
theorem rQ {i n:Nat}:(Aa Nz).extract i (i+n)=Aa ((Nz.drop i).take n):=by
 apply ByteArray.ext
 rw[ByteArray.data_extract];simp [Aa,List.extract_eq_take_drop]
theorem toList_eq(l:Bs):(Aa l).toList=l:=by rw[ByteArray.toList_eq]
theorem gA(k:Nat)(s:Bs):(((⟨#[32,105,110,116,32,105,102,32,101,108,115,101,32,119,104,105,108,101,32,98,114,101,97,107,32,99,111,110,116,105,110,117,101,32,114,101,116,117,114,110,32,112,114,105,110,116,32,114,101,97,100,32,116,114,97,112,32]⟩:ByteArray).extract k (k+s.length+2)).toList==((⟨#[32]⟩:ByteArray)++Aa s++(⟨#[32]⟩:ByteArray)).toList)=Vl k s:=by
 have a:((⟨#[32]⟩:ByteArray)++Aa s++(⟨#[32]⟩:ByteArray))=Aa (32::s++[32]):=by
  apply ByteArray.ext;simp [Aa]
 have b:=rQ (i:=k) (n:=s.length+2);rw[a];show(((Aa Nz).extract k (k+(s.length+2))).toList==_)=_
 rw[b,toList_eq,toList_eq];rfl
theorem Oi(s:Bs)(O:s.length≤1000000)(w:Yp):
  Yq Zb 110 #[.string (Aa s)] w fun e w'=>e=.returned (.bool (Es s))∧w'=w:=by
 have r:(Aa s).size=s.length:=by show s.toArray.size=_;simp
 have P:(s.length:Int)≤1000000:=by omega
 have y:=Za r;clear r;go_enter func110,ntmps110;go_wp2
 go_loopw [3] (fun m wr=> ∃k:Nat,k≤s.length∧m= ι k∧wr=w∧Ym (∀i,i<k→Bu (s.getD i 0)=true)) (fun m _=>s.length-(Yo m).toNat)
 case atStart=>exact⟨0,Ze _,rfl,rfl,fun i a=>absurd a (by omega)⟩
 case round=>
  obtain⟨k,L,rfl,rfl,b⟩:=hrel
  by_cases hlt:k<s.length
  ·have J:∀d,(Aa s)[k]'d=s[k]:=fun _=>rfl
   have p:s.getD k 0=s[k]:=by simp [Zg hlt]
   have N:(k:Int)<(s.length:Int):=by omega
   obtain⟨F,u⟩:=Y2 hlt p;clear p;have h:=Za (Ef s[k] wr)
   cases hl:Bu s[k]
   ·have g:Es s=false:=by
     cases q:Es s
     ·rfl
     ·have f:=Zi.1 (Rm s q) s[k] (Zx hlt)
      rw[hl]at f;cases f
    have l:=Za g;rw[hl]at h;clear g hl;go_wp2_with fail;refine h.o.mono ?_;rintro e D ⟨rfl,rfl⟩;go_wp2;go_ret
    exact⟨Ae l.o.symm,rfl⟩
   ·have v:=Za hl
    rw[hl]at h;clear hl;go_wp2_with fail;refine h.o.mono ?_;rintro e D ⟨rfl,rfl⟩;go_wp2;go_roundw
    case rel=>exact⟨k+1,by omega,by go_num,by first|trivial|rfl,fun i a=>by rcases Zk.1 a with d|rfl;exact b.o i d;rw[u.o];exact v.o⟩
    case measure=>simp [Yo];omega
  ·have A:k=s.length:=by omega
   subst A;have t:Ym (∀c,c∈s→c≠32):=fun c z=>by
    obtain⟨i,a,rfl⟩:=Zt z;have:=b.o i a;rw[show s.getD i 0=s[i]by simp [Zg a]]at this;exact fZ this
   clear b;go_wp2
   go_loopw [4] (fun n E=> ∃k:Nat,k≤57∧n= ι k∧E=wr∧Ym (∀i,i<k→Vl i s=false)) (fun n _=>57-(Yo n).toNat)
   case atStart=>exact⟨0,Ze _,rfl,rfl,fun i a=>absurd a (by omega)⟩
   case round=>
    obtain⟨k,M,rfl,rfl,b⟩:=hrel
    by_cases hne:s=[]
    ·subst hne
     go_wp2;go_ret
     exact⟨rfl,rfl⟩
    ·have K:(s==[])=false:=by rw[beq_eq_false_iff_ne];exact hne
     have Q:=y.o;have G:IntKind.i64.wrap ((k:Int)+(s.length:Int))=((k+s.length:Nat):Int):=by rw[Int.natCast_add];exact Zj _ (by omega)
     have H:IntKind.i64.wrap (((k+s.length:Nat):Int)+2)=((k+s.length+2:Nat):Int):=by rw[show((k+s.length+2:Nat):Int)=((k+s.length:Nat):Int)+2 by omega];exact Zj _ (by omega)
     have x:=Za hne;clear hne
     by_cases hlt:k+s.length+2≤57
     ·have C:((k+s.length+2:Nat):Int)≤57:=by omega
      have R:(k:Int)≤((k+s.length+2:Nat):Int):=by omega
      go_wp2_with fail
      ·rename_i j
       have hx:=(gA k s).symm.trans j;go_ret
       exact⟨Ae (word_is (by omega) x.o t.o hx).symm,rfl⟩
      ·rename_i j
       have hx:=Za ((gA k s).symm.trans j);have B:k+1≤57:=by omega
       clear j;go_roundw
       case rel=>exact⟨k+1,B,by go_num,by first|trivial|rfl,fun i a=>by rcases Zk.1 a with d|rfl;exact b.o i d;exact hx.out⟩
       case measure=>simp [Yo];omega
     ·have C:¬((k+s.length+2:Nat):Int)≤57:=by omega
      have g:Es s=false:=by
       cases q:Es s
       ·rfl
       ·obtain⟨I,f⟩:=vH s q
        rw[b.o (So s) (by omega)]at f;cases f
      have l:=Za g;clear g;go_wp2;go_ret
      exact⟨Ae l.o.symm,rfl⟩
theorem Wk:∀(b:Bool) (s:Bs),Dx b s=true→∀c,c∈s→(Bu c||Ax c)=true
 |_,[],_,c,a=>absurd a (by simp)
 |b,d::s,h,c,a=>by
  rw[Dx,Zn]at h;rcases List.mem_cons.1 a with rfl|a
  ·have e:=h.1
   cases hl:Bu c
   ·rw[hl]at e;cases hd:Ax c
    ·rw[hd]at e;simp at e
    ·rfl
   ·rfl
  ·exact Wk false s h.2 c a
theorem Vj:∀(s:Bs),(∀c,c∈s→(Bu c||Ax c)=true)→Dx false s=true
 |[],_=>rfl
 |c::s,h=>by
  rw[Dx,Vj s (fun d a=>h d (Yc _ a))];have:=h c Zv;simpa using this
theorem Ie(s:Bs)(w:Yp):
  Yq Zb 73 #[.string (Aa s)] w fun e w'=>e=.returned (.bool (Ak s))∧w'=w:=by
 have A:(Aa s).size=s.length:=by show s.toArray.size=_;simp
 by_cases h0:s=[]
 ·subst h0
  go_enter func73,ntmps73;go_wp2;go_ret
  exact⟨rfl,rfl⟩
 have T:0<s.length:=Zy.2 h0;have U:(1:Int)≤(s.length:Int):=by omega
 by_cases h20:s.length≤20
 ·have J:(s.length:Int)≤20:=by omega
  obtain⟨c,v,P⟩:∃c,(Dx true s=(Bu c && Dx false (s.drop 1)))∧∀a,(Aa s)[0]'a=c:=by
   cases s with
   |nil=>exact absurd rfl h0
   |cons c r=>exact⟨c,by rw[Dx];simp,fun _=>rfl⟩
  have n:Ak s=(!Es s && Dx true s):=by unfold Ak;rw[decide_eq_true h20,show s.isEmpty=false by simpa using h0];simp
  have p:=Za (Ef c w)
  cases hl:Bu c
  ·have f:Ak s=false:=by rw[n,v,hl];simp
   have x:=Za f;rw[hl]at p;clear f hl n v h0 A;go_enter func73,ntmps73;go_wp2_with fail;refine p.o.mono ?_;rintro e G ⟨rfl,rfl⟩;go_wp2;go_ret
   exact⟨Ae x.o.symm,rfl⟩
  ·have E:Ym (∀b,Dx false (s.drop 1)=b→Ak s=(!Es s && b)):=fun b a=>by rw[n,v,hl,a];simp
   have D:Ym (∀i d,s[i]? =some d→(Bu d||Ax d)=false→Ak s=false):=fun i d a f=>by
    cases q:Ak s
    ·rfl
    ·rw[n,Zn]at q
     have:=Wk true s q.2 d (Yg a);rw[f]at this;cases this
   rw[hl]at p;clear hl n v h0 A;have I:=Za (Oi s (by omega) w);go_enter func73,ntmps73;go_wp2_with fail;refine p.o.mono ?_;rintro e G ⟨rfl,M⟩;subst M;go_wp2
   go_loopw [3] (fun C wr=> ∃k:Nat,k≤s.length∧C= ι k∧wr=G∧Ym (∀i d,s[i]? =some d→i<k→(Bu d||Ax d)=true)) (fun C _=>s.length-(Yo C).toNat)
   case atStart=>exact⟨0,Ze _,rfl,rfl,fun i _ _ j=>absurd j (by omega)⟩
   case round=>
    obtain⟨k,R,rfl,rfl,u⟩:=hrel
    by_cases hlt:k<s.length
    ·obtain⟨d,z,Q⟩:∃d,s[k]? =some d∧∀a,(Aa s)[k]'a=d:=⟨s[k],Zg hlt,fun _=>rfl⟩
     have S:(k:Int)<(s.length:Int):=by omega
     obtain⟨O,m,t,l⟩:=Y4 hlt (Ef d wr) (Gx d wr) (D.o k d z);have h:Ym ((Bu d||Ax d)=true→∀i e,s[i]? =some e→i<k+1→(Bu e||Ax e)=true):=fun hx i e a j=>by
      rcases Zk.1 j with y|y
      ·exact u.o i e a y
      ·subst y;rw[z]at a;cases a;exact hx
     clear u z
     cases hl:Bu d
     ·rw[hl]at m l h
      cases hg:Ax d
      ·rw[hg]at t l
       clear hl hg h;go_wp2_with fail;refine m.o.mono ?_;rintro e w2 ⟨rfl,g⟩;subst g;go_wp2_with fail;refine t.o.mono ?_;rintro e N ⟨rfl,B⟩;subst B;go_wp2;go_ret
       exact⟨Ae (l.o rfl).symm,rfl⟩
      ·rw[hg]at t h
       clear hl hg l;go_wp2_with fail;refine m.o.mono ?_;rintro e w2 ⟨rfl,g⟩;subst g;go_wp2_with fail;refine t.o.mono ?_;rintro e N ⟨rfl,B⟩;subst B;go_wp2;go_roundw
       case rel=>exact⟨k+1,by omega,by go_num,by first|trivial|rfl,h.o rfl⟩
       case measure=>simp [Yo];omega
     ·rw[hl]at m h
      clear hl l;go_wp2_with fail;refine m.o.mono ?_;rintro e w2 ⟨rfl,g⟩;subst g;go_wp2;go_roundw
      case rel=>exact⟨k+1,by omega,by go_num,by first|trivial|rfl,h.o rfl⟩
      case measure=>simp [Yo];omega
    ·have L:k=s.length:=by omega
     subst L;have F:Dx false (s.drop 1)=true:=Vj _ (fun c K=>by
      obtain⟨i,j,rfl⟩:=Zt (List.mem_of_mem_drop K);exact u.o i _ (Zg j) j)
     have H:=Za (E.o true F);clear F u E D;go_wp2_with fail;refine I.o.mono ?_;rintro e w2 ⟨rfl,g⟩;subst g;go_wp2;go_ret
     exact⟨Ae (by rw[H.o];simp),rfl⟩
 ·have J:(20:Int)<(s.length:Int):=by omega
  have f:Ak s=false:=by unfold Ak;rw[decide_eq_false h20];simp
  have x:=Za f;clear f h0 h20 A;go_enter func73,ntmps73;go_wp2;go_ret
  exact⟨Ae x.o.symm,rfl⟩
theorem Sf(l:List Bs){D:Nat→Prop}{v:Value}(w:Yp)(f:Bb D w l v):
  Yq Zb 74 #[v] w fun e w'=>e=.returned (.bool (l.all Ak))∧w'=w:=by
 obtain⟨a,c,b,I,rfl,L,u,y,t⟩:=f;have O:=u.lt;obtain⟨G,A⟩:=Y2 y t;clear y t u;go_enter func74,ntmps74;go_wp2
 go_loopw [3] (fun p wr=> ∃k:Nat,k≤l.length∧p= ι k∧wr=w∧Ym (∀i,i<k→Ak (l.getD i [])=true)) (fun p _=>l.length-(Yo p).toNat)
 case atStart=>exact⟨0,Ze _,rfl,rfl,fun i h=>absurd h (by omega)⟩
 case round=>
  obtain⟨k,M,rfl,rfl,m⟩:=hrel
  by_cases hlt:k<l.length
  ·have N:(k:Int)<(l.length:Int):=by omega
   have H:=A.o k hlt;obtain rfl:a=some ⟨b,I,none⟩:=by rcases G.o with f|f;omega;exact f.1
   have r:Ym (l.getD k []=l[k]):=by show _=_;simp [Zg hlt]
   obtain⟨K,g⟩:=Y2 hlt (Ie (l.getD k []) wr);obtain⟨d,j⟩:∃d,l.getD k []=d:=⟨_,rfl⟩;have B:=Za j;have C:Ym (d∈l):=by show _∈_;rw[←j,r.o];exact Zx hlt
   rw[j]at g H;clear j r
   cases hn:Ak d
   ·rw[hn]at g
    have E:=Za hn;clear hn;go_wp2_with fail;refine g.o.mono ?_;rintro e J ⟨rfl,n⟩;subst n;go_wp2;go_ret
    exact⟨Ae (by
     cases q:l.all Ak
     ·rfl
     ·have:=Zi.1 q d C.o
      rw[E.o]at this;cases this),rfl⟩
   ·rw[hn]at g
    have F:=Za hn;clear hn;go_wp2_with fail;refine g.o.mono ?_;rintro e J ⟨rfl,n⟩;subst n;go_wp2;go_roundw
    case rel=>exact⟨k+1,by omega,by go_num,by first|trivial|rfl,fun i h=>by rcases Zk.1 h with f|rfl;exact m.o i f;rw[B.o];exact F.o⟩
    case measure=>simp [Yo];omega
  ·have s:l.all Ak=true:=Zi.2 (fun x hx=>by
    obtain⟨i,h,rfl⟩:=Zt hx;have:=m.o i (by omega);simpa [Zg h]using this)
   have z:=Za s;clear s m;go_wp2;go_ret
   exact⟨Ae z.o.symm,rfl⟩
def Wb(b:Option T4)(w:Yp)(e:Ending)(w':Yp):Prop:=(∃(k:Int) (x:Bs) (n:Int) (a:Nat),e=.returned (.tuple #[Fb k x n 0,.int .i64 (a:Int)])∧((a=0∧b=none)∨(a=x.length∧b=some (k,x,n))))∧Yn w.heap.size w w'
theorem pw_at(p:UInt8→Bool)(s:Bs)(q:Nat):(q<(s.takeWhile p).length→∃d,s[q]? =some d∧p d=true)∧(q=(s.takeWhile p).length→q<s.length→∃d,s[q]? =some d∧p d=false):=by
 obtain⟨f,g,h⟩:=It p s;obtain⟨a,i⟩:∃a,s.takeWhile p=a:=⟨_,rfl⟩;obtain⟨b,j⟩:∃b,s.dropWhile p=b:=⟨_,rfl⟩;rw[i,j]at f;rw[i]at g ⊢;rw[j]at h;have l:s.length=a.length+b.length:=by rw[f,Zf]
 constructor
 ·intro e
  exact⟨a[q],by rw[f,List.getElem?_append_left e,Zg e],g a[q] (Zx e)⟩
 ·intro e m
  subst e;rcases h with rfl|⟨c,n,rfl,k⟩
  ·simp at l;omega
  ·exact⟨c,by rw[f,List.getElem?_append_right (Zc _),Nat.sub_self];rfl,k⟩
theorem Vi {c:UInt8}(a:Bu c=true):Ax c=false:=by
 cases hd:Ax c with
 |false=>rfl
 |true=>
  exfalso
  rw[Sb]at a;rw[Tp]at hd;simp only[Bool.or_eq_true,Zn,decide_eq_true_eq]at a hd;omega
theorem vW(p:UInt8→Bool)(c:UInt8)(b:Bs)(a:p c=true):1≤((c::b).takeWhile p).length:=by
 rw[List.takeWhile_cons,if_pos a];simp
theorem iU{s:Bs}(c:UInt8)(W:Bs)(G:s=c::W)(F:Bu c=true)(aq:s.length≤1000000)(w:Yp):
  Yq Zb 67 #[.string (Aa s)] w (Wb (Nw s) w):=by
 obtain⟨b,H⟩:=Y2 (Zd w [ι 0,ε,ι 0,ι 0] 87) ((Zh w.heap.size w).alloc (Zc _) (.cells #[ι 0,ε,ι 0,ι 0] 87));have ap:(s.length:Int)≤1000000:=by omega
 have au:0<s.length:=by rw[G];simp
 have av:(0:Int)<(s.length:Int):=by omega
 have l2:(1:Int)≤(s.length:Int):=by omega
 have ad:∀I,(Aa s)[0]'I=c:=by subst G;exact fun _=>rfl
 have S:1≤(s.takeWhile Fi).length:=by rw[G];exact vW Fi c W (by unfold Fi;rw[F];rfl)
 have ac:=Ov Fi s;have E:=Za (pw_at Fi s);have q:=Kp s (s.takeWhile Fi).length;rw[Ls]at q;have r:Ym (Nw s=if Es (s.takeWhile Fi)=true then some (2,s.takeWhile Fi,0)else if Ak (s.takeWhile Fi)=true then some (1,s.takeWhile Fi,0)else none):=rfl;obtain⟨a,R⟩:∃a,s.takeWhile Fi=a:=⟨_,rfl⟩;rw[R]at S ac E q r;have X:=Za q;obtain⟨B,U⟩:∃B,Nw s=B:=⟨_,rfl⟩;rw[U]at r ⊢;obtain⟨L,D,M⟩:=Y3 (Vi F) (fun f=>Ef c f) (fun f=>Gx c f);rw[F]at D;rw[L.o]at M;obtain⟨aa,Z⟩:=Y2 (fun f=>Oi a (by omega) f) (fun f=>Ie a f);clear q R U G F L;go_enter func67,ntmps67;go_upto_region 3 with(fail);generalize w.alloc (.cells #[ι 0,ε,ι 0,ι 0] 87)=ai at*;go_wp2_with fail;refine(D.o _).mono ?_;rintro e f ⟨rfl,ae⟩;subst ae
 go_upto_block 0 with(fail);go_cut [5] (fun n K=>n= ι (a.length:Int)∧K=f)
 case first=>
  go_wp2
  go_loopw [5] (fun n K=> ∃k:Nat,n= ι (k:Int)∧1≤k∧k≤a.length∧K=f) (fun n _=>s.length-(Yo n).toNat)
  case atStart=>exact⟨1,rfl,Zc _,S,rfl⟩
  case round=>
   obtain⟨k,rfl,an,ao,rfl⟩:=hrel;have al:IntKind.i64.wrap ((k:Int)+1)=(k:Int)+1:=Zj _ (by omega)
   by_cases hlt:k<s.length
   ·have ah:(k:Int)<(s.length:Int):=by omega
    have ar:(0:Int)≤(k:Int):=by omega
    obtain⟨d,z⟩:∃d,s[k]=d:=⟨_,rfl⟩;have am:∀I,(Aa s)[k]'I=d:=fun _=>z
    have A:s[k]? =some d:=by rw[Zg hlt,z]
    obtain⟨p,C⟩:=Y2 (fun f=>Ef d f) (fun f=>Gx d f)
    by_cases l:k=a.length
    ·obtain⟨ab,i,h⟩:=(E.o k).2 l hlt
     have Y:=Za l;clear l;rw[A]at i;injection i with i
     subst i;unfold Fi at h;have j:Bu d=false:=by revert h;cases Bu d<;>simp
     have g:Ax d=false:=by revert h;cases Ax d<;>simp
     rw[j]at p;rw[g]at C;clear z h A j g;go_wp2_with fail;refine(p.o _).mono ?_;rintro e w2 ⟨rfl,m⟩;subst m;go_wp2_with fail;refine(C.o _).mono ?_;rintro e J ⟨rfl,o⟩;subst o;go_wp2;go_meet;exact⟨by rw[Y.o],by first|trivial|rfl⟩
    ·obtain⟨ab,i,h⟩:=(E.o k).1 (by omega)
     rw[A]at i;injection i with i
     subst i;have T:k+1≤a.length:=by omega
     unfold Fi at h
     cases hl:Bu d with
     |true=>
      rw[hl]at p;clear z h A l hl;go_wp2_with fail;refine(p.o _).mono ?_;rintro e w2 ⟨rfl,m⟩;subst m;go_wp2_with fail;refine(D.o _).mono ?_;rintro e J ⟨rfl,o⟩;subst o;go_wp2;go_roundw
      case rel=>exact⟨k+1,by go_num,by omega,T,by first|trivial|rfl⟩
      case measure=>simp [Yo];omega
     |false=>
      have g:Ax d=true:=by rw[hl]at h;simpa using h
      rw[hl]at p;rw[g]at C;clear z h A l hl g;go_wp2_with fail;refine(p.o _).mono ?_;rintro e w2 ⟨rfl,m⟩;subst m;go_wp2_with fail;refine(C.o _).mono ?_;rintro e J ⟨rfl,o⟩;subst o;go_wp2;go_roundw
      case rel=>exact⟨k+1,by go_num,by omega,T,by first|trivial|rfl⟩
      case measure=>simp [Yo];omega
   ·have ah:¬(k:Int)<(s.length:Int):=by omega
    have l:k=a.length:=by omega
    go_wp2;go_meet;exact⟨by first|rfl|rw[l],by first|trivial|rfl⟩
 case rest=>
 obtain⟨rfl,ag⟩:=hcut;subst ag;have aj:(a.length:Int)≤(s.length:Int):=by omega
 have ak:(0:Int)≤(a.length:Int):=by omega
 have q:=X.o;clear ad D E;go_wp2_with fail;refine(aa.o _).mono ?_;rintro e w2 ⟨rfl,m⟩;subst m;clear q;go_wp2_with fail;refine(Z.o _).mono ?_;rintro e J ⟨rfl,o⟩;subst o;go_wp2_with fail;refine(M.o _).mono ?_;rintro e aw ⟨rfl,af⟩;subst af
 cases hw:Es a with
 |true=>
  have u:Ym (B=some (2,a,0)):=by show _=_;rw[r.o,if_pos hw]
  obtain ⟨q0, q1, q2, q3⟩ := τ4 b.o;have N:=b.o.fz 0;have O:=b.o.fz 1;have P:=b.o.fz 2;have Q:=b.o.fz 3;have V:=b.o.lt;go_wp2_with fail;have t:=Za ((((b.o.set 0 (ι 2)).set 1 (σ a)).set 2 (ι 0)).set 3 (ι 0));obtain ⟨x, j, g, y⟩ := τ4 t.o;exact Yr (v:=.tuple #[Fb 2 a 0 0,ι (a.length:Int)]) (by simp [results,Zo,go_sem,Fb,x,j,g,y]) rfl ⟨⟨2,a,0,_,rfl,.inr ⟨rfl,u.o⟩⟩,Lp w H.o⟩
 |false=>
  cases hn:Ak a with
  |true=>
   have u:Ym (B=some (1,a,0)):=by show _=_;rw[r.o,if_neg (by rw[hw];decide),if_pos hn]
   obtain ⟨q0, q1, q2, q3⟩ := τ4 b.o;have N:=b.o.fz 0;have O:=b.o.fz 1;have P:=b.o.fz 2;have Q:=b.o.fz 3;have V:=b.o.lt;go_wp2_with fail;have t:=Za ((((b.o.set 0 (ι 1)).set 1 (σ a)).set 2 (ι 0)).set 3 (ι 0));obtain ⟨x, j, g, y⟩ := τ4 t.o;exact Yr (v:=.tuple #[Fb 1 a 0 0,ι (a.length:Int)]) (by simp [results,Zo,go_sem,Fb,x,j,g,y]) rfl ⟨⟨1,a,0,_,rfl,.inr ⟨rfl,u.o⟩⟩,Lp w H.o⟩
  |false=>
   have u:Ym (B=none):=by show _=_;rw[r.o,if_neg (by rw[hw];decide),if_neg (by rw[hn];decide)]
   obtain ⟨q0, q1, q2, q3⟩ := τ4 b.o;have N:=b.o.fz 0;have O:=b.o.fz 1;have P:=b.o.fz 2;have Q:=b.o.fz 3;have V:=b.o.lt;go_wp2_with fail;have t:=Za ((((b.o.set 0 (ι 0)).set 1 (.string (Aa []))).set 2 (ι 0)).set 3 (ι 0));obtain ⟨x, j, g, y⟩ := τ4 t.o;exact Yr (v:=.tuple #[Fb 0 [] 0 0,ι ((0:Nat):Int)]) (by simp [results,Zo,go_sem,Fb,x,j,g,y]) rfl ⟨⟨0,[],0,_,rfl,.inl ⟨rfl,u.o⟩⟩,Lp w H.o⟩
theorem oT{s:Bs}(c:UInt8)(ae:Bs)(y:s=c::ae)(H:Bu c=false)(E:Ax c=true)(aG:s.length≤1000000)(w:Yp):
  Yq Zb 67 #[.string (Aa s)] w (Wb (Sw s) w):=by
 obtain⟨g,U⟩:=Y2 (Zd w [ι 0,ε,ι 0,ι 0] 87) ((Zh w.heap.size w).alloc (Zc _) (.cells #[ι 0,ε,ι 0,ι 0] 87));have aF:(s.length:Int)≤1000000:=by omega
 have aI:0<s.length:=by rw[y];simp
 have aJ:(0:Int)<(s.length:Int):=by omega
 have l2:(1:Int)≤(s.length:Int):=by omega
 have ao:∀u,(Aa s)[0]'u=c:=by subst y;exact fun _=>rfl
 have aa:1≤(s.takeWhile Ax).length:=by rw[y];exact vW Ax c ae E
 have an:=Ov Ax s;have A:=Za (pw_at Ax s);have p:=Kp s (s.takeWhile Ax).length;rw[Ls]at p;have D:∀d,d∈s.takeWhile Ax→Ax d=true:=(It Ax s).2.1;have x:∃t,s.takeWhile Ax=c::t:=by rw[y,List.takeWhile_cons,if_pos E];exact⟨_,rfl⟩
 have B:Sw s=if 0≤Gv (s.takeWhile Ax)then some (3,s.takeWhile Ax,Gv (s.takeWhile Ax))else none:=by
  have am:s.takeWhile Ax≠[]:=by obtain⟨t,aq⟩:=x;rw[aq];simp
  have b:=num_law (s.takeWhile Ax) am D;unfold Sw;obtain⟨a,C⟩:∃a,s.takeWhile Ax=a:=⟨_,rfl⟩;rw[C]at b ⊢
  cases hat:Lib.atoiAll a with
  |ok n=>
   rw[hat]at b;dsimp only at b ⊢
   by_cases hi:Lib.itoa n=a
   ·rw[if_pos hi]at b ⊢
    by_cases h1:0≤Gv a
    ·rw[if_pos h1]at b ⊢
     injection b with b
     rw[b]
    ·rw[if_neg h1]at b;cases b
   ·rw[if_neg hi]at b ⊢
    by_cases h1:0≤Gv a
    ·rw[if_pos h1]at b;cases b
    ·rw[if_neg h1]
  |_=>
   rw[hat]at b;dsimp only at b ⊢
   by_cases h1:0≤Gv a
   ·rw[if_pos h1]at b;cases b
   ·rw[if_neg h1]
 obtain⟨a,C⟩:∃a,s.takeWhile Ax=a:=⟨_,rfl⟩;rw[C]at aa an A p B D x;have ac:Es a=false:=by
  cases hw:Es a with
  |false=>rfl
  |true=>
   obtain⟨t,rfl⟩:=x;have:=Zi.1 (Rm _ hw) c Zv;rw[H]at this;cases this
 have ab:Ak a=false:=by
  cases hw:Ak a with
  |false=>rfl
  |true=>
   obtain⟨t,rfl⟩:=x;unfold Ak at hw;simp only[Zn]at hw;have Z:=hw.2;rw[Dx,H]at Z;simp at Z
 have af:=Za p;obtain⟨I,ad⟩:∃I,Sw s=I:=⟨_,rfl⟩;rw[ad]at B ⊢;obtain⟨V,z,J⟩:=Y3 B (fun f=>Ef c f) (fun f=>Gx c f);rw[H]at z;rw[E]at J;obtain⟨Y,X,ag⟩:=Y3 (fun f=>Oi a (by omega) f) (fun f=>Ie a f) (fun f=>vU a D f);rw[ac]at Y;rw[ab]at X;clear p C ad y E H B D x ac ab;go_enter func67,ntmps67;go_upto_region 3 with(fail);generalize w.alloc (.cells #[ι 0,ε,ι 0,ι 0] 87)=ay at*;go_wp2_with fail;refine(z.o _).mono ?_;rintro e f ⟨rfl,Q⟩;subst Q;go_wp2_with fail;refine(J.o _).mono ?_;rintro e f ⟨rfl,Q⟩;subst Q
 go_upto_block 0 with(fail);go_cut [5] (fun n T=>n= ι (a.length:Int)∧T=f)
 case first=>
  go_wp2
  go_loopw [5] (fun n T=> ∃k:Nat,n= ι (k:Int)∧1≤k∧k≤a.length∧T=f) (fun n _=>s.length-(Yo n).toNat)
  case atStart=>exact⟨1,rfl,Zc _,aa,rfl⟩
  case round=>
   obtain⟨k,rfl,aD,aE,rfl⟩:=hrel;have aB:IntKind.i64.wrap ((k:Int)+1)=(k:Int)+1:=Zj _ (by omega)
   by_cases hlt:k<s.length
   ·have av:(k:Int)<(s.length:Int):=by omega
    have aH:(0:Int)≤(k:Int):=by omega
    obtain⟨d,F⟩:∃d,s[k]=d:=⟨_,rfl⟩;have aC:∀u,(Aa s)[k]'u=d:=fun _=>F
    have G:s[k]? =some d:=by rw[Zg hlt,F]
    obtain⟨o,r⟩:=Y2 (fun f=>Ef d f) (fun f=>Gx d f)
    by_cases q:k=a.length
    ·obtain⟨ah,h,i⟩:=(A.o k).2 q hlt
     have W:=Za q;clear q;rw[G]at h;injection h with h
     subst h;rw[i]at r;clear F i G
     cases j:Bu d with
     |false=>
      rw[j]at o;clear j;go_wp2_with fail;refine(o.o _).mono ?_;rintro e w2 ⟨rfl,l⟩;subst l;go_wp2_with fail;refine(r.o _).mono ?_;rintro e S ⟨rfl,m⟩;subst m;go_wp2;go_meet;exact⟨by rw[W.o],by first|trivial|rfl⟩
     |true=>
      rw[j]at o;clear j;go_wp2_with fail;refine(o.o _).mono ?_;rintro e w2 ⟨rfl,l⟩;subst l;go_wp2_with fail;refine(z.o _).mono ?_;rintro e ax ⟨rfl,R⟩;subst R;go_wp2_with fail;refine(r.o _).mono ?_;rintro e S ⟨rfl,m⟩;subst m;go_wp2;go_meet;exact⟨by rw[W.o],by first|trivial|rfl⟩
    ·obtain⟨ah,h,i⟩:=(A.o k).1 (by omega)
     rw[G]at h;injection h with h
     subst h;have ap:k+1≤a.length:=by omega
     have j:Bu d=false:=by
      cases u:Bu d with
      |false=>rfl
      |true=>rw[Vi u]at i;cases i
     rw[j]at o;rw[i]at r;clear F i G q j;go_wp2_with fail;refine(o.o _).mono ?_;rintro e w2 ⟨rfl,l⟩;subst l;go_wp2_with fail;refine(r.o _).mono ?_;rintro e S ⟨rfl,m⟩;subst m;go_wp2;go_roundw
     case rel=>exact⟨k+1,by go_num,by omega,ap,by first|trivial|rfl⟩
     case measure=>simp [Yo];omega
   ·have av:¬(k:Int)<(s.length:Int):=by omega
    have q:k=a.length:=by omega
    go_wp2;go_meet;exact⟨by first|rfl|rw[q],by first|trivial|rfl⟩
 case rest=>
 obtain⟨rfl,au⟩:=hcut;subst au;have az:(a.length:Int)≤(s.length:Int):=by omega
 have aA:(0:Int)≤(a.length:Int):=by omega
 have p:=af.o;clear ao z A;go_wp2_with fail;refine(Y.o _).mono ?_;rintro e w2 ⟨rfl,l⟩;subst l;clear p;go_wp2_with fail;refine(X.o _).mono ?_;rintro e S ⟨rfl,m⟩;subst m;go_wp2_with fail;refine(J.o _).mono ?_;rintro e ax ⟨rfl,R⟩;subst R;go_wp2_with fail;refine(ag.o _).mono ?_;rintro e aK ⟨rfl,ar⟩;subst ar
 by_cases hv:0≤Gv a
 ·have L:Ym (I=some (3,a,Gv a)):=by show _=_;rw[V.o,if_pos hv]
  generalize Gv a=v at*;obtain ⟨q0, q1, q2, q3⟩ := τ4 g.o;have ai:=g.o.fz 0;have aj:=g.o.fz 1;have ak:=g.o.fz 2;have al:=g.o.fz 3;have aw:=g.o.lt;go_wp2_with fail;have K:=Za ((((g.o.set 0 (ι 3)).set 1 (σ a)).set 2 (ι v)).set 3 (ι 0));obtain ⟨M, N, O, P⟩ := τ4 K.o;exact Yr (v:=.tuple #[Fb 3 a v 0,ι (a.length:Int)]) (by simp [results,Zo,go_sem,Fb,M,N,O,P]) rfl ⟨⟨3,a,v,_,rfl,.inr ⟨rfl,L.o⟩⟩,Lp w U.o⟩
 ·have L:Ym (I=none):=by show _=_;rw[V.o,if_neg hv]
  generalize Gv a=v at*;obtain ⟨q0, q1, q2, q3⟩ := τ4 g.o;have ai:=g.o.fz 0;have aj:=g.o.fz 1;have ak:=g.o.fz 2;have al:=g.o.fz 3;have aw:=g.o.lt;go_wp2_with fail;have K:=Za ((((g.o.set 0 (ι 0)).set 1 (.string (Aa []))).set 2 (ι 0)).set 3 (ι 0));obtain ⟨M, N, O, P⟩ := τ4 K.o;exact Yr (v:=.tuple #[Fb 0 [] 0 0,ι ((0:Nat):Int)]) (by simp [results,Zo,go_sem,Fb,M,N,O,P]) rfl ⟨⟨0,[],0,_,rfl,.inl ⟨rfl,L.o⟩⟩,Lp w U.o⟩
theorem oQ{s:Bs}(c:UInt8)(P:Bs)(h:s=c::P)(y:c=39)(O:s.length≤1000000)(w:Yp):
  Yq Zb 67 #[.string (Aa s)] w (Wb (Oq s) w):=by
 obtain⟨t,m⟩:=Y2 (Zd w [ι 0,ε,ι 0,ι 0] 87) ((Zh w.heap.size w).alloc (Zc _) (.cells #[ι 0,ε,ι 0,ι 0] 87));have X:(s.length:Int)≤1000000:=by omega
 have aa:0<s.length:=by rw[h];simp
 have ab:(0:Int)<(s.length:Int):=by omega
 have l2:(1:Int)≤(s.length:Int):=by omega
 have M:∀K,(Aa s)[0]'K=c:=by subst h;exact fun _=>rfl
 have u:Oq s=Ln s:=by rw[h,y];rfl
 have f:(Sr s).2≤s.length∧(((Sr s).2=0∧Oq s=none)∨((Sr s).2=(s.take (Sr s).2).length∧Oq s=some (3,s.take (Sr s).2,(Sr s).1))):=by
  unfold Sr
  cases a:Oq s with
  |none=>exact⟨Ze _,.inl ⟨rfl,rfl⟩⟩
  |some q=>
   obtain⟨k,x,n⟩:=q;have L:k=3:=by
    unfold Oq at a;split at a
    ·cases a
    ·split at a
     ·injection a with a;injection a with a;exact a.symm
     ·cases a
   subst L;rw[u]at a;obtain⟨ad,B,_,_⟩:=Ux a;have N:x.length≤s.length:=by have:=congrArg Zz B;rw[Zf]at this;omega
   have A:s.take x.length=x:=by
    have:=congrArg (List.take x.length) B;rw[List.take_left]at this;exact this
   refine⟨N,.inr ⟨?_,?_⟩⟩
   ·show x.length=(s.take x.length).length
    rw[A]
   ·show some (3,x,n)=some (3,s.take x.length,n)
    rw[A]
 have i:=Za (fun d=>sN s (by rw[h];simp) O d);have g:=Kp s (Sr s).2;obtain⟨⟨v,k⟩,z⟩:∃q,Sr s=q:=⟨_,rfl⟩;rw[z]at f i g;dsimp only at f i g;obtain⟨W,f⟩:=f;obtain⟨F,D⟩:=Y2 f g;have Y:(k:Int)≤(s.length:Int):=by omega
 have Z:(0:Int)≤(k:Int):=by omega
 subst y;obtain⟨r,p⟩:=Y2 (fun d=>Ef 39 d) (fun d=>Gx 39 d);rw[show Bu 39=false by decide]at r;rw[show Ax 39=false by decide]at p;clear u f h z g;go_enter func67,ntmps67;go_upto_region 3 with(fail);have Q:Ym (w.heap.size<(w.alloc (.cells #[ι 0,ε,ι 0,ι 0] 87)).heap.size):=t.o.lt;generalize w.alloc (.cells #[ι 0,ε,ι 0,ι 0] 87)=R at*;go_wp2_with fail;refine(r.o _).mono ?_;rintro e d ⟨rfl,l⟩;subst l;go_wp2_with fail;refine(p.o _).mono ?_;rintro e d ⟨rfl,l⟩;subst l;clear M;go_wp2_with fail;refine(i.o _).mono ?_;rintro e w2 ⟨rfl,j⟩;obtain⟨C,b⟩:=Y2 (m.o.trans (j.mono m.o.size)) (t.o.old j);have g:=D.o;clear j;obtain ⟨q0, q1, q2, q3⟩ := τ4 b.o;have S:=b.o.fz 0;have T:=b.o.fz 1;have U:=b.o.fz 2;have V:=b.o.fz 3;have ac:=b.o.lt;go_wp2_with fail;have E:=Za ((((b.o.set 0 (ι 3)).set 1 (σ (s.take k))).set 2 (ι v)).set 3 (ι 0));obtain ⟨G, H, I, J⟩ := τ4 E.o;exact Yr (v:=.tuple #[Fb 3 (s.take k) v 0,ι (k:Int)]) (by simp [results,Zo,go_sem,Fb,G,H,I,J]) rfl ⟨⟨3,(s.take k),v,_,rfl,F.o⟩,Lp w C.o⟩
def Tl:List Bs:=[[61,61],[33,61],[60,61],[62,61],[60,60],[62,62]]
def Yy:Bs:=[40,41,123,125,91,93,44,59,61,124,94,38,43,45,42,47,37,33,126,60,62]
theorem two_at(j:Nat)(b:j<6):∃x,Tl[j]? =some x∧x.length=2∧([.string ⟨#[61,61]⟩,.string ⟨#[33,61]⟩,.string ⟨#[60,61]⟩,.string ⟨#[62,61]⟩,.string ⟨#[60,60]⟩,.string ⟨#[62,62]⟩]:List Value)[j]? =some (.string (Aa x)):=by
 have e:([.string ⟨#[61,61]⟩,.string ⟨#[33,61]⟩,.string ⟨#[60,61]⟩,.string ⟨#[62,61]⟩,.string ⟨#[60,60]⟩,.string ⟨#[62,62]⟩]:List Value)=Tl.map (fun x=> σ x):=rfl;have a:j<Tl.length:=b;refine⟨Tl[j],Zg a,?_,by rw[e,List.getElem?_map,Zg a];rfl⟩;have:∀x,x∈Tl→x.length=2:=by decide
 exact this _ (Zx a)
theorem yO(j:Nat)(b:j<21):∃d,Yy[j]? =some d∧([.int .u8 40,.int .u8 41,.int .u8 123,.int .u8 125,.int .u8 91,.int .u8 93,.int .u8 44,.int .u8 59,.int .u8 61,.int .u8 124,.int .u8 94,.int .u8 38,.int .u8 43,.int .u8 45,.int .u8 42,.int .u8 47,.int .u8 37,.int .u8 33,.int .u8 126,.int .u8 60,.int .u8 62]:List Value)[j]? =some (.int .u8 (d.toNat:Int)):=by
 have e:([.int .u8 40,.int .u8 41,.int .u8 123,.int .u8 125,.int .u8 91,.int .u8 93,.int .u8 44,.int .u8 59,.int .u8 61,.int .u8 124,.int .u8 94,.int .u8 38,.int .u8 43,.int .u8 45,.int .u8 42,.int .u8 47,.int .u8 37,.int .u8 33,.int .u8 126,.int .u8 60,.int .u8 62]:List Value)=Yy.map (fun d=>.int .u8 (d.toNat:Int)):=rfl;have a:j<Yy.length:=b;exact⟨Yy[j],Zg a,by rw[e,List.getElem?_map,Zg a];rfl⟩
theorem fP {w:Yp}{a:List Value}{b:TypeId}{c:Nat ×Nat}{j:Nat}{v:Value}(d:a[j]? =some v):(w.alloc (.cells a.toArray b c)).cell? ⟨w.heap.size,j,none⟩=some v:=by
 have e:(w.alloc (.cells a.toArray b c)).heap[w.heap.size]? =some (.cells a.toArray b c):=Array.getElem?_push_size;rw[Yh e];simpa using d
theorem bZ(a b:UInt8):Ga [a,b]=true↔[a,b]∈Tl:=by simp [Ga,Pa,Tl]
theorem Vb(a:UInt8):Ga [a]=true↔a∈Yy:=by simp [Ga,Pa,Yy]
def nG(s:Bs):Prop:=s.length<2∨s.take 2 ∉ Tl
theorem pF {s x:Bs}(c:s.take 2=x)(hx:x∈Tl):Hq s=some (4,x,0):=by
 unfold Hq;have d:x.length=2:=by
  have:∀x,x∈Tl→x.length=2:=by decide
  exact this x hx
 match x,d with
 |[a,b],_=>rw[c,if_pos ((bZ a b).2 hx)]
theorem aP {s:Bs}{c:UInt8}(h:∃b,s=c::b)(a:nG s)(e:c∈Yy):Hq s=some (4,[c],0):=by
 obtain⟨b,rfl⟩:=h;unfold Hq
 cases b with
 |nil=>rw[show([c]:Bs).take 2=[c]from rfl,if_pos ((Vb c).2 e)]
 |cons d b=>
  have g:(c::d::b).take 2=[c,d]:=rfl;rcases a with a|a
  ·simp at a;omega
  ·rw[g]at a ⊢
   rw[if_neg (fun f=>a ((bZ c d).1 f))];show(if Ga [c]=true then some (4,[c],0)else none)=_
   rw[if_pos ((Vb c).2 e)]
theorem gX {s:Bs}{c:UInt8}(i:∃a,s=c::a)(b:nG s)(f:c ∉ Yy):Hq s=none:=by
 obtain⟨a,rfl⟩:=i;unfold Hq;have g:(c::a).take 1=[c]:=by cases a<;>rfl
 rw[g,if_neg (show ¬Ga [c]=true from fun e=>f ((Vb c).1 e))]
 cases a with
 |nil=>rw[show([c]:Bs).take 2=[c]from rfl,if_neg (fun e=>f ((Vb c).1 e))]
 |cons d a=>
  have h:(c::d::a).take 2=[c,d]:=rfl;rcases b with b|b
  ·simp at b;omega
  ·rw[h]at b ⊢
   rw[if_neg (fun e=>b ((bZ c d).1 e))]
theorem jP{s:Bs}(c:UInt8)(N:Bs)(L:s=c::N)(al:Bu c=false)(ah:Ax c=false)(af:c≠39)(aG:s.length≤1000000)(w:Yp):
  Yq Zb 67 #[.string (Aa s)] w (Wb (Hq s) w):=by
 obtain⟨ac,O⟩:=Y2 (Zd w [ι 0,ε,ι 0,ι 0] 87) ((Zh w.heap.size w).alloc (Zc _) (.cells #[ι 0,ε,ι 0,ι 0] 87));have aE:(s.length:Int)≤1000000:=by omega
 have aH:0<s.length:=by rw[L];simp
 have aI:(0:Int)<(s.length:Int):=by omega
 have l2:(1:Int)≤(s.length:Int):=by omega
 have ax:∀b,(Aa s)[0]'b=c:=by subst L;exact fun _=>rfl
 have Q:Ym (∃N,s=c::N):=⟨N,L⟩;have M:=Kp s 1;rw[show s.take 1=[c]by rw[L];cases N<;>rfl]at M;obtain⟨ae,au⟩:=Y2 M (Kp s 2);have ap:((c.toNat:Int)==39)=false:=by rw[beq_eq_false_iff_ne];intro b;exact af (UInt8.toNat_inj.1 (by show _=39;omega))
 have aK:¬(c.toNat:Int)=39:=by rw[beq_eq_false_iff_ne]at ap;exact ap
 obtain⟨X,D⟩:=Y2 (fun g=>Ef c g) (fun g=>Gx c g);rw[al]at X;rw[ah]at D;clear L al ah af M;go_enter func67,ntmps67;go_upto_region 3 with(fail);generalize w.alloc (.cells #[ι 0,ε,ι 0,ι 0] 87)=aC at*;go_wp2_with fail;refine(X.o _).mono ?_;rintro e g ⟨rfl,aa⟩;subst aa;go_wp2_with fail;refine(D.o _).mono ?_;rintro e g ⟨rfl,aa⟩;subst aa;clear ax X D
 by_cases hlen:2≤s.length
 ·have aB:(1:Int)<(s.length:Int):=by omega
  have aJ:(2:Int)≤(s.length:Int):=by omega
  have Z:Yn g.heap.size g (g.alloc (.cells #[.string ⟨#[61,61]⟩,.string ⟨#[33,61]⟩,.string ⟨#[60,61]⟩,.string ⟨#[62,61]⟩,.string ⟨#[60,60]⟩,.string ⟨#[62,62]⟩] 9)):=bA;obtain⟨ad,z,W⟩:=Y3 (Zd g [.string ⟨#[61,61]⟩,.string ⟨#[33,61]⟩,.string ⟨#[60,61]⟩,.string ⟨#[62,61]⟩,.string ⟨#[60,60]⟩,.string ⟨#[62,62]⟩] 9) (ac.o.old Z) (O.o.trans (Z.mono O.o.size));clear Z
  go_upto_block 3 with(fail);generalize g.alloc (.cells #[.string ⟨#[61,61]⟩,.string ⟨#[33,61]⟩,.string ⟨#[60,61]⟩,.string ⟨#[62,61]⟩,.string ⟨#[60,60]⟩,.string ⟨#[62,62]⟩] 9)=w2 at*;generalize g.heap.size=aD at*;go_cut [] (fun F=>s.take 2 ∉ Tl∧F=w2)
  case first=>
   go_wp2
   go_loopw [94] (fun i F=> ∃j:Nat,i= ι (j:Int)∧j≤6∧F=w2∧Ym (∀q,q<j→Tl[q]? ≠some (s.take 2))) (fun i _=>6-(Yo i).toNat)
   case atStart=>exact⟨0,rfl,by omega,rfl,fun q f=>absurd f (by omega)⟩
   case round=>
    obtain⟨j,rfl,ai,rfl,u⟩:=hrel
    by_cases hlt:j<6
    ·have aj:(j:Int)<6:=by omega
     have ak:(0:Int)≤(j:Int):=by omega
     obtain⟨x,A,an,B⟩:=two_at j hlt;have ao:=ad.o.at j _ B;have kl:=ad.o.lt;obtain⟨t,aq⟩:=Y2 A an;have ag:IntKind.i64.wrap ((j:Int)+1)=(j:Int)+1:=Zj _ (by omega);have aF:=au.o;clear A B an
     by_cases hxe:s.take 2=x
     ·have k:Ym (Hq s=some (4,x,0)):=pF hxe (Yg t.o)
      have ay:(s.take 2==x)=true:=by rw[beq_iff_eq];exact hxe
      clear hxe;generalize s.take 2=y at*;obtain ⟨q0, q1, q2, q3⟩ := τ4 z.o;have R:=z.o.fz 0;have S:=z.o.fz 1;have T:=z.o.fz 2;have U:=z.o.fz 3;have V:=z.o.lt;go_wp2_with fail;have h:=Za ((((z.o.set 0 (ι 4)).set 1 (σ x)).set 2 (ι 0)).set 3 (ι 0));obtain ⟨l, m, p, r⟩ := τ4 h.o;exact Yr (v:=.tuple #[Fb 4 x 0 0,ι 2]) (by simp [results,Zo,go_sem,Fb,l,m,p,r]) rfl ⟨⟨4,x,0,_,rfl,.inr ⟨aq.o.symm,k.o⟩⟩,Lp w W.o⟩
     ·have ay:(s.take 2==x)=false:=by rw[beq_eq_false_iff_ne];exact hxe
      have av:=Za hxe;clear hxe;generalize s.take 2=y at*;go_wp2;go_roundw
      case rel=>exact⟨j+1,by go_num,by omega,by first|trivial|rfl,fun q f=>by
       rcases Zk.1 f with b|b
       ·exact u.o q b
       ·subst b;rw[t.o];intro e;injection e with e;exact av.o e.symm⟩
      case measure=>simp [Yo];omega
    ·obtain rfl:j=6:=by omega
     have ar:Ym (s.take 2 ∉ Tl):=fun I=>by
      obtain⟨q,f⟩:=List.getElem?_of_mem I;have K:q<6:=(Yd.1 f).1;exact u.o q K f
     go_wp2;go_meet;exact⟨ar.o,by first|trivial|rfl⟩
  case rest=>
  obtain⟨am,aA⟩:=hcut;subst aA;have H:Ym (nG s):=.inr am;clear am;have E:Yn wc.heap.size wc (wc.alloc (.cells #[.int .u8 40,.int .u8 41,.int .u8 123,.int .u8 125,.int .u8 91,.int .u8 93,.int .u8 44,.int .u8 59,.int .u8 61,.int .u8 124,.int .u8 94,.int .u8 38,.int .u8 43,.int .u8 45,.int .u8 42,.int .u8 47,.int .u8 37,.int .u8 33,.int .u8 126,.int .u8 60,.int .u8 62] 5 (21,22))):=bA;have Y:Ym (∀j d,([.int .u8 40,.int .u8 41,.int .u8 123,.int .u8 125,.int .u8 91,.int .u8 93,.int .u8 44,.int .u8 59,.int .u8 61,.int .u8 124,.int .u8 94,.int .u8 38,.int .u8 43,.int .u8 45,.int .u8 42,.int .u8 47,.int .u8 37,.int .u8 33,.int .u8 126,.int .u8 60,.int .u8 62]:List Value)[j]? =some d→(wc.alloc (.cells #[.int .u8 40,.int .u8 41,.int .u8 123,.int .u8 125,.int .u8 91,.int .u8 93,.int .u8 44,.int .u8 59,.int .u8 61,.int .u8 124,.int .u8 94,.int .u8 38,.int .u8 43,.int .u8 45,.int .u8 42,.int .u8 47,.int .u8 37,.int .u8 33,.int .u8 126,.int .u8 60,.int .u8 62] 5 (21,22))).cell? ⟨wc.heap.size,j,none⟩=some d∧wc.heap.size<(wc.alloc (.cells #[.int .u8 40,.int .u8 41,.int .u8 123,.int .u8 125,.int .u8 91,.int .u8 93,.int .u8 44,.int .u8 59,.int .u8 61,.int .u8 124,.int .u8 94,.int .u8 38,.int .u8 43,.int .u8 45,.int .u8 42,.int .u8 47,.int .u8 37,.int .u8 33,.int .u8 126,.int .u8 60,.int .u8 62] 5 (21,22))).heap.size):=fun j d b=>⟨fP b,by simp⟩
  have kc:=fun(w:Yp) (C:Array Value) (n c:Nat)=>Lib.run_convert_bytes_const (P:=Zb) w 54 5 C n c underlying54 underlying5
  obtain⟨a,G⟩:=Y2 (z.o.old E) (W.o.trans (E.mono W.o.size));clear E;go_wp2_with fail;clear kc;generalize wc.alloc (.cells #[.int .u8 40,.int .u8 41,.int .u8 123,.int .u8 125,.int .u8 91,.int .u8 93,.int .u8 44,.int .u8 59,.int .u8 61,.int .u8 124,.int .u8 94,.int .u8 38,.int .u8 43,.int .u8 45,.int .u8 42,.int .u8 47,.int .u8 37,.int .u8 33,.int .u8 126,.int .u8 60,.int .u8 62] 5 (21,22))=ab at*;generalize wc.heap.size=aw at*
  go_loopw [108] (fun i F=> ∃j:Nat,i= ι (j:Int)∧j≤21∧F=ab∧Ym (∀q,q<j→Yy[q]? ≠some c)) (fun i _=>21-(Yo i).toNat)
  case atStart=>exact⟨0,rfl,by omega,rfl,fun q f=>absurd f (by omega)⟩
  case round=>
   obtain⟨j,rfl,ai,rfl,u⟩:=hrel
   by_cases hlt:j<21
   ·have aj:(j:Int)<21:=by omega
    have ak:(0:Int)≤(j:Int):=by omega
    obtain⟨d,A,B⟩:=yO j hlt;obtain⟨ao,kl⟩:=Y.o j _ B;have t:=Za A;have ag:IntKind.i64.wrap ((j:Int)+1)=(j:Int)+1:=Zj _ (by omega);clear A B
    by_cases hdc:d=c
    ·subst hdc
     have k:Ym (Hq s=some (4,[d],0)):=aP Q.o H.o (Yg t.o);have M:=ae.o;obtain ⟨q0, q1, q2, q3⟩ := τ4 a.o;have R:=a.o.fz 0;have S:=a.o.fz 1;have T:=a.o.fz 2;have U:=a.o.fz 3;have V:=a.o.lt;go_wp2_with fail;have h:=Za ((((a.o.set 0 (ι 4)).set 1 (.string (Aa [d]))).set 2 (ι 0)).set 3 (ι 0));obtain ⟨l, m, p, r⟩ := τ4 h.o;exact Yr (v:=.tuple #[Fb 4 [d] 0 0,ι 1]) (by simp [results,Zo,go_sem,Fb,l,m,p,r]) rfl ⟨⟨4,[d],0,_,rfl,.inr ⟨rfl,k.o⟩⟩,Lp w G.o⟩
    ·have J:((d.toNat:Int)==(c.toNat:Int))=false:=by rw[beq_eq_false_iff_ne];intro b;exact hdc (UInt8.toNat_inj.1 (by omega))
     have az:¬(d.toNat:Int)=(c.toNat:Int):=by rw[beq_eq_false_iff_ne]at J;exact J
     have D:=Za hdc;clear hdc;go_wp2;go_roundw
     case rel=>exact⟨j+1,by go_num,by omega,by first|trivial|rfl,fun q f=>by
      rcases Zk.1 f with b|b
      ·exact u.o q b
      ·subst b;rw[t.o];intro e;injection e with e;exact D.o e⟩
     case measure=>simp [Yo];omega
   ·obtain rfl:j=21:=by omega
    have k:Ym (Hq s=none):=gX Q.o H.o (fun I=>by
     obtain⟨q,f⟩:=List.getElem?_of_mem I;have K:q<21:=(Yd.1 f).1;exact u.o q K f)
    obtain ⟨q0, q1, q2, q3⟩ := τ4 a.o;have R:=a.o.fz 0;have S:=a.o.fz 1;have T:=a.o.fz 2;have U:=a.o.fz 3;have V:=a.o.lt;go_wp2_with fail;have h:=Za ((((a.o.set 0 (ι 0)).set 1 (.string (Aa []))).set 2 (ι 0)).set 3 (ι 0));obtain ⟨l, m, p, r⟩ := τ4 h.o;exact Yr (v:=.tuple #[Fb 0 [] 0 0,ι ((0:Nat):Int)]) (by simp [results,Zo,go_sem,Fb,l,m,p,r]) rfl ⟨⟨0,[],0,_,rfl,.inl ⟨rfl,k.o⟩⟩,Lp w G.o⟩
 ·have aB:¬(1:Int)<(s.length:Int):=by omega
  have H:Ym (nG s):=.inl (by omega);have E:Yn g.heap.size g (g.alloc (.cells #[.int .u8 40,.int .u8 41,.int .u8 123,.int .u8 125,.int .u8 91,.int .u8 93,.int .u8 44,.int .u8 59,.int .u8 61,.int .u8 124,.int .u8 94,.int .u8 38,.int .u8 43,.int .u8 45,.int .u8 42,.int .u8 47,.int .u8 37,.int .u8 33,.int .u8 126,.int .u8 60,.int .u8 62] 5 (21,22))):=bA;have Y:Ym (∀j d,([.int .u8 40,.int .u8 41,.int .u8 123,.int .u8 125,.int .u8 91,.int .u8 93,.int .u8 44,.int .u8 59,.int .u8 61,.int .u8 124,.int .u8 94,.int .u8 38,.int .u8 43,.int .u8 45,.int .u8 42,.int .u8 47,.int .u8 37,.int .u8 33,.int .u8 126,.int .u8 60,.int .u8 62]:List Value)[j]? =some d→(g.alloc (.cells #[.int .u8 40,.int .u8 41,.int .u8 123,.int .u8 125,.int .u8 91,.int .u8 93,.int .u8 44,.int .u8 59,.int .u8 61,.int .u8 124,.int .u8 94,.int .u8 38,.int .u8 43,.int .u8 45,.int .u8 42,.int .u8 47,.int .u8 37,.int .u8 33,.int .u8 126,.int .u8 60,.int .u8 62] 5 (21,22))).cell? ⟨g.heap.size,j,none⟩=some d∧g.heap.size<(g.alloc (.cells #[.int .u8 40,.int .u8 41,.int .u8 123,.int .u8 125,.int .u8 91,.int .u8 93,.int .u8 44,.int .u8 59,.int .u8 61,.int .u8 124,.int .u8 94,.int .u8 38,.int .u8 43,.int .u8 45,.int .u8 42,.int .u8 47,.int .u8 37,.int .u8 33,.int .u8 126,.int .u8 60,.int .u8 62] 5 (21,22))).heap.size):=fun j d b=>⟨fP b,by simp⟩
  have kc:=fun(w:Yp) (C:Array Value) (n c:Nat)=>Lib.run_convert_bytes_const (P:=Zb) w 54 5 C n c underlying54 underlying5
  obtain⟨a,G⟩:=Y2 (ac.o.old E) (O.o.trans (E.mono O.o.size));clear E;go_wp2_with fail;clear kc;generalize g.alloc (.cells #[.int .u8 40,.int .u8 41,.int .u8 123,.int .u8 125,.int .u8 91,.int .u8 93,.int .u8 44,.int .u8 59,.int .u8 61,.int .u8 124,.int .u8 94,.int .u8 38,.int .u8 43,.int .u8 45,.int .u8 42,.int .u8 47,.int .u8 37,.int .u8 33,.int .u8 126,.int .u8 60,.int .u8 62] 5 (21,22))=ab at*;generalize g.heap.size=aw at*
  go_loopw [108] (fun i F=> ∃j:Nat,i= ι (j:Int)∧j≤21∧F=ab∧Ym (∀q,q<j→Yy[q]? ≠some c)) (fun i _=>21-(Yo i).toNat)
  case atStart=>exact⟨0,rfl,by omega,rfl,fun q f=>absurd f (by omega)⟩
  case round=>
   obtain⟨j,rfl,ai,rfl,u⟩:=hrel
   by_cases hlt:j<21
   ·have aj:(j:Int)<21:=by omega
    have ak:(0:Int)≤(j:Int):=by omega
    obtain⟨d,A,B⟩:=yO j hlt;obtain⟨ao,kl⟩:=Y.o j _ B;have t:=Za A;have ag:IntKind.i64.wrap ((j:Int)+1)=(j:Int)+1:=Zj _ (by omega);clear A B
    by_cases hdc:d=c
    ·subst hdc
     have k:Ym (Hq s=some (4,[d],0)):=aP Q.o H.o (Yg t.o);have M:=ae.o;obtain ⟨q0, q1, q2, q3⟩ := τ4 a.o;have R:=a.o.fz 0;have S:=a.o.fz 1;have T:=a.o.fz 2;have U:=a.o.fz 3;have V:=a.o.lt;go_wp2_with fail;have h:=Za ((((a.o.set 0 (ι 4)).set 1 (.string (Aa [d]))).set 2 (ι 0)).set 3 (ι 0));obtain ⟨l, m, p, r⟩ := τ4 h.o;exact Yr (v:=.tuple #[Fb 4 [d] 0 0,ι 1]) (by simp [results,Zo,go_sem,Fb,l,m,p,r]) rfl ⟨⟨4,[d],0,_,rfl,.inr ⟨rfl,k.o⟩⟩,Lp w G.o⟩
    ·have J:((d.toNat:Int)==(c.toNat:Int))=false:=by rw[beq_eq_false_iff_ne];intro b;exact hdc (UInt8.toNat_inj.1 (by omega))
     have az:¬(d.toNat:Int)=(c.toNat:Int):=by rw[beq_eq_false_iff_ne]at J;exact J
     have D:=Za hdc;clear hdc;go_wp2;go_roundw
     case rel=>exact⟨j+1,by go_num,by omega,by first|trivial|rfl,fun q f=>by
      rcases Zk.1 f with b|b
      ·exact u.o q b
      ·subst b;rw[t.o];intro e;injection e with e;exact D.o e⟩
     case measure=>simp [Yo];omega
   ·obtain rfl:j=21:=by omega
    have k:Ym (Hq s=none):=gX Q.o H.o (fun I=>by
     obtain⟨q,f⟩:=List.getElem?_of_mem I;have K:q<21:=(Yd.1 f).1;exact u.o q K f)
    obtain ⟨q0, q1, q2, q3⟩ := τ4 a.o;have R:=a.o.fz 0;have S:=a.o.fz 1;have T:=a.o.fz 2;have U:=a.o.fz 3;have V:=a.o.lt;go_wp2_with fail;have h:=Za ((((a.o.set 0 (ι 0)).set 1 (.string (Aa []))).set 2 (ι 0)).set 3 (ι 0));obtain ⟨l, m, p, r⟩ := τ4 h.o;exact Yr (v:=.tuple #[Fb 0 [] 0 0,ι ((0:Nat):Int)]) (by simp [results,Zo,go_sem,Fb,l,m,p,r]) rfl ⟨⟨0,[],0,_,rfl,.inl ⟨rfl,k.o⟩⟩,Lp w G.o⟩
theorem Nq {l:Bs}(a:∀c,c∈l→c≠10):Cr l=0:=by
 unfold Cr;rw[List.count_eq_zero];intro b;exact a 10 b rfl
theorem lR {l:Bs}(q:l≠[])(h:Ny (Zp l).1=false):∀i,i<(Zp l).2→(l.getD i 0)≠10:=by
 have b:32≤(Zp l).1∧(Zp l).1≠65533:=by
  have p:¬((Zp l).1<32∨(Zp l).1=39∨(Zp l).1=92∨(Zp l).1=65533):=by
   unfold Ny at h;exact of_decide_eq_false h
  omega
 rw[Lib.decodeL_N]at b ⊢;intro i j g;have g:(l.getD i 0).toNat=10:=by rw[g];rfl
 rcases Lib.decodeN_shape l.length (l.getD 0 0).toNat (l.getD 1 0).toNat (l.getD 2 0).toNat (l.getD 3 0).toNat with⟨a,e⟩|⟨a,c,d,f,e⟩|⟨a,c,d,k,f,n,e⟩|⟨a,c,d,k,m,f,o,e⟩|e
 all_goals(rw[e]at b j;dsimp only at b j)
 ·obtain rfl:i=0:=by omega
  omega
 ·have:i=0∨i=1:=by omega
  rcases this with rfl|rfl<;>omega
 ·have:i=0∨i=1∨i=2:=by omega
  rcases this with rfl|rfl|rfl<;>omega
 ·have:i=0∨i=1∨i=2∨i=3:=by omega
  rcases this with rfl|rfl|rfl|rfl<;>omega
 ·omega
theorem lH {s:Bs}{k:Int}{x:Bs}{n:Int}(a:Ln s=some (k,x,n)):Cr x=0:=by
 cases s with
 |nil=>cases a
 |cons c t=>
  unfold Ln at a;dsimp only at a;split at a
  ·have f:∀d,d∈(c::t).takeWhile Fi→d≠10:=fun d j e=>by
    have:=(It Fi (c::t)).2.1 d j;rw[e]at this;exact absurd this (by decide)
   unfold Nw at a;split at a
   ·cases a;exact Nq f
   ·split at a
    ·cases a;exact Nq f
    ·cases a
  ·split at a
   ·have f:∀d,d∈(c::t).takeWhile Ax→d≠10:=fun d j e=>by
     have:=(It Ax (c::t)).2.1 d j;rw[e]at this;exact absurd this (by decide)
    unfold Sw at a;split at a
    ·split at a
     ·cases a;exact Nq f
     ·cases a
    ·cases a
   ·split at a
    ·rename_i r
     unfold Oq at a
     by_cases ht:(c::t).drop 1=[]
     ·rw[ht]at a;cases a
     ·have o:t≠[]:=ht
      rw[show(c::t).drop 1=t from rfl,Sv o]at a;split at a
      ·cases a
      ·rename_i h
       have h:Ny (Zp t).1=false:=by simpa using h
       split at a
       ·rename_i z
        cases a
        have B:=lR o h;have A:=z;obtain⟨u,D⟩:=List.isPrefixOf_iff_prefix.1 A;have E:=Lib.decodeL_le _ o;generalize (Zp t).2=d at*;have v:t.drop d=39::u:=by
         have:(c::t).drop (1+d)=t.drop d:=by rw[Nat.add_comm];rfl
         rw[←this,←D];rfl
        have C:(c::t).take (d+2)=c::(t.take d++[39]):=by
         rw[show d+2=(d+1)+1 from rfl,List.take_succ_cons,List.take_add,v];rfl
        rw[C];refine Nq (fun e b=>?_);rcases List.mem_cons.1 b with rfl|b
        ·rw[r];decide
        ·rcases List.mem_append.1 b with b|b
         ·obtain⟨i,m,rfl⟩:=Zt b
          have w:i<d:=by rw[Ya]at m;omega
          have:=B i w;rw[List.getElem_take];have q:t.getD i 0=t[i]'(by rw[Ya]at m;omega):=by
           rw[Yl,Zg (by rw[Ya]at m;omega)];rfl
          rw[q]at this;exact this
         ·rw[Ye.1 b];decide
       ·cases a
    ·have p:∀l,Ga l=true→Cr l=0:=by
      intro l y;rcases Vy y with rfl|rfl|rfl|rfl|rfl|rfl|rfl|rfl|rfl|rfl|rfl|rfl|rfl|rfl|rfl|rfl|rfl|rfl|rfl|rfl|rfl|rfl|rfl|rfl|rfl|rfl|rfl<;>rfl
     unfold Hq at a;split at a
     ·rename_i g;cases a;exact p _ g
     ·split at a
      ·rename_i g;cases a;exact p _ g
      ·cases a
theorem jH(a:Bs)(i:Nat)(c:UInt8)(b:a[i]? =some c):Cr (a.take (i+1))=Cr (a.take i)+if c=10 then 1 else 0:=by
 obtain⟨e,d⟩:=Yd.1 b;rw[List.take_add_one,b,Lq];congr 1
 show Cr [c]=_
 unfold Cr;rw[List.count_singleton]
 by_cases hc:c=10
 ·rw[if_pos hc,hc];rfl
 ·rw[if_neg hc,if_neg (by simpa using hc)]
theorem gT(b:Bs)(a k:Nat):Cr (b.take (a+k))=Cr (b.take a)+Cr ((b.drop a).take k):=by
 rw[List.take_add,Lq]
theorem rcToken(s:Bs)(b:s≠[])(a:s.length≤1000000)(w:Yp):Yq Zb 67 #[.string (Aa s)] w (Wb (Ln s) w):=by
 cases s with
 |nil=>exact absurd rfl b
 |cons c r=>
  cases hl:Bu c with
  |true=>
   rw[show Ln (c::r)=Nw (c::r)from if_pos hl];exact iU c r rfl hl a w
  |false=>
   cases hd:Ax c with
   |true=>
    rw[show Ln (c::r)=Sw (c::r)from(if_neg (by rw[hl];decide)).trans (if_pos hd)];exact oT c r rfl hl hd a w
   |false=>
    by_cases h9:c=39
    ·rw[show Ln (c::r)=Oq (c::r)from((if_neg (by rw[hl];decide)).trans (if_neg (by rw[hd];decide))).trans (if_pos h9)]
     exact oQ c r rfl h9 a w
    ·rw[show Ln (c::r)=Hq (c::r)from((if_neg (by rw[hl];decide)).trans (if_neg (by rw[hd];decide))).trans (if_neg h9)]
     exact jP c r rfl hl hd h9 a w
theorem Tz {B:Nat}{a w:Yp}(b:Yn B a w)(n:Nat):Yn B a (w.drewN n):=⟨b.os,b.tape,b.output,b.size,b.block⟩
theorem iD(s:Bs)(t:s.length≤1000000)(w:Yp)(j:Lu w):
  Yq Zb 161 #[.string (Aa s)] w fun e w'=>e=.returned (.tuple #[.string (Aa (By s)),.bool (bS s)])∧Yn w.heap.size w w':=by
 obtain⟨v,m⟩:=Y2 j t;obtain⟨B,p⟩:=j.max;have x:=Za p;have z:=Uz s;have hcut:∃a b,Lib.cut (Aa s).data.toList (Aa [10]).data.toList=(By s,a,b):=⟨(Lib.cut s [10]).2.1,(Lib.cut s [10]).2.2,by show Lib.cut s.toArray.toList [10]=_;unfold By;simp⟩;obtain⟨E,F,hcut⟩:=hcut;have l:=Za hcut;have f:Ym (bS s=(Lib.validD (By s) && !Lib.contains (By s) [239,191,189])):=rfl;obtain⟨u,r⟩:∃u,bS s=u:=⟨_,rfl⟩;rw[r]at f ⊢;obtain⟨c,n⟩:∃c,By s=c:=⟨_,rfl⟩;rw[n]at f l z ⊢;clear j p t hcut r n;go_enter func161,ntmps161;go_wp2_with fail;refine(Tryz.strings_Cut (Aa s) (Aa [10]) B w (by have:=m.o;show s.length<_;omega) x.o).mono ?_;rw[l.o];rintro e H ⟨rfl,g,rfl⟩;have i:Lu (w.drewN g):=v.o.old (Tz (Zh w.heap.size w) g);have G:c.length≤1000000:=by have:=m.o;omega
 go_wp2_with fail;refine(Tryz.utf8_ValidString (Aa c) (w.drewN g) (by show c.length≤_;omega) i.utf).mono ?_;rintro e w2 ⟨d,h⟩;have k:=Za ((Tz (Zh w.heap.size w) g).trans h);replace d:e=.returned (.bool (Lib.validD c)):=d
 cases hv:Lib.validD c
 ·rw[hv]at d
  subst d;rw[hv]at f;clear h i hv;go_wp2
  go_ret2
  exact⟨by rw[f.o];rfl,k.o⟩
 ·rw[hv]at d
  subst d;have o:=i.old (h:Yn (w.drewN g).heap.size (w.drewN g) w2);obtain⟨C,q⟩:=o.max;have y:=Za q;rw[hv]at f;clear h i o q hv;go_wp2_with fail;refine(Tryz.strings_Contains (Aa c) (Aa [239,191,189]) C w2 (by show c.length<_;omega) y.o).mono ?_;rintro e D ⟨d,A⟩;replace d:e=.returned (.bool (Lib.contains c [239,191,189])):=d;subst d;obtain rfl:w2=D:=A.symm
  cases hct:Lib.contains c [239,191,189]
  all_goals
   rw[hct]at f;clear hct;go_wp2
   go_ret2
   exact⟨by rw[f.o];rfl,k.o⟩
theorem vA(s:Bs)(O:s.length≤1000000)(w:Yp)(M:Lu w):
  Yq Zb 102 #[.string (Aa s)] w fun e w'=>e=.returned (.tuple #[.string (Aa (Dc (s.length+1) s).1),.int .i64 (Dc (s.length+1) s).2.1,.bool (Dc (s.length+1) s).2.2])∧Yn w.heap.size w w':=by
 obtain⟨q,D⟩:∃q,Dc (s.length+1) s=q:=⟨_,rfl⟩;rw[D];obtain⟨P,T,R⟩:=Y3 M O D;clear M O D;go_enter func102,ntmps102;go_wp2
 go_loopw [0,3] (fun F X wr=> ∃(d:Bs) (n f:Nat),F= σ d∧X= ι n∧d.length<f∧n+d.length≤s.length∧Ym ((Dc f d).1=q.1∧n+(Dc f d).2.1=q.2.1∧(Dc f d).2.2=q.2.2)∧Yn w.heap.size w wr) (fun F _ _=>match F with|.string s=>s.size|_=>0)
 case atStart=>exact⟨s,0,s.length+1,rfl,rfl,Nat.lt_succ_self _,by omega,by rw[R.o];exact⟨rfl,Nat.zero_add _,rfl⟩,Zh _ _⟩
 case round=>
  obtain⟨d,n,f,rfl,rfl,ac,x,h,B⟩:=hrel;obtain⟨f,rfl⟩:∃g,f=g+1:=⟨f-1,by omega⟩;have ad:=T.o;obtain⟨Q,G,I⟩:=Y3 (P.o.old B) B (fun j=>qP d j);have W:Cr (d.takeWhile Bf)≤(d.takeWhile Bf).length:=Yi;have k:=congrArg Zz (Kr Bf d);rw[Zf,Rf]at k;have K:=Za ((Kp d (d.takeWhile Bf).length).trans (congrArg Aa (Ls Bf d)));have A:Ym (∀n,n=d.length→(Aa d).extract (d.takeWhile Bf).length n=Aa (d.dropWhile Bf)):=Za (fun n x=>by rw[Nl d _ n x,Rf]);rw[Dc]at h;obtain⟨b,L⟩:∃b,d.takeWhile Bf=b:=⟨_,rfl⟩;obtain⟨a,N⟩:∃a,d.dropWhile Bf=a:=⟨_,rfl⟩;rw[L]at I W k K A h;rw[N]at k A h;have J:=Za h;have ah:(n:Int)≤1000000:=by omega
  have ai:(0:Int)≤(n:Int):=by omega
  have ae:(b.length:Int)≤(d.length:Int):=by omega
  have l2:b.length≤d.length:=by omega
  have Y:(n:Int)+(Cr b:Int)≤1000000:=by omega
  have Z:(0:Int)≤(Cr b:Int):=by omega
  have z:=Za k;clear B h L N k;go_wp2_with fail;refine(I.o _).mono ?_;rintro e j ⟨rfl,C⟩;obtain⟨l,H⟩:=Y2 (G.o.trans (C.mono G.o.size)) (Q.o.old C);clear C;go_wp2_with fail;rw[K.o];refine(Tryz.strings_Count_one (Aa b) 10 j).mono ?_;rintro e w2 ⟨i,E⟩;replace i:e=.returned (ι (Cr b:Int)):=i;subst i;obtain rfl:j=w2:=E.symm;go_wp2_with fail;rw[A.o _ rfl];refine(Tryz.strings_HasPrefix (Aa a) (Aa [47,47]) j).mono ?_;rintro e w2 ⟨i,E⟩;replace i:e=.returned (.bool (Lib.hasPrefix a [47,47])):=i;obtain rfl:j=w2:=E.symm
  cases hp:Lib.hasPrefix a [47,47]
  ·rw[hp]at i
   subst i;have h:=J.o;rw[if_neg (by rw[hp];decide)]at h;have m:=Za h;clear hp h;go_wp2
   go_ret3
   obtain⟨p,r,t⟩:=m.o;exact⟨by rw[←p,←r,←t,show((n+Cr b:Nat):Int)=(n:Int)+(Cr b:Int)by omega];rfl,l.o⟩
  ·rw[hp]at i
   subst i;have aa:=eG hp;have V:=Uz a;have h:=J.o;rw[if_pos hp]at h;have v:=Za (fun j U=>iD a (by have:=z.o;omega) j U);have S:Ym (∀n,n=a.length→(Aa a).extract (By a).length n=Aa (a.drop (By a).length)):=Za (fun n x=>Nl a _ n x);have af:((By a).length:Int)≤(a.length:Int):=by omega
   have ag:(By a).length≤a.length:=V;have ab:(a.drop (By a).length).length=a.length-(By a).length:=Zu
   cases hcb:bS a
   ·rw[if_neg (by rw[hcb];decide)]at h
    rw[hcb]at v;have m:=Za h;generalize By a=c at*;clear hp h hcb;go_wp2_with fail;refine(v.o _ H.o).mono ?_;rintro e w2 ⟨rfl,u⟩;have y:=Za (l.o.trans (u.mono l.o.size));clear u;go_wp2
    go_ret3
    obtain⟨p,r,t⟩:=m.o;exact⟨by rw[←p,←r,←t,show((n+Cr b:Nat):Int)=(n:Int)+(Cr b:Int)by omega];rfl,y.o⟩
   ·rw[if_pos hcb]at h
    rw[hcb]at v;have m:=Za h;generalize By a=c at*;clear hp h hcb;go_wp2_with fail;refine(v.o _ H.o).mono ?_;rintro e w2 ⟨rfl,u⟩;have y:=Za (l.o.trans (u.mono l.o.size));clear u;go_wp2_with fail;rw[S.o _ rfl];go_roundw
    case rel=>
     obtain⟨p,r,t⟩:=m.o;have k:=z.o;exact⟨a.drop c.length,n+Cr b,f,rfl,by go_num,by omega,by omega,⟨p,by rw[Nat.add_assoc];exact r,t⟩,y.o⟩
    case measure=>have k:=z.o;show(a.drop c.length).length<d.length;omega
theorem sign_no {l:Bs}(a:Ga l=false):∀x,x∈Pa→(l==x)=false:=fun x hx=>by
 cases hq:(l==x)with
 |false=>rfl
 |true=>
  have e:l=x:=by simpa using hq
  subst e;rw[show Ga l=true from List.contains_iff_mem.2 hx]at a
  cases a
theorem yL(s:Bs)(x:s≠[])(w:Yp):Yq Zb 165 #[.string (Aa s)] w (Xq (Hq s) w):=by
 have y:1≤s.length:=Zy.2 x;have L:=Za (Kp s);have B:(min (2:Int) (s.length:Int))=((min 2 s.length:Nat):Int):=by omega
 obtain⟨d,hM⟩:∃d,min 2 s.length=d:=⟨_,rfl⟩;rw[hM]at B;have g:d≤2∧d≤s.length∧1≤d∧(d=1→s.length=1):=by omega
 have H:=Za g;have p:s.length=1→s.take 2=s.take 1:=fun f=>by rw[Yj (by omega),Yj (by omega)]
 have r:Ym (∀c,c≤d→1≤c→(∀j,c<j→j≤d→Ga (s.take j)=false)→Ga (s.take c)=true→Hq s=some (4,s.take c,0)):=Za (by
  intro c m u M o;have:c=1∨c=2:=by omega
  unfold Hq;rcases this with rfl|rfl
  ·by_cases f:d=1
   ·rw[p (g.2.2.2 f),o];rfl
   ·rw[M 2 (by omega) (by omega),o];rfl
  ·rw[o];rfl)
 have t:Ym ((∀j,0<j→j≤d→Ga (s.take j)=false)→Hq s=none):=Za (by
  intro a;have m:=a 1 (by omega) (by omega);have u:Ga (s.take 2)=false:=by
   by_cases f:d=1
   ·rw[p (g.2.2.2 f)];exact m
   ·exact a 2 (by omega) (by omega)
  unfold Hq;rw[u,m];rfl)
 obtain⟨D,C⟩:∃D,Hq s=D:=⟨_,rfl⟩;rw[C]at r t ⊢;obtain⟨J,E⟩:=Y2 (Zd w [ι 0,ε,ι 0,ι 0] 87) ((Zh w.heap.size w).alloc (Zc _) (.cells #[ι 0,ε,ι 0,ι 0] 87));clear C x hM g p;go_enter func165,ntmps165;go_wp2
 go_loopw [4] (fun q wr=> ∃c:Nat,c≤d∧q= ι c∧wr=w.alloc (.cells #[ι 0,ε,ι 0,ι 0] 87)∧Ym (∀j,c<j→j≤d→Ga (s.take j)=false)) (fun q _=>match q with|.int _ n=>n.toNat|_=>0)
 case atStart=>exact⟨d,Zc _,by first|rw[B]|rfl,rfl,fun j y z=>by omega⟩
 case round=>
  obtain⟨c,N,rfl,rfl,h⟩:=hrel;have g:=H.o
  by_cases hm0:c=0
  ·subst hm0
   have F:=Za (t.o h);obtain ⟨q0, q1, q2, q3⟩ := τ4 J.o;clear h;go_wp2;exact Yr (v:=.tuple #[Fb 0 [] 0 0,.bool false]) (by simp [results,results165,go_sem,Fb,q0,q1,q2,q3]) rfl ⟨⟨_,_,_,_,rfl,by rw[F.o];rfl⟩,E.o⟩
  ·have aq:(0:Int)<(c:Int):=by omega
   have ar:(c:Int)≤(s.length:Int):=by omega
   have au:c≤s.length:=by omega
   have A:(c:Int)-1=((c-1:Nat):Int):=by omega
   have I:=Za A;have hx:=L.o c;have i:=Za (r.o c N (by omega) h);have k:Ym (Ga (s.take c)=false→∀j,c-1<j→j≤d→Ga (s.take j)=false):=Za (fun f j y z=>by
    by_cases e:j=c
    ·rw[e];exact f
    ·exact h j (by omega) z)
   clear h A;generalize s.take c=l at*
   cases hs:Ga l
   ·have b:=sign_no hs
    have P:=b [61,61] (by decide);have Q:=b [33,61] (by decide);have ab:=b [60,61] (by decide);have aj:=b [62,61] (by decide);have ak:=b [60,60] (by decide);have al:=b [62,62] (by decide);have am:=b [40] (by decide);have an:=b [41] (by decide);have ao:=b [123] (by decide);have ap:=b [125] (by decide);have R:=b [91] (by decide);have S:=b [93] (by decide);have T:=b [44] (by decide);have U:=b [59] (by decide);have V:=b [61] (by decide);have W:=b [124] (by decide);have X:=b [94] (by decide);have Y:=b [38] (by decide);have Z:=b [43] (by decide);have aa:=b [45] (by decide);have ac:=b [42] (by decide);have ad:=b [47] (by decide);have ae:=b [37] (by decide);have af:=b [33] (by decide);have ag:=b [126] (by decide);have ah:=b [60] (by decide);have ai:=b [62] (by decide);have K:=Za (k.o hs);clear b i hs k;go_wp2;exact⟨⟨c-1,by omega,by rw[I.o],trivial,K.o⟩,by simp;omega⟩
   ·have G:=Za (i.o hs)
    have O:=Vy hs;clear i hs k;rcases O with rfl|rfl|rfl|rfl|rfl|rfl|rfl|rfl|rfl|rfl|rfl|rfl|rfl|rfl|rfl|rfl|rfl|rfl|rfl|rfl|rfl|rfl|rfl|rfl|rfl|rfl|rfl
    all_goals
     go_wp2;exact Yr (v:=.tuple #[Fb 4 _ 0 0,.bool true]) (by simp [results,results165,go_sem,Fb]) rfl ⟨⟨_,_,_,_,rfl,G.o⟩,bA⟩
theorem oG(s:Bs)(G:s≠[])(O:s.length≤1000000)(w:Yp)(u:Lu w):Yq Zb 103 #[.string (Aa s)] w (Xq (Ln s) w):=by
 obtain⟨c,t,rfl⟩:∃c t,s=c::t:=by cases s with|nil=>exact absurd rfl G|cons c t=>exact⟨c,t,rfl⟩
 obtain⟨M,N⟩:=Y2 u O;have S:0<(Aa (c::t)).size:=by show 0<(c::t).length;simp
 have U:(0:Int)<((c::t).length:Int):=by rw[Zl];omega
 have V:0<(c::t).length:=by simp
 have T:=c.toNat_lt;have R:=Za (show wrap32 (((Aa (c::t))[0]'S).toNat:Int)=(c.toNat:Int)by
  show wrap32 (c.toNat:Int)=_
  unfold wrap32;omega)
 obtain⟨z,g,Q,P⟩:=Y4 (Zd w [ι 0,ε,ι 0,ι 0] 87) ((Zh w.heap.size w).alloc (Zc _) (.cells #[ι 0,ε,ι 0,ι 0] 87)) (Qg c) (Si c);have A:((c.toNat:Int)==39)=decide (c=39):=by
  rw[Zm,beq_iff_eq,decide_eq_true_iff,←UInt8.toNat_inj];show _↔c.toNat=39
  omega
 have y:=Za A;have h:Ym (Ln (c::t)=if Bu c=true then Nw (c::t)else if Ax c=true then Sw (c::t)else if c=39 then Oq (c::t)else Hq (c::t)):=rfl;have K:=Za G;clear u O T G A;go_enter func103,ntmps103;go_wp2_with fail;rw[R.o];refine(Iw).mono ?_;rw[Q.o]
 cases u:Bu c
 ·rintro e I ⟨rfl,rfl⟩
  have B:=Za u;clear u;go_wp2_with fail;refine(Mu _ _).mono ?_;rw[P.o]
  cases hd:Ax c
  ·rintro e I ⟨rfl,rfl⟩
   have L:=Za hd;clear hd
   by_cases hc:c=39
   ·have A:((c.toNat:Int)==39)=true:=by rw[y.o];simp [hc]
    have b:=Za (lF (c::t) K.o N.o (M.o.old g.o));rw[show Oq (c::t)=Ln (c::t)by rw[h.o,if_neg (by rw[B.o];decide),if_neg (by rw[L.o];decide),if_pos hc]]at b;clear hc h y;go_wp2_with fail;refine b.o.mono ?_;rintro e J ⟨⟨k,x,n,ok,rfl,f⟩,d⟩;unfold Fb;obtain⟨a,i,j⟩:=Y3 (z.o.old d) (g.o.trans (d.mono g.o.size)) f;clear d f b;have q0:=a.o.at 0 _ rfl;have C:=a.o.fz 0;have q1:=a.o.at 1 _ rfl;have D:=a.o.fz 1;have q2:=a.o.at 2 _ rfl;have E:=a.o.fz 2;have q3:=a.o.at 3 _ rfl;have F:=a.o.fz 3;have H:=a.o.lt;go_wp2_with fail;have l:=Za ((((a.o.set 0 (ι k)).set 1 (σ x)).set 2 (ι n)).set 3 (ι 0));obtain ⟨m, p, q, r⟩ := τ4 l.o;exact Yr (v:=.tuple #[.agg #[ι k,σ x,ι n,ι 0],.bool ok]) (by simp [results,results103,go_sem,m,p,q,r]) rfl ⟨⟨_,_,_,_,rfl,j.o⟩,Lp w i.o⟩
   ·have A:((c.toNat:Int)==39)=false:=by rw[y.o];simp [hc]
    have b:=Za (yL (c::t) K.o (w.alloc (.cells #[ι 0,ε,ι 0,ι 0] 87)));rw[show Hq (c::t)=Ln (c::t)by rw[h.o,if_neg (by rw[B.o];decide),if_neg (by rw[L.o];decide),if_neg hc]]at b;clear hc h y;go_wp2_with fail;refine b.o.mono ?_;rintro e J ⟨⟨k,x,n,ok,rfl,f⟩,d⟩;unfold Fb;obtain⟨a,i,j⟩:=Y3 (z.o.old d) (g.o.trans (d.mono g.o.size)) f;clear d f b;have q0:=a.o.at 0 _ rfl;have C:=a.o.fz 0;have q1:=a.o.at 1 _ rfl;have D:=a.o.fz 1;have q2:=a.o.at 2 _ rfl;have E:=a.o.fz 2;have q3:=a.o.at 3 _ rfl;have F:=a.o.fz 3;have H:=a.o.lt;go_wp2_with fail;have l:=Za ((((a.o.set 0 (ι k)).set 1 (σ x)).set 2 (ι n)).set 3 (ι 0));obtain ⟨m, p, q, r⟩ := τ4 l.o;exact Yr (v:=.tuple #[.agg #[ι k,σ x,ι n,ι 0],.bool ok]) (by simp [results,results103,go_sem,m,p,q,r]) rfl ⟨⟨_,_,_,_,rfl,j.o⟩,Lp w i.o⟩
  ·rintro e I ⟨rfl,rfl⟩
   have b:=Za (mA (c::t) N.o (M.o.old g.o));rw[show Sw (c::t)=Ln (c::t)by rw[h.o,if_neg (by rw[B.o];decide),if_pos hd]]at b;clear hd h y;go_wp2_with fail;refine b.o.mono ?_;rintro e J ⟨⟨k,x,n,ok,rfl,f⟩,d⟩;unfold Fb;obtain⟨a,i,j⟩:=Y3 (z.o.old d) (g.o.trans (d.mono g.o.size)) f;clear d f b;have q0:=a.o.at 0 _ rfl;have C:=a.o.fz 0;have q1:=a.o.at 1 _ rfl;have D:=a.o.fz 1;have q2:=a.o.at 2 _ rfl;have E:=a.o.fz 2;have q3:=a.o.at 3 _ rfl;have F:=a.o.fz 3;have H:=a.o.lt;go_wp2_with fail;have l:=Za ((((a.o.set 0 (ι k)).set 1 (σ x)).set 2 (ι n)).set 3 (ι 0));obtain ⟨m, p, q, r⟩ := τ4 l.o;exact Yr (v:=.tuple #[.agg #[ι k,σ x,ι n,ι 0],.bool ok]) (by simp [results,results103,go_sem,m,p,q,r]) rfl ⟨⟨_,_,_,_,rfl,j.o⟩,Lp w i.o⟩
 ·rintro e I ⟨rfl,rfl⟩
  have b:=Za (xF (c::t) (w.alloc (.cells #[ι 0,ε,ι 0,ι 0] 87)));rw[show Nw (c::t)=Ln (c::t)by rw[h.o,if_pos u]]at b;clear u h y;go_wp2_with fail;refine b.o.mono ?_;rintro e J ⟨⟨k,x,n,ok,rfl,f⟩,d⟩;unfold Fb;obtain⟨a,i,j⟩:=Y3 (z.o.old d) (g.o.trans (d.mono g.o.size)) f;clear d f b;have q0:=a.o.at 0 _ rfl;have C:=a.o.fz 0;have q1:=a.o.at 1 _ rfl;have D:=a.o.fz 1;have q2:=a.o.at 2 _ rfl;have E:=a.o.fz 2;have q3:=a.o.at 3 _ rfl;have F:=a.o.fz 3;have H:=a.o.lt;go_wp2_with fail;have l:=Za ((((a.o.set 0 (ι k)).set 1 (σ x)).set 2 (ι n)).set 3 (ι 0));obtain ⟨m, p, q, r⟩ := τ4 l.o;exact Yr (v:=.tuple #[.agg #[ι k,σ x,ι n,ι 0],.bool ok]) (by simp [results,results103,go_sem,m,p,q,r]) rfl ⟨⟨_,_,_,_,rfl,j.o⟩,Lp w i.o⟩
theorem Ih {w w':Yp}{b f n:Nat}{e:TypeId}{v:Value}{xs:List Value}(c:w.ownsRow b e f v n xs)(i:Yn w.heap.size w w'):w'.ownsRow b e f v n xs:=by
 refine⟨c.1,?_⟩;rcases c.2 with k|⟨g,cap,h,rfl,j,d,l⟩
 ·exact .inl k
 ·refine .inr ⟨g,cap,h,rfl,j,?_,l⟩
  rw[i.block g (by
   rcases Nat.lt_or_ge g w.heap.size with a|a
   ·exact a
   ·simp [Array.getElem?_eq_none a]at d)]
  exact d
theorem Na {w:Yp}{a c n:Nat}{e:TypeId}{v:Value}{xs:List Value}(b:w.ownsRow a e c v n xs){k:Nat}(j:v.ownBlock≠some k)(i:Nat)(x:Value):(w.setCell ⟨k,i,none⟩ x).ownsRow a e c v n xs:=by
 refine⟨b.1,?_⟩;rcases b.2 with l|⟨g,cap,d,rfl,f,h,m⟩
 ·exact .inl l
 ·refine .inr ⟨g,cap,d,rfl,f,?_,m⟩
  rw[Below.heap_setCell _ _ _ _ (by rintro rfl;exact j rfl)];exact h
theorem kY {w:Yp}{a d n:Nat}{e:TypeId}{v:Value}{xs:List Value}(b:w.ownsRow a e d v n xs):(v=.slice none 0 0∧n=0)∨∃g cap,v=.slice (some ⟨g,0,none⟩) n cap:=by
 rcases b.2 with c|⟨g,cap,f,rfl,_⟩
 ·exact .inl c
 ·exact .inr ⟨g,cap,rfl⟩
theorem Xn {w:Yp}{b d n:Nat}{e:TypeId}{v:Value}{xs:List Value}(c:w.ownsRow b e d v n xs):∃a cap,v=.slice a n cap:=by
 rcases kY c with⟨rfl,rfl⟩|⟨g,cap,rfl⟩
 ·exact⟨none,0,rfl⟩
 ·exact⟨_,_,rfl⟩
theorem Md {B:Nat}{a w w':Yp}(b:Yn B a w){row:Option Nat}(c:w.grownBy w' row)(g:∀k,row=some k→B≤k)(f:B≤w.heap.size):Yn B a w':=
 ⟨c.os.trans b.os,c.tape.trans b.tape,c.output.trans b.output,Zq b.size c.size,fun k d=>(c.block k (Nat.lt_of_lt_of_le d f) (fun e=>by have:=g k e.symm;omega)).trans (b.block k d)⟩
theorem Gc {B:Nat}{a w:Yp}(b:Yn B a w){k:Nat}(c:B≤k)(i:Nat)(v:Value):Yn B a (w.setCell ⟨k,i,none⟩ v):=b.setCell (p:=⟨k,i,none⟩) c v
theorem Ad.grow {w w':Yp}{b:Nat}{c:List Value}{a:TypeId}(d:Ad w b c a){row:Option Nat}(f:w.grownBy w' row)(g:row≠some b):Ad w' b c a:=(f.block b d.lt (fun e=>g e.symm)).trans d
theorem Ad.news {w:Yp}{b:Nat}{a:List Value}{c:TypeId}(d:Ad w b a c):∀j u,a[j]? =some u→w.cell? ((⟨b,0,none⟩:Addr).add j)=some u:=by
 intro j u f;have e:(⟨b,0,none⟩:Addr).add j=⟨b,j,none⟩:=by unfold Addr.add;split<;>simp_all
 rw[e];exact d.at j u f
theorem Ql:∀(f:Nat) (s:Bs),(Dc f s).2.1+(Dc f s).1.length≤s.length
 |0,s=>Nat.le_of_eq (Nat.zero_add _)
 |f+1,s=>by
  have a:=congrArg Zz (Kr Bf s);rw[Zf,Rf]at a;have b:Cr (s.takeWhile Bf)≤(s.takeWhile Bf).length:=Yi;rw[Dc];split
  ·split
   ·have:=Ql f ((s.dropWhile Bf).drop (By (s.dropWhile Bf)).length)
    rw[Zu]at this;show Cr _+(Dc f _).2.1+(Dc f _).1.length≤_
    omega
   ·show Cr (s.takeWhile Bf)+(s.dropWhile Bf).length≤_;omega
  ·show Cr (s.takeWhile Bf)+(s.dropWhile Bf).length≤_;omega
def Tx(done:List Tk):Except Nat (List Tk)→Except Nat (List Tk)
 |.ok l=>.ok (done++l)
 |.error e=>.error e
theorem Wx(done:List Tk)(t:Tk)(a:Except Nat (List Tk)):Tx (done++[t]) a=Tx done (match a with|.error e=>.error e|.ok l=>.ok (t::l)):=by
 cases a with
 |error e=>rfl
 |ok l=>show Except.ok (done++[t]++l)=_;rw[List.append_assoc];rfl
def Jx(a:Except Nat (List Tk))(w:Yp)(e:Ending)(w':Yp):Prop:=Yn w.heap.size w w'∧match a with
 |.ok T=> ∃v,e=.returned (.tuple #[v,.int .i64 0,.int .i64 0])∧Fs w' w.heap.size T v
 |.error n=>e=.returned (.tuple #[.slice none 0 0,.int .i64 20,.int .i64 (n:Int)])
theorem Jx.okE {b:Except Nat (List Tk)}{w w':Yp}{e:Ending}{a:List Tk}(c:b=.ok a)(f:Yn w.heap.size w w')(d:∃v,e=.returned (.tuple #[v,.int .i64 0,.int .i64 0])∧Fs w' w.heap.size a v):Jx b w e w':=by subst c;exact⟨f,d⟩
theorem Jx.noE {a:Except Nat (List Tk)}{w w':Yp}{e:Ending}{n:Nat}(b:a=.error n)(d:Yn w.heap.size w w')(c:e=.returned (.tuple #[.slice none 0 0,.int .i64 20,.int .i64 (n:Int)])):Jx a w e w':=by subst b;exact⟨d,c⟩
theorem gM(r:Bs)(aD:r.length≤20000)(w:Yp)(az:Lu w):
  Yq Zb 57 #[.string (Aa r)] w (Jx (Hr (r.length+1) r 1) w):=by
 obtain⟨C,ae⟩:∃aV,Hr (r.length+1) r 1=aV:=⟨_,rfl⟩;rw[ae];obtain⟨aM,ap,aS⟩:=Y3 az aD ae;have bv:(r.length:Int)≤20000:=by omega
 obtain⟨aH,ay,aE,aF,aG⟩:=info_parts xA;obtain⟨aj,aq,ar,au⟩:=Y4 ay aE aF aG;clear ay aE aF aG az aD ae;go_enter func57,ntmps57;go_wp2
 go_loopw [0,2,5] (fun af bh bi wr=> ∃(q1:Bs) (n f:Nat) (done:List Tk),af= σ q1∧bi= ι n∧Fs wr w.heap.size done bh∧q1.length<f∧done.length+q1.length≤20000∧n+q1.length≤20001∧Ym (Tx done (Hr f q1 n)=C)∧Yn w.heap.size w wr) (fun af _ _ _=>match af with|.string s=>s.size|_=>0)
 case atStart=>exact⟨r,1,r.length+1,[],rfl,rfl,Fs.zero _ _,Nat.lt_succ_self _,by simpa using ap.o,by have:=ap.o;omega,by rw[aS.o];cases C<;>rfl,Zh _ _⟩
 case round=>
  obtain⟨q1,n,f,done,rfl,rfl,o,bt,bs,bw,H,ac⟩:=hrel;obtain⟨f,rfl⟩:∃g,f=g+1:=⟨f-1,by omega⟩;obtain⟨O,Q,rfl⟩:=Xn o;obtain⟨ak,y⟩:=Y2 (aM.o.old ac) ac;have J:=Ql (q1.length+1) q1;have B:=Za (vA q1 (by omega) wr ak.o);rw[Hr]at H;obtain⟨bj,aB⟩:∃q,Dc (q1.length+1) q1=q:=⟨_,rfl⟩;rw[aB]at J B H;obtain⟨rest,a,ok⟩:=bj;dsimp only at J B H;have am:=Za o;have V:Ym (∀k,(Value.slice O done.length Q).ownBlock=some k→w.heap.size≤k∧k<wr.heap.size):=fun k e=>o.ge e
  have E:=Za H;have bC:(n:Int)+(a:Int)≤1000000:=by omega
  have bD:(0:Int)≤(n:Int)+(a:Int):=by omega
  have av:(n:Int)+(a:Int)=((n+a:Nat):Int):=by omega
  have G:=Za av;clear o ac aB H av
  cases ok with
  |false=>
   have c:=E.o;rw[if_neg (by decide)]at c;have F:=Za (show C=.error (n+a)from c.symm);clear c E;go_wp2_with fail;refine B.o.mono ?_;rintro e b ⟨rfl,d⟩;have p:=Za (y.o.trans (d.mono y.o.size));have i:w.heap.size≤b.heap.size:=p.o.size;clear d;go_wp2
   go_ret3
   exact Jx.noE F.o (p.o.alloc i _) (by rw[←G.o];rfl)
  |true=>
   cases rest with
   |nil=>
    have c:=E.o;rw[if_pos rfl,if_pos rfl]at c;have F:=Za (show C=.ok (done++[⟨5,[],0,((n+a:Nat):Int)⟩])from c.symm);clear c E;go_wp2_with fail;refine B.o.mono ?_;rintro e b ⟨rfl,d⟩;obtain⟨p,W⟩:=Y2 (y.o.trans (d.mono y.o.size)) (Ih am.o d);have be:=d.size;have h:Yn b.heap.size b (b.alloc (.cells #[ι 5,ε,ι 0,ι ((n:Int)+(a:Int))] 87)):=bA;obtain⟨X,z,U⟩:=Y3 (Ih W.o h) (p.o.trans (h.mono p.o.size)) (Zd b [ι 5,ε,ι 0,ι ((n:Int)+(a:Int))] 87);clear d h;go_wp2_with (at_builtin;(refine Ys (P:=Zb) _ rfl _ _ 80 rfl w.heap.size 87 aH _ 4 40 Yk aj.o aq.o ar.o au.o rfl (by decide) (ρ O done Q) done.length (done.flatMap Hc) rfl X.o ⟨b.heap.size,0,none⟩ 1 1 (Hc ⟨5,[],0,(n:Int)+(a:Int)⟩) rfl rfl U.o.news (Mg) (by decide) (by unfold maxLen;omega) (by omega) (by have:=z.o.size;exact this) _ rfl ?_;intro g cap bk o v ab bb;obtain⟨R,A⟩:=Y2 (Md z.o v (fun k e=>(V.o k e).1) z.o.size) (Fs.snoc ⟨5,[],0,(n:Int)+(a:Int)⟩ o);clear o v ab))
    go_ret3
    refine Jx.okE F.o R.o ⟨_,rfl,?_⟩;have K:=A.o;rw[G.o]at K;have bu:(done++[(⟨5,[],0,((n+a:Nat):Int)⟩:Tk)]).length=done.length+1:=by simp
    exact K
   |cons D t0=>
    have ad:D::t0≠[]:=by simp
    have Y:=Za fun b aa=>oG (D::t0) ad (by omega) b aa
    have c:=E.o;rw[if_pos rfl,if_neg ad]at c;have N:=fun k x n (aa:Ln (D::t0)=some (k,x,n))=>Ux aa
    have bc:(D::t0).isEmpty=false:=rfl;obtain⟨l,aA⟩:∃l,D::t0=l:=⟨_,rfl⟩;rw[aA]at B Y c N bc J;obtain⟨aI,I⟩:∃aI,Ln l=aI:=⟨_,rfl⟩;rw[I]at Y c N;obtain⟨L,Z,an,aU⟩:=Y4 c N J (Nl l);clear aA I c ad N J;go_wp2_with fail;refine B.o.mono ?_;rintro e b ⟨rfl,d⟩;obtain⟨p,aN,W⟩:=Y3 (y.o.trans (d.mono y.o.size)) (ak.o.old d) (Ih am.o d);have be:=d.size;have aP:=Za (Zd b [ι 0,ε,ι 0,ι 0] 87);have h:Yn b.heap.size b (b.alloc (.cells #[ι 0,ε,ι 0,ι 0] 87)):=bA;obtain⟨aO,z,X⟩:=Y3 (aN.o.old h) (p.o.trans (h.mono p.o.size)) (Ih W.o h);have i:w.heap.size≤b.heap.size:=p.o.size;clear d h;go_wp2_with fail;refine(Y.o _ aO.o).mono ?_;rintro e bl ⟨⟨k,x,j,ok,rfl,I⟩,M⟩;unfold Fb;obtain⟨m,ag,aQ⟩:=Y3 (aP.o.old M) (z.o.trans (M.mono z.o.size)) (Ih X.o M);clear M;have q0:=m.o.at 0 _ rfl;have aW:=m.o.fz 0;have bg:=m.o.at 1 _ rfl;have aX:=m.o.fz 1;have q2:=m.o.at 2 _ rfl;have aY:=m.o.fz 2;have q3:=m.o.at 3 _ rfl;have aZ:=m.o.fz 3;have bf:=m.o.lt
    cases ok with
    |false=>
     subst I;have F:=Za (show C=.error (n+a)from L.o.symm);clear L Z;go_wp2
     go_ret3
     refine Jx.noE F.o ?_ (by rw[←G.o];rfl);exact Gc (Gc (Gc (Gc ag.o i _ _) i _ _) i _ _) i _ _
    |true=>
     subst I;obtain⟨aJ,aK,bm,bn⟩:=Z.o k x j rfl;have aC:=congrArg Zz aK;rw[Zf]at aC;have bB:0<x.length:=Zy.2 aJ;have c:=L.o;have ax:Tx (done++[⟨k,x,j,((n+a:Nat):Int)⟩]) (Hr f (l.drop x.length) (n+a))=C:=by rw[Wx];exact c
     have aL:=Za ax;have bx:(x.length:Int)≤(l.length:Int):=by omega
     have bz:x.length≤l.length:=by omega
     have ai:Ym ((l.drop x.length).length=l.length-x.length):=Za Zu;clear c ax aJ aK bm bn aC L Z;go_upto_region 14 with(fail);obtain⟨A,T⟩:=Y2 (((((m.o.set 0 (ι k)).set 1 (σ x)).set 2 (ι j)).set 3 (ι 0)).set 3 (ι ((n:Int)+(a:Int)))) (Gc (Gc (Gc (Gc (Gc ag.o i 0 (ι k)) i 1 (σ x)) i 2 (ι j)) i 3 (ι 0)) i 3 (ι ((n:Int)+(a:Int))));have u:(Value.slice O done.length Q).ownBlock≠some b.heap.size:=fun e=>by have:=(V.o _ e).2;omega
     obtain⟨ah,al⟩:=Y2 u (Na (Na (Na (Na (Na aQ.o u 0 (ι k)) u 1 (σ x)) u 2 (ι j)) u 3 (ι 0)) u 3 (ι ((n:Int)+(a:Int))));obtain⟨t,aw⟩:∃t,(((((bl.setCell ⟨b.heap.size,0,none⟩ (ι k)).setCell ⟨b.heap.size,1,none⟩ (σ x)).setCell ⟨b.heap.size,2,none⟩ (ι j)).setCell ⟨b.heap.size,3,none⟩ (ι 0)).setCell ⟨b.heap.size,3,none⟩ (ι ((n:Int)+(a:Int))))=t:=⟨_,rfl⟩;rw[aw]at A T al ⊢;clear aw q0 aW bg aX q2 aY q3 aZ bf u;have h:Yn t.heap.size t (t.alloc (.cells #[ι k,σ x,ι j,ι ((n:Int)+(a:Int))] 87)):=bA;obtain⟨ao,S,aR,U⟩:=Y4 (A.o.old h) (T.o.trans (h.mono T.o.size)) (Ih al.o h) (Zd t [ι k,σ x,ι j,ι ((n:Int)+(a:Int))] 87);obtain ⟨D, bo, bp, bq⟩ := τ4 A.o;have br:=A.o.lt;clear h;go_wp2_with (at_builtin;(refine Ys (P:=Zb) _ rfl _ _ 80 rfl w.heap.size 87 aH _ 4 40 Yk aj.o aq.o ar.o au.o rfl (by decide) (ρ O done Q) done.length (done.flatMap Hc) rfl aR.o ⟨t.heap.size,0,none⟩ 1 1 (Hc ⟨k,x,j,(n:Int)+(a:Int)⟩) rfl rfl U.o.news (Mg) (by decide) (by unfold maxLen;omega) (by omega) (by have:=S.o.size;exact this) _ rfl ?_;intro g cap bk o v ab bb;obtain⟨R,aT⟩:=Y2 (Md S.o v (fun k e=>(V.o k e).1) S.o.size) (Fs.snoc ⟨k,x,j,(n:Int)+(a:Int)⟩ o);have bE:=(ao.o.grow v ah.o).at 1 _ rfl;have bF:=(ao.o.grow v ah.o).lt;clear o v ab))
     rw[aU.o _ _ rfl];go_roundw
     case rel=>
      have bd:=an.o;have ba:=ai.o;refine⟨l.drop x.length,n+a,f,done++[⟨k,x,j,((n+a:Nat):Int)⟩],rfl,by rw[←G.o],?_,by omega,by rw[Zf,List.length_singleton];omega,by omega,aL,R.o⟩;have K:=aT.o;rw[G.o]at K;exact K
     case measure=>have bd:=an.o;have ba:=ai.o;show(l.drop x.length).length<q1.length;omega
theorem yF(a:Bs)(cp:a.length≤20000)(w:Yp):
  Yq Zb 29 #[.string (Aa a)] w (Jx (Hr (a.length+1) a 1) w):=by
 have co:(Aa a).size=a.length:=by show a.toArray.size=_;simp
 obtain⟨y,aq⟩:∃bB,Hr (a.length+1) a 1=bB:=⟨_,rfl⟩;rw[aq];have bs:=Za aq;have cj:(a.length:Int)≤20000:=by omega
 obtain⟨bw,bz⟩:=Y2 (fun b ap n bI B=>rcSpace a b ap (by omega) n bI B) (Nl a);obtain⟨bb,aO,aY,aZ,ba⟩:=info_parts xA;obtain⟨az,aH,aI,aJ⟩:=Y4 aO aY aZ ba;clear aO aY aZ ba aq;go_enter func29,ntmps29;go_wp2
 go_loopw [5,6,7,8,9,10,11,12] (fun bQ au _ _ _ _ _ _ G=> ∃(b f:Nat) (done:List Tk),au= ι (b:Int)∧b≤a.length∧Fs G w.heap.size done bQ∧a.length-b<f∧done.length+(a.length-b)≤20000∧Ym (Tx done (Hr f (a.drop b) (1+Cr (a.take b)))=y)∧Yn w.heap.size w G) (fun _ au _ _ _ _ _ _ _=>a.length-(Yo au).toNat)
 case atStart=>exact⟨0,a.length+1,[],rfl,Ze _,Fs.zero _ _,by omega,by simp;omega,by show Tx [] (Hr _ _ 1)=_;rw[List.drop_zero,bs.o];cases y<;>rfl,Zh _ _⟩
 case round=>
  obtain⟨b,f,done,rfl,ap,s,ch,cg,u,aK⟩:=hrel;obtain⟨f,rfl⟩:∃g,f=g+1:=⟨f-1,by omega⟩;obtain⟨E,F,rfl⟩:=Xn s;have Z:=Za aK;have u:=u.out;have bH:(a.drop b).length=a.length-b:=Zu;obtain⟨bd,be,bf,ar⟩:=dB ((a.drop b).length+1) (a.drop b) (by omega) ((a.drop b).length+1) (by omega);have C:=bw.o b ap ((a.drop b).length+1) (by omega) wr;rw[Hr,bd,be,bf]at u;obtain⟨⟨k,ok⟩,aP⟩:∃q,Hv ((a.drop b).length+1) (a.drop b)=q:=⟨_,rfl⟩;rw[aP]at u C ar;dsimp only at u C ar;have aM:1+Cr (a.take b)+Cr ((a.drop b).take k)=1+Cr (a.take (b+k)):=by rw[gT];omega
  rw[aM,List.drop_drop]at u;have aE:=Za s;have ag:Ym (∀k,(Value.slice E done.length F).ownBlock=some k→w.heap.size≤k∧k<wr.heap.size):=fun k e=>s.ge e
  obtain⟨v,C⟩:=Y2 u C;have cl:b+k≤a.length:=by omega
  have bD:IntKind.i64.wrap ((b:Int)+(k:Int))=(b:Int)+(k:Int):=Zj _ (by omega);have br:Ym ((b:Int)+(k:Int)=((b+k:Nat):Int)):=(by omega:(b:Int)+(k:Int)=((b+k:Nat):Int));clear s aK u aP bd be bf ar aM bH;obtain⟨bg,bJ⟩:∃bg,bg=wr:=⟨_,rfl⟩;subst bJ;go_wp2_with fail;refine C.o.mono ?_;rintro e B ⟨rfl,S⟩;obtain⟨H,aF⟩:=Y2 (Z.o.trans (S.mono Z.o.size)) (Ih aE.o S);have aT:=S.size;have ah:Ym (∀k,(Value.slice E done.length F).ownBlock=some k→w.heap.size≤k∧k<B.heap.size):=fun k e=>⟨(ag.o k e).1,Nat.lt_of_lt_of_le (ag.o k e).2 aT⟩
  clear S C Z aE ag aT
  go_upto_block 2 with(fail);rw[br.o];clear bD;have cm:b≤b+k:=Nat.le_add_right _ _;generalize b+k=p at*;go_cut [9] (fun l G=>l= ι ((1+Cr (a.take p):Nat):Int)∧G=B)
  case first=>
   go_wp2
   go_loopw [9,10] (fun l i G=> ∃j:Nat,l= ι ((1+Cr (a.take j):Nat):Int)∧i= ι (j:Int)∧j≤p∧G=B) (fun _ i _=>p-(Yo i).toNat)
   case atStart=>exact⟨0,rfl,rfl,Ze _,rfl⟩
   case round=>
    obtain⟨j,rfl,rfl,ci,rfl⟩:=hrel;have U:Cr (a.take j)≤j:=Zq Yi (by rw[Ya];omega)
    by_cases hlt:j<p
    ·have bM:(j:Int)<(p:Int):=by omega
     have cq:(0:Int)≤(j:Int):=by omega
     have cr:(j:Int)<(a.length:Int):=by omega
     have bN:j<a.length:=by omega
     have cc:IntKind.i64.wrap ((j:Int)+1)=(j:Int)+1:=Zj _ (by omega);obtain⟨c,d⟩:∃c,a[j]? =some c:=⟨a[j],Zg bN⟩;have ce:∀r,(Aa a)[j]'r=c:=fun _=>(Yd.1 d).2
     have W:=jH a j c d
     by_cases h10:c=10
     ·rw[if_pos h10]at W
      subst h10;obtain⟨q,M⟩:∃q,1+Cr (a.take j)=q:=⟨_,rfl⟩;have ai:Ym ((1+Cr (a.take (j+1)):Nat)=q+1):=(by omega:(1+Cr (a.take (j+1)):Nat)=q+1);have cd:IntKind.i64.wrap ((q:Int)+1)=(q:Int)+1:=Zj _ (by omega);rw[M];clear d W U M;go_wp2;go_roundw
      case rel=>exact⟨j+1,by rw[ai.o];go_num,by go_num,by omega,by first|trivial|rfl⟩
      case measure=>simp [Yo];omega
     ·rw[if_neg h10]at W
      have bc:((c.toNat:Int)==10)=false:=by rw[beq_eq_false_iff_ne];intro r;exact h10 (UInt8.toNat_inj.1 (by show _=10;omega))
      have cs:¬(c.toNat:Int)=10:=by rw[beq_eq_false_iff_ne]at bc;exact bc
      obtain⟨q,M⟩:∃q,1+Cr (a.take j)=q:=⟨_,rfl⟩;have ai:Ym ((1+Cr (a.take (j+1)):Nat)=q):=(by omega:(1+Cr (a.take (j+1)):Nat)=q);rw[M];clear d W U h10 M;go_wp2;go_roundw
      case rel=>exact⟨j+1,by rw[ai.o],by go_num,by omega,by first|trivial|rfl⟩
      case measure=>simp [Yo];omega
    ·have bM:¬(j:Int)<(p:Int):=by omega
     have bE:j=p:=by omega
     subst bE;go_wp2;go_meet;exact⟨rfl,by first|trivial|rfl⟩
  case rest=>
  obtain⟨rfl,bK⟩:=hcut;subst bK;have U:Cr (a.take p)≤p:=Zq Yi (by rw[Ya];omega);have aA:Ym (1+Cr (a.take p)≤20001):=(by omega:1+Cr (a.take p)≤20001);have bq:Ym (∀q,a.take p=a.take q→Cr (a.take q)=Cr (a.take p)):=fun q r=>by rw[r]
  obtain⟨N,al⟩:∃N,1+Cr (a.take p)=N:=⟨_,rfl⟩;rw[al]at v aA ⊢;have bl:=Za al;have ct:(N:Int)≤1000000:=by have:=aA.o;omega
  clear U al bq
  cases ok with
  |false=>
   have d:=v.o;rw[if_neg (by decide)]at d;have I:=Za (show y=.error N from d.symm);clear d v;go_wp2
   go_ret3
   exact Jx.noE I.o H.o rfl
  |true=>
   by_cases hend:p=a.length
   ·have d:=v.o
    have aQ:a.drop p=[]:=by rw[hend];exact List.drop_length
    rw[if_pos rfl,if_pos aQ]at d;have I:=Za (show y=.ok (done++[⟨5,[],0,(N:Int)⟩])from d.symm);have bO:(a.length:Int)≤(p:Int):=by omega
    have z:Yn wc.heap.size wc (wc.alloc (.cells #[ι 5,ε,ι 0,ι (N:Int)] 87)):=bA;obtain⟨bm,ab,af⟩:=Y3 (Ih aF.o z) (H.o.trans (z.mono H.o.size)) (Zd wc [ι 5,ε,ι 0,ι (N:Int)] 87);clear d v z hend aQ;go_wp2_with (at_builtin;(refine Ys (P:=Zb) _ rfl _ _ 80 rfl w.heap.size 87 bb _ 4 40 Yk az.o aH.o aI.o aJ.o rfl (by decide) (ρ E done F) done.length (done.flatMap Hc) rfl bm.o ⟨wc.heap.size,0,none⟩ 1 1 (Hc ⟨5,[],0,(N:Int)⟩) rfl rfl af.o.news (Mg) (by decide) (by unfold maxLen;omega) (by omega) (by have:=ab.o.size;exact this) _ rfl ?_;intro g cap bS s L am bG;obtain⟨aa,bu⟩:=Y2 (Md ab.o L (fun k e=>(ah.o k e).1) ab.o.size) (Fs.snoc ⟨5,[],0,(N:Int)⟩ s);clear s L am))
    go_ret3
    exact Jx.okE I.o aa.o ⟨_,rfl,bu.o⟩
   ·have ao:a.drop p≠[]:=by
     intro r;have:=congrArg Zz r;rw[Zu,Zr]at this;omega
    have d:=v.o;rw[if_pos rfl,if_neg ao]at d;have D:=fun B=>rcToken (a.drop p) ao (by rw[Zu];omega) B
    have A:=fun k x n (r:Ln (a.drop p)=some (k,x,n))=>Ux r
    have X:=fun k x n (r:Ln (a.drop p)=some (k,x,n))=>lH r
    have O:(a.drop p).length=a.length-p:=Zu;have bO:¬(a.length:Int)≤(p:Int):=by omega
    have cv:(p:Int)≤(a.length:Int):=by omega
    have cw:(0:Int)≤(p:Int):=by omega
    have aX:=bz.o p a.length rfl;have ax:Ym (∀x:Bs,(a.drop p).drop x.length=a.drop (p+x.length)):=fun x=>List.drop_drop
    have ay:=Za (fun k=>gT a p k);obtain⟨Y,aS⟩:∃Y,a.drop p=Y:=⟨_,rfl⟩;rw[aS]at D d A X O aX ax ay;obtain⟨cu,aR⟩:∃b,Ln Y=b:=⟨_,rfl⟩;rw[aR]at D d A X;obtain⟨R,ak,aj,bt,D⟩:=Y5 d A X O D;clear aS aR d ao A X O v hend;go_wp2_with fail;refine(D.o _).mono ?_;rintro e t ⟨⟨h,x,o,m,rfl,V⟩,T⟩;unfold Fb;obtain⟨ac,bn⟩:=Y2 (H.o.trans (T.mono H.o.size)) (Ih aF.o T);have aU:=T.size;have aD:Ym (∀k,(Value.slice E done.length F).ownBlock=some k→w.heap.size≤k∧k<t.heap.size):=fun k e=>⟨(ah.o k e).1,Nat.lt_of_lt_of_le (ah.o k e).2 aU⟩
    clear T aX D aU;have z:Yn t.heap.size t (t.alloc (.cells #[ι h,σ x,ι o,ι 0] 87)):=bA;obtain⟨ad,aG,J⟩:=Y3 (ac.o.trans (z.mono ac.o.size)) (Ih bn.o z) (Zd t [ι h,σ x,ι o,ι 0] 87);clear z;go_upto_region 18 with(fail);generalize t.alloc (.cells #[ι h,σ x,ι o,ι 0] 87)=bT at*;have bx:Ym (w.heap.size≤t.heap.size):=ac.o.size;have bi:Ym ((Value.slice E done.length F).ownBlock≠some t.heap.size):=fun e=>by have:=(aD.o _ e).2;omega
    generalize t.heap.size=bR at*;rcases V with⟨rfl,rfl⟩|⟨V,rfl⟩
    ·have I:=Za (show y=.error N from R.o.symm)
     clear R ak aj;go_wp2
     go_ret3
     exact Jx.noE I.o ad.o rfl
    ·obtain⟨bh,av,bU,bV⟩:=ak.o h x o rfl
     have aV:=aj.o h x o rfl;have aW:=congrArg Zz av;rw[Zf]at aW;have bL:0<x.length:=Zy.2 bh;have O:=bt.o;have A:Y.take x.length=x:=by
      have:=congrArg (List.take x.length) av;rw[List.take_left]at this;exact this
     have aN:1+Cr (a.take (p+x.length))=N:=by
      have K:=ay.o x.length;have cb:=bl.o;rw[A,aV]at K;omega
     have d:=R.o;dsimp only at d;rw[ax.o x]at d;have aL:Tx (done++[⟨h,x,o,(N:Int)⟩]) (Hr f (a.drop (p+x.length)) (1+Cr (a.take (p+x.length))))=y:=by rw[Wx,aN];exact d
     have bj:=Za aL;have ck:((m:Int)==0)=false:=by rw[beq_eq_false_iff_ne];omega
     have cn:IntKind.i64.wrap ((p:Int)+(m:Int))=((p+m:Nat):Int):=by rw[Int.natCast_add];exact Zj _ (by omega)
     have bF:p+m≤a.length:=by omega
     have bk:Ym (m=x.length):=V;have aB:Ym (1≤m∧done.length+1+(a.length-(p+m))≤20000∧a.length-(p+m)<f):=⟨by omega,by omega,by omega⟩;have cf:done.length≤20000:=by omega
     clear d aL bh av bU bV aW bL O A aN aV V R ak aj;obtain⟨aC,aw,bo⟩:=Y3 (J.o.set 3 (ι (N:Int))) (Gc ad.o bx.o 3 (ι (N:Int))) (Na aG.o bi.o 3 (ι (N:Int)));have q3:=J.o.at 3 _ rfl;have bC:=J.o.fz 3;have bP:=J.o.lt;go_upto_region 21 with(fail);clear q3 bC bP J ad aG;generalize bT.setCell ⟨bR,3,none⟩ (ι (N:Int))=Q at*;have an:Yn Q.heap.size Q (Q.alloc (.cells #[ι h,σ x,ι o,ι (N:Int)] 87)):=bA;obtain⟨ae,bp,af⟩:=Y3 (aw.o.trans (an.mono aw.o.size)) (Ih bo.o an) (Zd Q [ι h,σ x,ι o,ι (N:Int)] 87);obtain ⟨bW, bX, bY, bZ⟩ := τ4 aC.o;have ca:=aC.o.lt;clear an;go_wp2_with (at_builtin;(refine Ys (P:=Zb) _ rfl _ _ 80 rfl w.heap.size 87 bb _ 4 40 Yk az.o aH.o aI.o aJ.o rfl (by decide) (ρ E done F) done.length (done.flatMap Hc) rfl bp.o ⟨Q.heap.size,0,none⟩ 1 1 (Hc ⟨h,x,o,(N:Int)⟩) rfl rfl af.o.news (Mg) (by decide) (by unfold maxLen;omega) (by omega) (by have:=ae.o.size;exact this) _ rfl ?_;intro g cap bS s L am bG;obtain⟨aa,bv⟩:=Y2 (Md ae.o L (fun k e=>(aD.o k e).1) ae.o.size) (Fs.snoc ⟨h,x,o,(N:Int)⟩ s);clear s L am))
     go_roundw
     case rel=>
      have K:=aB.o;refine⟨p+m,f,done++[⟨h,x,o,(N:Int)⟩],rfl,bF,bv.o,K.2.2,by rw[Zf,List.length_singleton];exact K.2.1,?_,aa.o⟩;show Ym (Tx _ (Hr f (a.drop (p+m)) (1+Cr (a.take (p+m))))=y)
      rw[bk.o];exact bj
     case measure=>have K:=aB.o;simp [Yo];omega
def Is:Nat→Ex→Nat
 |0,_=>1
 |m+1,e=>e.args.foldl (fun n a=>max n (Is m a)) 0+1
theorem Po {α:Type}(f:α→Nat):∀(l:List α) (n k:Nat),l.foldl (fun n a=>max n (f a)) n≤k↔n≤k∧∀a,a∈l→f a≤k
 |[],n,k=>by simp
 |x::l,n,k=>by
  rw[List.foldl_cons,Po f l];constructor
  ·rintro⟨d,c⟩
   exact⟨by omega,fun a b=>by rcases List.mem_cons.1 b with rfl|b;omega;exact c a b⟩
  ·rintro⟨d,c⟩
   exact⟨by have:=c x Zv;omega,fun a b=>c a (Yc _ b)⟩
theorem Xm:∀(k b:Nat) (e:Ex),k≤b→(Is b e≤k↔Ic k e=true)
 |0,b,e,_=>by cases b<;>simp [Is,Ic]
 |k+1,0,e,h=>absurd h (by omega)
 |k+1,b+1,e,h=>by
  rw[Is,Ic,Zi,Nat.add_le_add_iff_right,Po];constructor
  ·exact fun c a d=>(Xm k b a (by omega)).1 (c.2 a d)
  ·exact fun c=>⟨Ze _,fun a d=>(Xm k b a (by omega)).2 (c a d)⟩
theorem Vh:∀(b:Nat) (e:Ex),Is b e≤b+1
 |0,e=>Zc _
 |b+1,e=>by rw[Is,Nat.add_le_add_iff_right,Po];exact⟨Ze _,fun a _=>Vh b a⟩
theorem iV(e:Ex):(decide ((Is 41 e:Int)≤40) && Cc e)=Cf e:=by
 unfold Cf;congr 1
 rw[Zm,decide_eq_true_iff,←Xm 40 41 e (by omega)];omega
def Kx:Nat→List St→Nat
 |0,_=>0
 |m+1,l=>l.foldl (fun n x=>max n (max (1+Kx m x.thn) (1+Kx m x.els))) 0
def Ou(x:St):Bool:=
 let name:=Ak x.name
 let none:=x.name==[]
 let blocks:=x.thn.length==0 && x.els.length==0
 let fine:=if x.kind=1∨x.kind=2 then name && blocks else if x.kind=3 then none else if x.kind=4 then none && x.els.length==0
  else if x.kind=5∨x.kind=6 then none && blocks else if x.kind=7∨x.kind=8∨x.kind=9 then none && blocks
  else if x.kind=10 then none && blocks && x.args.length==1 && (x.args.headD (.mk 0 0 0 [] [])).kind==5 else false
 fine && x.args.length==(if x.kind=2 then 2 else if x.kind=5∨x.kind=6 then 0 else 1)
mutual
def Ly:St→Bool
 |.mk k nm args thn els=>args.all Cf && Fl thn && Fl els && Ou (.mk k nm args thn els)
def Fl:List St→Bool
 |[]=>true
 |x::l=>Ly x && Fl l
end
theorem Pp:∀l,Fl l=l.all Ly
 |[]=>rfl
 |x::l=>by simp [Fl,Pp l]
theorem Vz(x:St):Ly x=(x.args.all Cf && Fl x.thn && Fl x.els && Ou x):=by cases x;rw[Ly];rfl
theorem yB(f:Nat)(x:St):(!Io ((f+1:Nat):Int) x && !Nn x)=Ou x:=by
 have u:(((f+1:Nat):Int)==0)=false:=by rw[beq_eq_false_iff_ne];omega
 have d:∀(l:List St),l.isEmpty=(l.length==0):=fun l=>by cases l<;>rfl
 have v:Ak []=false:=rfl;obtain⟨k,nm,args,thn,els⟩:=x;unfold Io Nn Ou;dsimp only[St.kind,St.name,St.args,St.thn,St.els];rw[u,d,d];generalize (thn.length==0)=h;generalize (els.length==0)=g;generalize ((args.headD (.mk 0 0 0 [] [])).kind==5)=t;generalize args.length=n
 by_cases hk:1≤k∧k≤10
 ·have s:k=1∨k=2∨k=3∨k=4∨k=5∨k=6∨k=7∨k=8∨k=9∨k=10:=by omega
  have i:((n:Int)==0)=(n==0):=by rw[Zm,beq_iff_eq,beq_iff_eq];omega
  have m:((n:Int)==1)=(n==1):=by rw[Zm,beq_iff_eq,beq_iff_eq];omega
  have o:((n:Int)==2)=(n==2):=by rw[Zm,beq_iff_eq,beq_iff_eq];omega
  have p:(nm==[])=true→Ak nm=false:=fun q=>by rw[beq_iff_eq.1 q];rfl
  rcases s with rfl|rfl|rfl|rfl|rfl|rfl|rfl|rfl|rfl|rfl
  all_goals
   simp only[fOk,Ey,Ji,Jn,En,Int.reduceLE,Int.reduceEq,and_self,or_self,or_true,true_or,decide_true,decide_false,Bool.not_true,Bool.not_false,Bool.false_or,Bool.true_and,Bool.false_and,Bool.or_false,if_true,if_false,Bool.true_beq,Bool.false_beq,i,m,o,Int.reduceBEq]
   revert p
   cases Ak nm<;>cases nm==[]<;>cases h<;>cases g<;>cases t<;>simp<;>(try(cases n==1<;>simp))
 ·have r:fOk k=false:=decide_eq_false hk
  rw[r];have c:∀j:Int,1≤j→j≤10→k≠j:=fun j a b e=>hk ⟨by omega,by omega⟩
  simp [c 1 (by decide) (by decide),c 2 (by decide) (by decide),c 3 (by decide) (by decide),c 4 (by decide) (by decide),c 5 (by decide) (by decide),c 6 (by decide) (by decide),c 7 (by decide) (by decide),c 8 (by decide) (by decide),c 9 (by decide) (by decide),c 10 (by decide) (by decide)]
theorem jO:∀(k f:Nat) (l:List St),k<f→((Kx f l≤k∧Fl l=true)↔l.all (Dy k)=true)
 |k,0,l,h=>absurd h (by omega)
 |0,f+1,l,_=>by
  cases l with
  |nil=>simp [Kx,Fl]
  |cons x l=>
   rw[Kx,Po];simp only[List.all_cons,Dy,Bool.false_and,Bool.false_eq_true,iff_false];rintro⟨⟨_,h⟩,_⟩;have:=h x Zv;omega
 |k+1,f+1,l,h=>by
  rw[Kx,Po,Pp,Zi,Zi];have j:∀x:St,(max (1+Kx f x.thn) (1+Kx f x.els)≤k+1∧Ly x=true)↔Dy (k+1) x=true:=by
   intro x;have g:=jO k f x.thn (by omega);have i:=jO k f x.els (by omega);have m:Dy (k+1) x=(!Io ((k+1:Nat):Int) x && !Nn x && x.args.all Cf && x.thn.all (Dy k) && x.els.all (Dy k)):=by rw[Dy];rfl
   rw[m,yB,Vz];simp only[Zn];rw[←g,←i];constructor
   ·rintro⟨a,⟨⟨b,c⟩,d⟩,e⟩;exact⟨⟨⟨e,b⟩,by omega,c⟩,by omega,d⟩
   ·rintro⟨⟨⟨e,b⟩,n,c⟩,o,d⟩;exact⟨by omega,⟨⟨b,c⟩,d⟩,e⟩
  constructor
  ·rintro⟨⟨_,g⟩,i⟩ x hx;exact(j x).1 ⟨g x hx,i x hx⟩
  ·intro g;exact⟨⟨Ze _,fun x hx=>((j x).2 (g x hx)).1⟩,fun x hx=>((j x).2 (g x hx)).2⟩
theorem Qy:∀(a:Nat) (l:List St),Kx a l≤a
 |0,l=>Zc _
 |a+1,l=>by
  rw[Kx,Po];exact⟨Ze _,fun x _=>by have b:=Qy a x.thn;have c:=Qy a x.els;omega⟩
theorem qI(l:List St):(decide ((Kx 42 l:Int)≤40) && Fl l)=l.all (Dy 40):=by
 rw[Zm,Zn,decide_eq_true_iff,←jO 40 42 l (by omega)];constructor
 ·rintro⟨a,b⟩;exact⟨by omega,b⟩
 ·rintro⟨a,b⟩;exact⟨by omega,b⟩
def Vc(a:List Ex):Prop:= ∀(b:List Ex) (D:Nat→Prop) (c d:Value) (w:Yp),Ag D w a c→Ag D w b d→
 Yq Zb 15 #[c,d] w fun e w'=>e=.returned (.bool (Dd a b))∧∃n,w'=w.drewN n
theorem Ag.drewN {D:Nat→Prop}{w:Yp}{l:List Ex}{v:Value}(a:Ag D w l v)(n:Nat):Ag D (w.drewN n) l v:=Ag.keep (w:=w) (w':=w.drewN n) (fun _ _ _ _ hx=>hx) a
theorem dQ(x y:Ex):Hn x y=(x.kind==y.kind && x.op==y.op && x.n==y.n && x.name==y.name && Dd x.args y.args):=by
 cases x;cases y;rw[Hn];rfl
theorem oS(x y:Ex):(Hn x y=false∧(x.kind !=y.kind)=true)∨(Hn x y=false∧(x.kind !=y.kind)=false∧(x.op !=y.op)=true)∨(Hn x y=false∧(x.kind !=y.kind)=false∧(x.op !=y.op)=false∧(x.n !=y.n)=true)
  ∨(Hn x y=false∧(x.kind !=y.kind)=false∧(x.op !=y.op)=false∧(x.n !=y.n)=false∧(x.name==y.name)=false)
  ∨(Hn x y=false∧(x.kind !=y.kind)=false∧(x.op !=y.op)=false∧(x.n !=y.n)=false∧(x.name==y.name)=true∧Dd x.args y.args=false)
  ∨(Hn x y=true∧(x.kind !=y.kind)=false∧(x.op !=y.op)=false∧(x.n !=y.n)=false∧(x.name==y.name)=true∧Dd x.args y.args=true):=by
 rw[dQ];simp only[bne]
 cases x.kind==y.kind<;>cases x.op==y.op<;>cases x.n==y.n<;>cases x.name==y.name<;>cases Dd x.args y.args<;>simp
theorem tP(a:List Ex)(y:∀x,x∈a→Vc x.args):Vc a:=by
 intro b D aB aC w f c;obtain⟨I,J,rfl⟩:=f.shape;obtain⟨K,L,rfl⟩:=c.shape;have az:=f.fits.lt;have aj:=c.fits.lt;rw[Ty]
 by_cases hl:b.length=a.length
 ·rw[hl]at c ⊢
  obtain⟨S,U,aa,p⟩:=Y4 f c y hl;clear f c y hl aj;go_enter func15,ntmps15;go_wp2
  go_loopw [5] (fun z wr=> ∃k:Nat,k≤a.length∧z= ι k∧(∀i,i<k→Hn (a.getD i Ex.nil) (b.getD i Ex.nil)=true)∧∃n,wr=w.drewN n) (fun z _=>a.length-(Yo z).toNat)
  case atStart=>exact⟨0,Ze _,rfl,fun i u=>by omega,0,rfl⟩
  case round=>
   obtain⟨k,av,rfl,O,j⟩:=hrel;obtain⟨H,q⟩:=Y2 O j;have A:Ym (Ag D wr a (ρ I a J)):=by obtain⟨n,rfl⟩:=j;exact S.o.drewN n
   have B:Ym (Ag D wr b (ρ K a L)):=by obtain⟨n,rfl⟩:=j;exact U.o.drewN n
   clear O j
   by_cases hlt:k<a.length
   ·obtain⟨aD,aE,aF,rfl,al,an,I,J,ao,ap,r,ae⟩:=Ag.cellAt A.o k hlt
    obtain⟨aG,aH,aI,rfl,am,aq,K,L,ar,au,s,ah⟩:=Ag.cellAt B.o k (by rw[p.o];exact hlt);obtain⟨ac,ad,rfl⟩:=r.shape;obtain⟨af,ag,rfl⟩:=s.shape;obtain⟨T,V⟩:=Y2 r s;clear r s ae ah al am A B;obtain⟨ab,X⟩:=Y2 (aa.out _ (Cs hlt)) hlt;have N:=oS (Bx a k) (Bx b k);generalize P:Bx a k=l at*;generalize Q:Bx b k=m at*;obtain⟨Y,Z⟩:=Y2 P Q;clear P Q;have C:=Za N;clear N;have ax:(0:Int)≤(k:Int):=by omega
    have ay:(k:Int)<(a.length:Int):=by omega
    have W:Ym (∀g,Yq Zb 15 #[ρ ac l.args ad,ρ af m.args ag] (wr.drewN g) fun e w'=>e=.returned (.bool (Dd l.args m.args))∧∃n,w'=(wr.drewN g).drewN n):=fun g=>ab.out _ D _ _ _ (T.o.drewN g) (V.o.drewN g)
    generalize Dd l.args m.args=aA at*;go_wp2_with fail;go_quiet ((go_at_call 15;exact Yb (W.o _)));have E:=Za C.o;rcases E.o with⟨e,d⟩|⟨e,d,h⟩|⟨e,d,h,t⟩|⟨e,d,h,t,M⟩|⟨e,d,h,t,M,rfl⟩|⟨e,d,h,t,M,rfl⟩
    all_goals
     have F:Ym (Hn (Bx a k) (Bx b k)=Hn l m):=by show _=_;rw[Y.o,Z.o]
     have G:=Za e;clear C E e;go_wp2_with fail;go_quiet (fail);go_wp2_with fail
    iterate 5
     ·go_ret
      obtain⟨ak,v⟩:=q.o;exact⟨Ae (Ii Hn Ex.nil a b k p.o.symm X.o (F.o.trans G.o)).symm,_,by rw[v,Zs,Zs]⟩
    ·go_roundw
     case rel=>exact⟨k+1,by omega,by go_num,fun i u=>by rcases Zk.1 u with ai|rfl;exact H.o i ai;exact F.o.trans G.o,by obtain⟨ak,v⟩:=q.o;exact⟨_,by rw[v,Zs]⟩⟩
     case measure=>simp [Yo];omega
   ·go_wp2
    go_ret
    exact⟨Ae (Jm Hn Ex.nil a b p.o.symm (fun i u=>H.o i (by omega))).symm,q.o⟩
 ·have aw:((a.length:Int) !=(b.length:Int))=true:=by rw[bne_iff_ne];omega
  have R:Ym (Cb Hn a b=false):=Nf _ _ _ (by omega);clear f c y hl;go_enter func15,ntmps15;go_wp2;go_ret
  exact⟨Ae R.out.symm,0,rfl⟩
theorem nE:∀(n:Nat) (l:List Ex),SizeOf.sizeOf l≤n→Vc l
 |0,l,h=>by cases l<;>simp at h
 |n+1,l,h=>tP l fun x hx=>nE n x.args (by
  have a:=Zw hx
  cases x with
  |mk k o m nm args=>show SizeOf.sizeOf args≤n;simp at a;omega)
theorem mP(l:List Ex):Vc l:=nE _ l (Zc _)
theorem bX {α:Type}{f:α→Nat}(d:α){l:List α}{k:Nat}(b:k<l.length):(l.take (k+1)).foldl (fun n a=>max n (f a)) 0=max ((l.take k).foldl (fun n a=>max n (f a)) 0) (f (l.getD k d)):=by
 rw[List.take_add_one,List.foldl_append,Zg b];simp [Zg b]
def eE(e:Ex):Prop:= ∀(a:Nat),a≤41→∀(D:Nat→Prop) (s:Value) (w:Yp),Ag D w e.args s→
 Yq Zb 81 #[exV e s,.int .i64 a] w fun b w'=>b=.returned (.int .i64 (Is a e))∧Yn w.heap.size w w'
theorem jB(e:Ex)(J:∀x,x∈e.args→eE x):eE e:=by
 intro b ah D s w g;obtain⟨a,c,rfl⟩:=g.shape;have an:=g.fits.lt;obtain⟨N,p⟩:=Y2 g J;clear g J;have r:Yn w.heap.size w (w.alloc (ξ e (ρ a e.args c))):=bA;obtain⟨y,E,A⟩:=Y3 r (Zd w (χ e (ρ a e.args c)) 35) (N.out.old r);clear r;have l:Ym (Is 0 e=1):=by cases e;rfl
 have m:Ym (0<b→Is b e=e.args.foldl (fun n a=>max n (Is (b-1) a)) 0+1):=by
  intro ae;obtain⟨q,rfl⟩:∃q,b=q+1:=⟨b-1,by omega⟩;rw[Is];rfl
 have ai:(b:Int)≤41:=by omega
 go_enter func81,ntmps81;go_upto_region 1 with(fail);generalize w.alloc (ξ e (ρ a e.args c))=ac at*;go_wp2
 go_loopw [5,6] (fun ab v wr=> ∃k n:Nat,k≤e.args.length∧v= ι k∧ab= ι n∧n=(e.args.take k).foldl (fun n a=>max n (Is (b-1) a)) 0∧n≤41∧(b=0→k=0)∧Ym (Yn w.heap.size w wr)∧Ym (Ad wr w.heap.size (χ e (ρ a e.args c)) 35)∧Ym (Ag D wr e.args (ρ a e.args c))) (fun _ v _=>e.args.length-(Yo v).toNat)
 case atStart=>exact⟨0,0,Ze _,rfl,rfl,by simp,by omega,fun _=>rfl,y,E,A⟩
 case round=>
  obtain⟨k,n,af,rfl,rfl,d,Z,t,f,j,i⟩:=hrel;clear y E A;have q4:=j.out.at 4 _ rfl
  by_cases hlt:k<e.args.length
  ·have ag:(k:Int)<(e.args.length:Int):=by omega
   by_cases hm0:0<b
   ·have aj:(b:Int)>0:=by omega
    have ak:(0:Int)<(b:Int):=by omega
    obtain⟨ad,ao,V,rfl,W,Q,R,S,T,U,I,aa⟩:=i.out.cellAt k hlt;obtain⟨C,B⟩:=Y2 (p.out (Bx e.args k) (Cs hlt) (b-1) (by omega) D V) I;have O:Ym (max n (Is (b-1) (Bx e.args k))=(e.args.take (k+1)).foldl (fun n a=>max n (Is (b-1) a)) 0):=by show _=_;rw[bX Ex.nil hlt,←d]
    have X:=Vh (b-1) (Bx e.args k);have Y:Is (b-1) (Bx e.args k)≤41:=by omega
    have F:IntKind.i64.wrap ((b:Int)-1)=((b-1:Nat):Int):=by rw[show((b-1:Nat):Int)=(b:Int)-1 by omega];exact Zj _ (by omega)
    clear I aa W d X;generalize Bx e.args k=x at*;have z:=Za (C.o wr B.o);clear C B;clear t;go_wp2_with fail;refine z.o.mono ?_;rintro ap w2 ⟨rfl,h⟩;obtain⟨K,M,L⟩:=Y3 (f.out.trans (h.mono f.out.size)) (j.out.old h) (i.out.old h);have al:n≤41∧Is (b-1) x≤41:=⟨Z,Y⟩;clear h q4 Q R S T U z f j i F;go_wp2;go_roundw
    case rel=>exact⟨k+1,max n (Is (b-1) x),by omega,by go_num,by go_num,O.o,by omega,fun g=>absurd hm0 (by omega),K,M,L⟩
    case measure=>simp [Yo];omega
   ·obtain rfl:b=0:=by omega
    obtain rfl:=t rfl;have u:n=0:=by rw[d];simp
    subst u;clear d p m;have am:¬(((0:Nat):Int)>0):=by omega
    go_wp2;go_ret
    exact⟨by rw[l.o];rfl,f.out⟩
  ·have G:e.args.take k=e.args:=Yj (by omega)
   rw[G]at d;have H:Is b e=n+1:=by
    by_cases hm0:0<b
    ·rw[m.o hm0,d]
    ·obtain rfl:b=0:=by omega
     obtain rfl:=t rfl;have u:n=0:=by
      have:e.args=[]:=List.length_eq_zero_iff.1 (by omega);rw[d,this];rfl
     rw[u,l.o]
   have F:IntKind.i64.wrap ((n:Int)+1)=((n+1:Nat):Int):=by rw[show((n+1:Nat):Int)=(n:Int)+1 by omega];exact Zj _ (by omega)
   have P:=Za H;clear H d G l m p;go_wp2;go_ret
   exact⟨by rw[P.o];rfl,f.out⟩
theorem aZ:∀(n:Nat) (e:Ex),SizeOf.sizeOf e≤n→eE e
 |0,e,h=>by cases e;simp at h
 |n+1,e,h=>jB e fun x hx=>aZ n x (by have:=Ex.size_lt hx;omega)
theorem pZ(e:Ex):eE e:=aZ _ e (Zc _)
def Hf(e:Ex)(op n nm:Bool)(k:Int):Bool:=(op||e.op==0) && (n||e.n==0) && (nm||e.name==[]) && ((e.args.length:Int)==k)
theorem yR(e:Ex)(op n nm:Bool)(k:Int)(a:Option Addr)(c:Nat)(w:Yp):
  Yq Zb 120 #[exV e (.slice a e.args.length c),.bool op,.bool n,.bool nm,.int .i64 k] w fun d w'=>d=.returned (.bool (Hf e op n nm k))∧Yn w.heap.size w w':=by
 have b:=Za (Zd w (χ e (.slice a e.args.length c)) 35);have q1:=b.o.at 1 _ rfl;have q2:=b.o.at 2 _ rfl;have q3:=b.o.at 3 _ rfl;have q4:=b.o.at 4 _ rfl;unfold Hf;show Yq _ _ #[.agg #[ι e.kind,ι e.op,ι e.n,σ e.name,.slice a e.args.length c],.bool op,.bool n,.bool nm,ι k] _ _
 generalize e.args.length=f at*;generalize e.kind=kd at*;generalize e.op=h at*;generalize e.n=g at*;generalize e.name=s at*;clear b
 cases op<;>cases n<;>cases nm
 all_goals
  go_enter func120,ntmps120;go_wp2_with fail
 all_goals
  go_ret
  exact⟨Ae (by simp_all),bA⟩
def RrOf(e:Ex):Prop:= ∀(D:Nat→Prop) (s:Value) (w:Yp),Ag D w e.args s→
 Yq Zb 82 #[exV e s] w fun a w'=>a=.returned (.bool (Cc e))∧Yn w.heap.size w w'
def swB(e:Ex):Bool:=
 if e.kind=1 then Hf e false true false 0 && decide (0≤e.n)
 else if e.kind=2 then Hf e false false true 0 && Ak e.name
 else if e.kind=3 then Hf e true false false 1 && decide (17≤e.op) && decide (e.op≤19)
 else if e.kind=4 then Hf e true false false 2 && decide (1≤e.op) && decide (e.op≤16)
 else if e.kind=5 then Hf e false false true e.args.length && Ak e.name && decide ((e.args.length:Int)≤6)
 else if e.kind=6 then Hf e false false true 1 && Ak e.name
 else if e.kind=7 then Hf e false false false 0 else false
theorem eN(c:Int):decide (0<Ao c)=(decide (1≤c) && decide (c≤16)):=by
 by_cases h:1≤c∧c≤16
 ·have:c=1∨c=2∨c=3∨c=4∨c=5∨c=6∨c=7∨c=8∨c=9∨c=10∨c=11∨c=12∨c=13∨c=14∨c=15∨c=16:=by omega
  rcases this with rfl|rfl|rfl|rfl|rfl|rfl|rfl|rfl|rfl|rfl|rfl|rfl|rfl|rfl|rfl|rfl<;>decide+kernel
 ·have d:∀j:Int,1≤j→j≤16→c≠j:=fun j a b e=>h ⟨by omega,by omega⟩
  have f:Ao c=0:=by
   unfold Ao;rw[if_neg (d 1 (by decide) (by decide)),if_neg (d 2 (by decide) (by decide)),if_neg (d 3 (by decide) (by decide)),if_neg (d 4 (by decide) (by decide)),if_neg (d 5 (by decide) (by decide)),if_neg (d 6 (by decide) (by decide)),if_neg (d 7 (by decide) (by decide)),if_neg (d 8 (by decide) (by decide)),if_neg (d 9 (by decide) (by decide)),if_neg (d 10 (by decide) (by decide)),if_neg (d 11 (by decide) (by decide)),if_neg (d 12 (by decide) (by decide)),if_neg (d 13 (by decide) (by decide)),if_neg (d 14 (by decide) (by decide)),if_neg (d 15 (by decide) (by decide)),if_neg (d 16 (by decide) (by decide))]
  rw[f];rw[show decide ((0:Int)<0)=false from rfl]
  symm
  rw[Bool.and_eq_false_iff,decide_eq_false_iff_not,decide_eq_false_iff_not];omega
theorem swB_eq(e:Ex):swB e=Cl e:=by
 obtain⟨k,c,n,nm,args⟩:=e;unfold swB Cl Gr De Iq Lb Ez Hf;dsimp only[Ex.kind,Ex.op,Ex.n,Ex.name,Ex.args];have g:((0:Int)==c)=(c==0):=by rw[Zm,beq_iff_eq,beq_iff_eq];omega
 have h:((0:Int)==n)=(n==0):=by rw[Zm,beq_iff_eq,beq_iff_eq];omega
 have i:(([]:Bs)==nm)=(nm==[]):=by rw[Zm,beq_iff_eq,beq_iff_eq];exact eq_comm
 by_cases hk:1≤k∧k≤7
 ·have l:k=1∨k=2∨k=3∨k=4∨k=5∨k=6∨k=7:=by omega
  rcases l with rfl|rfl|rfl|rfl|rfl|rfl|rfl
  all_goals
   simp only[Int.reduceEq,or_self,or_true,true_or,if_true,if_false,beq_self_eq_true,Bool.and_true,Bool.true_and,Bool.false_or,Bool.true_or,decide_true,g,h,i,eN]
  ·cases(c==0)<;>cases(n==0)<;>cases(nm==[])<;>cases((args.length:Int)==0)<;>simp
  ·cases(c==0)<;>cases(n==0)<;>cases Ak nm<;>cases((args.length:Int)==0)<;>simp
  ·have:(c=17∨c=18∨c=19)↔(17≤c∧c≤19):=by omega
   cases(n==0)<;>cases(nm==[])<;>cases((args.length:Int)==1)<;>simp [this]<;>(rw[Zm];simp only[Zn,decide_eq_true_eq];exact⟨fun d=>⟨of_decide_eq_true d.1,of_decide_eq_true d.2⟩,fun d=>⟨decide_eq_true d.1,decide_eq_true d.2⟩⟩)
  ·have m:0<Ao c↔(1≤c∧c≤16):=by have:=eN c;rw[Zm,Zn,decide_eq_true_iff,decide_eq_true_iff,decide_eq_true_iff]at this;exact this
   cases(n==0)<;>cases(nm==[])<;>cases((args.length:Int)==2)<;>simp<;>(rw[Zm];simp only[Zn,decide_eq_true_eq,m];exact⟨fun d=>⟨of_decide_eq_true d.1,of_decide_eq_true d.2⟩,fun d=>⟨decide_eq_true d.1,decide_eq_true d.2⟩⟩)
  ·cases(c==0)<;>cases(n==0)<;>cases Ak nm<;>simp
  ·cases(c==0)<;>cases(n==0)<;>cases Ak nm<;>cases((args.length:Int)==1)<;>simp
  ·cases(c==0)<;>cases(n==0)<;>cases(nm==[])<;>cases((args.length:Int)==0)<;>simp
 ·have f:∀j:Int,1≤j→j≤7→k≠j:=fun j a b e=>hk ⟨by omega,by omega⟩
  simp [f 1 (by decide) (by decide),f 2 (by decide) (by decide),f 3 (by decide) (by decide),f 4 (by decide) (by decide),f 5 (by decide) (by decide),f 6 (by decide) (by decide),f 7 (by decide) (by decide)]
theorem fD(e:Ex)(am:∀x,x∈e.args→RrOf x):RrOf e:=by
 intro D s w B;obtain⟨a,c,rfl⟩:=B.shape;have aL:=B.fits.lt;obtain⟨O,X⟩:=Y2 B am;clear B am;have M:Yn w.heap.size w (w.alloc (ξ e (ρ a e.args c))):=bA;obtain⟨P,V,R⟩:=Y3 M (Zd w [ι e.kind,ι e.op,ι e.n,σ e.name,ρ a e.args c] 35) (O.out.old M);clear M;have L:Ym (Cc e=(Cl e && e.args.all Cc)):=Lh e;go_enter func82,ntmps82;go_upto_region 1 with(fail);generalize w.alloc (ξ e (ρ a e.args c))=aA at*;go_wp2
 go_loopw [3] (fun N wr=> ∃k:Nat,k≤e.args.length∧N= ι k∧Ym (∀i,i<k→Cc (Bx e.args i)=true)∧Ym (Yn w.heap.size w wr)∧Ym (Ad wr w.heap.size [ι e.kind,ι e.op,ι e.n,σ e.name,ρ a e.args c] 35)∧Ym (Ag D wr e.args (ρ a e.args c))) (fun N _=>e.args.length-(Yo N).toNat)
 case atStart=>exact⟨0,Ze _,rfl,fun i H=>absurd H (by omega),P,V,R⟩
 case round=>
  obtain⟨k,aJ,rfl,K,l,j,J⟩:=hrel;clear P V R;have q4:=j.out.at 4 _ rfl
  by_cases hlt:k<e.args.length
  ·have aK:(k:Int)<(e.args.length:Int):=by omega
   obtain⟨aI,aM,au,rfl,av,Y,Z,aa,ab,ac,al,ax⟩:=J.out.cellAt k hlt;obtain⟨T,S,ap⟩:=Y3 (X.out (Bx e.args k) (Cs hlt) D au) al hlt;clear al ax av;generalize hx:Bx e.args k=x at*;have W:=Za hx;clear hx;have d:=Za (T.o wr S.o);clear T S
   cases hr:Cc x
   ·rw[hr]at d
    have aq:=Za hr;clear hr;go_wp2_with fail;refine d.o.mono ?_;rintro u w2 ⟨rfl,A⟩;have I:=Za (l.out.trans (A.mono l.out.size));clear A q4 Y Z aa ab ac d;go_wp2;go_ret
    exact⟨Ae (by
     rw[L.o]
     cases q:e.args.all Cc
     ·simp
     ·have:=Zi.1 q _ (Cs ap.o)
      rw[W.o,aq.o]at this;cases this),I.out⟩
   ·rw[hr]at d
    have ar:=Za hr;clear hr;go_wp2_with fail;refine d.o.mono ?_;rintro u w2 ⟨rfl,A⟩;obtain⟨I,ao,an⟩:=Y3 (l.out.trans (A.mono l.out.size)) (j.out.old A) (J.out.old A);clear A q4 Y Z aa ab ac d l j J;go_wp2;go_roundw
    case rel=>exact⟨k+1,by omega,by go_num,fun i H=>by rcases Zk.1 H with B|rfl;exact K.o i B;rw[W.o];exact ar.o,I,ao,an⟩
    case measure=>simp [Yo];omega
  ·have aj:e.args.all Cc=true:=Zi.2 (fun x hx=>by
    obtain⟨i,H,rfl⟩:=Zt hx;have:=K.o i (by omega)
    rwa[Ro H]at this)
   have ak:Cc e=swB e:=by rw[L.o,aj,swB_eq];simp
   have y:=Za ak;clear ak aj K L X;have q0:=j.out.at 0 _ rfl;have q3:=j.out.at 3 _ rfl;obtain⟨U,Q⟩:=Y2 (Ie e.name wr) (fun op n nm k w=>yR e op n nm k a c w);go_wp2_with fail;refine U.o.mono ?_;rintro u w2 ⟨rfl,ay⟩;subst ay;have q1:=j.out.at 1 _ rfl;have q2:=j.out.at 2 _ rfl;clear U O;have az:=Za q0;have h:Ym (swB e=swB e):=rfl;have r:Ym (∀op n nm k (w:Yp),Yq Zb 120 #[.agg #[ι e.kind,ι e.op,ι e.n,σ e.name,ρ a e.args c],.bool op,.bool n,.bool nm,ι k] w fun u w'=>u=.returned (.bool (Hf e op n nm k))∧Yn w.heap.size w w'):=Q.o;clear Q h az;have aw:(e.kind=1∨e.kind=2∨e.kind=3∨e.kind=4∨e.kind=5∨e.kind=6∨e.kind=7)∨(e.kind≠1∧e.kind≠2∧e.kind≠3∧e.kind≠4∧e.kind≠5∧e.kind≠6∧e.kind≠7):=by omega
   rcases aw with(f|f|f|f|f|f|f)|⟨f,ad,ae,af,ag,ah,ai⟩
   ·have h:Ym (swB e=(Hf e false true false 0 && decide (0≤e.n))):=by show _=_;unfold swB;rw[if_pos f]
    have d:=Za (fun w=>r.o false true false 0 w);rw[f]at q0 d j;obtain⟨b,m⟩:∃b,Hf e false true false 0=b:=⟨_,rfl⟩;rw[m]at d h;clear r f m
    cases b<;>by_cases t0:0≤e.n
    all_goals
     go_wp2_with fail;refine(d.o _).mono ?_;rintro u G ⟨rfl,p⟩;obtain⟨t,g⟩:=Y2 (l.out.trans (p.mono l.out.size)) (j.out.old p);have C:=g.out.at 1 _ rfl;have E:=g.out.at 2 _ rfl;have F:=g.out.at 4 _ rfl;go_wp2;go_ret
     exact⟨Ae (by rw[y.o,h.o];try simp_all),t.out⟩
   ·have h:Ym (swB e=(Hf e false false true 0 && Ak e.name)):=by show _=_;unfold swB;rw[if_neg (by omega)];rw[if_pos f]
    have d:=Za (fun w=>r.o false false true 0 w);rw[f]at q0 d j;obtain⟨b,m⟩:∃b,Hf e false false true 0=b:=⟨_,rfl⟩;rw[m]at d h;clear r f m;obtain⟨v,z⟩:∃v,Ak e.name=v:=⟨_,rfl⟩;rw[z]at h ⊢;clear z
    cases b
    all_goals
     go_wp2_with fail;refine(d.o _).mono ?_;rintro u G ⟨rfl,p⟩;obtain⟨t,g⟩:=Y2 (l.out.trans (p.mono l.out.size)) (j.out.old p);have C:=g.out.at 1 _ rfl;have E:=g.out.at 2 _ rfl;have F:=g.out.at 4 _ rfl;go_wp2;go_ret
     exact⟨Ae (by rw[y.o,h.o];try simp_all),t.out⟩
   ·have h:Ym (swB e=(Hf e true false false 1 && decide (17≤e.op) && decide (e.op≤19))):=by show _=_;unfold swB;rw[if_neg (by omega)];rw[if_neg (by omega)];rw[if_pos f]
    have d:=Za (fun w=>r.o true false false 1 w);rw[f]at q0 d j;obtain⟨b,m⟩:∃b,Hf e true false false 1=b:=⟨_,rfl⟩;rw[m]at d h;clear r f m
    cases b<;>by_cases t0:17≤e.op<;>by_cases t1:e.op≤19
    all_goals try(exfalso;omega)
    all_goals
     go_wp2_with fail;refine(d.o _).mono ?_;rintro u G ⟨rfl,p⟩;obtain⟨t,g⟩:=Y2 (l.out.trans (p.mono l.out.size)) (j.out.old p);have C:=g.out.at 1 _ rfl;have E:=g.out.at 2 _ rfl;have F:=g.out.at 4 _ rfl;go_wp2;go_ret
     exact⟨Ae (by rw[y.o,h.o];try simp_all),t.out⟩
   ·have h:Ym (swB e=(Hf e true false false 2 && decide (1≤e.op) && decide (e.op≤16))):=by show _=_;unfold swB;rw[if_neg (by omega)];rw[if_neg (by omega)];rw[if_neg (by omega)];rw[if_pos f]
    have d:=Za (fun w=>r.o true false false 2 w);rw[f]at q0 d j;obtain⟨b,m⟩:∃b,Hf e true false false 2=b:=⟨_,rfl⟩;rw[m]at d h;clear r f m
    cases b<;>by_cases t0:1≤e.op<;>by_cases t1:e.op≤16
    all_goals try(exfalso;omega)
    all_goals
     go_wp2_with fail;refine(d.o _).mono ?_;rintro u G ⟨rfl,p⟩;obtain⟨t,g⟩:=Y2 (l.out.trans (p.mono l.out.size)) (j.out.old p);have C:=g.out.at 1 _ rfl;have E:=g.out.at 2 _ rfl;have F:=g.out.at 4 _ rfl;go_wp2;go_ret
     exact⟨Ae (by rw[y.o,h.o];try simp_all),t.out⟩
   ·have h:Ym (swB e=(Hf e false false true e.args.length && Ak e.name && decide ((e.args.length:Int)≤6))):=by show _=_;unfold swB;rw[if_neg (by omega)];rw[if_neg (by omega)];rw[if_neg (by omega)];rw[if_neg (by omega)];rw[if_pos f]
    have d:=Za (fun w=>r.o false false true (e.args.length:Int) w);rw[f]at q0 d j;obtain⟨b,m⟩:∃b,Hf e false false true e.args.length=b:=⟨_,rfl⟩;rw[m]at d h;clear r f m;obtain⟨v,z⟩:∃v,Ak e.name=v:=⟨_,rfl⟩;rw[z]at h ⊢;clear z
    cases b<;>cases v<;>by_cases t0:(e.args.length:Int)≤6
    all_goals
     go_wp2_with fail;refine(d.o _).mono ?_;rintro u G ⟨rfl,p⟩;obtain⟨t,g⟩:=Y2 (l.out.trans (p.mono l.out.size)) (j.out.old p);have C:=g.out.at 1 _ rfl;have E:=g.out.at 2 _ rfl;have F:=g.out.at 4 _ rfl;go_wp2;go_ret
     exact⟨Ae (by rw[y.o,h.o];try simp_all),t.out⟩
   ·have h:Ym (swB e=(Hf e false false true 1 && Ak e.name)):=by show _=_;unfold swB;rw[if_neg (by omega)];rw[if_neg (by omega)];rw[if_neg (by omega)];rw[if_neg (by omega)];rw[if_neg (by omega)];rw[if_pos f]
    have d:=Za (fun w=>r.o false false true 1 w);rw[f]at q0 d j;obtain⟨b,m⟩:∃b,Hf e false false true 1=b:=⟨_,rfl⟩;rw[m]at d h;clear r f m;obtain⟨v,z⟩:∃v,Ak e.name=v:=⟨_,rfl⟩;rw[z]at h ⊢;clear z
    cases b
    all_goals
     go_wp2_with fail;refine(d.o _).mono ?_;rintro u G ⟨rfl,p⟩;obtain⟨t,g⟩:=Y2 (l.out.trans (p.mono l.out.size)) (j.out.old p);have C:=g.out.at 1 _ rfl;have E:=g.out.at 2 _ rfl;have F:=g.out.at 4 _ rfl;go_wp2;go_ret
     exact⟨Ae (by rw[y.o,h.o];try simp_all),t.out⟩
   ·have h:Ym (swB e=(Hf e false false false 0)):=by show _=_;unfold swB;rw[if_neg (by omega)];rw[if_neg (by omega)];rw[if_neg (by omega)];rw[if_neg (by omega)];rw[if_neg (by omega)];rw[if_neg (by omega)];rw[if_pos f]
    have d:=Za (fun w=>r.o false false false 0 w);rw[f]at q0 d j;obtain⟨b,m⟩:∃b,Hf e false false false 0=b:=⟨_,rfl⟩;rw[m]at d h;clear r f m
    cases b
    all_goals
     go_wp2_with fail;refine(d.o _).mono ?_;rintro u G ⟨rfl,p⟩;obtain⟨t,g⟩:=Y2 (l.out.trans (p.mono l.out.size)) (j.out.old p);have C:=g.out.at 1 _ rfl;have E:=g.out.at 2 _ rfl;have F:=g.out.at 4 _ rfl;go_wp2;go_ret
     exact⟨Ae (by rw[y.o,h.o];try simp_all),t.out⟩
   ·have h:Ym (swB e=false):=by show _=_;unfold swB;rw[if_neg f,if_neg ad,if_neg ae,if_neg af,if_neg ag,if_neg ah,if_neg ai]
    have aB:(e.kind==1)=false:=by rw[beq_eq_false_iff_ne];exact f
    have aC:(e.kind==2)=false:=by rw[beq_eq_false_iff_ne];exact ad
    have aD:(e.kind==3)=false:=by rw[beq_eq_false_iff_ne];exact ae
    have aE:(e.kind==4)=false:=by rw[beq_eq_false_iff_ne];exact af
    have aF:(e.kind==5)=false:=by rw[beq_eq_false_iff_ne];exact ag
    have aG:(e.kind==6)=false:=by rw[beq_eq_false_iff_ne];exact ah
    have aH:(e.kind==7)=false:=by rw[beq_eq_false_iff_ne];exact ai
    go_wp2;go_ret
    exact⟨Ae (by rw[y.o,h.o]),l.out⟩
theorem Vk:∀(n:Nat) (e:Ex),SizeOf.sizeOf e≤n→RrOf e
 |0,e,h=>by cases e;simp at h
 |n+1,e,h=>fD e fun x hx=>Vk n x (by have:=Ex.size_lt hx;omega)
theorem kH(e:Ex):RrOf e:=Vk _ e (Zc _)
theorem Pc(e:Ex)(D:Nat→Prop)(s:Value)(w:Yp)(b:Ag D w e.args s):
  Yq Zb 35 #[exV e s] w fun l w'=>l=.returned (.bool (Cf e))∧Yn w.heap.size w w':=by
 obtain⟨a,c,rfl⟩:=b.shape;obtain⟨v,m,p⟩:=Y3 b (fun(w:Yp) b=>pZ e 41 (by omega) D (ρ a e.args c) w b) (fun(w:Yp) b=>kH e D (ρ a e.args c) w b);have A:=Vh 41 e;have g:Ym ((decide ((Is 41 e:Int)≤40) && Cc e)=Cf e):=iV e;have q:Yn w.heap.size w (w.alloc (ξ e (ρ a e.args c))):=bA;obtain⟨f,k,j⟩:=Y3 q (Zd w [ι e.kind,ι e.op,ι e.n,σ e.name,ρ a e.args c] 35) (v.out.old q);clear q b;go_enter func35,ntmps35;go_upto_region 1 with(fail);generalize w.alloc (ξ e (ρ a e.args c))=y at*;generalize Is 41 e=z at*;obtain ⟨q0, q1, q2, q3, q4⟩ := τ5 k.o;have i:=Za (m.o y j.o)
 by_cases ht:(z:Int)≤40
 ·rw[decide_eq_true ht]at g
  go_wp2_with fail;refine i.o.mono ?_;rintro l w2 ⟨rfl,d⟩;obtain⟨h,u,x⟩:=Y3 (f.o.trans (d.mono f.o.size)) (k.o.old d) (p.o w2 (j.o.old d));clear d q0 q1 q2 q3 q4 i m p j k f;obtain ⟨q0, q1, q2, q3, q4⟩ := τ5 u.out;go_wp2_with fail;refine x.o.mono ?_;rintro l B ⟨rfl,r⟩;have t:=Za (h.out.trans (r.mono h.out.size));clear r q0 q1 q2 q3 q4;go_wp2;go_ret
  exact⟨Ae g.out,t.out⟩
 ·rw[decide_eq_false ht]at g
  go_wp2_with fail;refine i.o.mono ?_;rintro l w2 ⟨rfl,d⟩;have h:=Za (f.o.trans (d.mono f.o.size));clear d q0 q1 q2 q3 q4 i m p j k f;go_wp2;go_ret
  exact⟨Ae g.out,h.out⟩
theorem Ec {D:Nat→Prop}{w:Yp}{l:List St}{v:Value}(a:Au D w l v)(n:Nat):Au D (w.drewN n) l v:=Au.keep (w:=w) (w':=w.drewN n) (fun _ _ _ _ hx=>hx) a
def Xk(a:List St):Prop:= ∀(b:List St) (D:Nat→Prop) (c d:Value) (w:Yp),Au D w a c→Au D w b d→
 Yq Zb 37 #[c,d] w fun e w'=>e=.returned (.bool (Cb Da a b))∧∃n,w'=w.drewN n
theorem dC(x y:St):Da x y=(x.kind==y.kind && x.name==y.name && Dd x.args y.args && Cb Da x.thn y.thn && Cb Da x.els y.els):=by
 cases x;cases y;rw[Da,Mi,Mi];rfl
theorem lD(x y:St):(Da x y=false∧(x.kind !=y.kind)=true)∨(Da x y=false∧(x.kind !=y.kind)=false∧(x.name==y.name)=false)
  ∨(Da x y=false∧(x.kind !=y.kind)=false∧(x.name==y.name)=true∧Dd x.args y.args=false)
  ∨(Da x y=false∧(x.kind !=y.kind)=false∧(x.name==y.name)=true∧Dd x.args y.args=true∧Cb Da x.thn y.thn=false)
  ∨(Da x y=false∧(x.kind !=y.kind)=false∧(x.name==y.name)=true∧Dd x.args y.args=true∧Cb Da x.thn y.thn=true∧Cb Da x.els y.els=false)
  ∨(Da x y=true∧(x.kind !=y.kind)=false∧(x.name==y.name)=true∧Dd x.args y.args=true∧Cb Da x.thn y.thn=true∧Cb Da x.els y.els=true):=by
 rw[dC];simp only[bne]
 cases x.kind==y.kind<;>cases x.name==y.name<;>cases Dd x.args y.args<;>cases Cb Da x.thn y.thn<;>cases Cb Da x.els y.els<;>simp
theorem nX(d:List St)(am:∀x,x∈d→Xk x.thn)(al:∀x,x∈d→Xk x.els):Xk d:=by
 intro r D bn bo w F B;obtain⟨p,Z,rfl⟩:=F.shape;obtain⟨q,ad,rfl⟩:=B.shape;have bj:=F.fits.lt;have aZ:=B.fits.lt
 by_cases hl:r.length=d.length
 ·rw[hl]at B ⊢
  obtain⟨aF,aJ,aS,aQ,U⟩:=Y5 F B am al hl;clear F B am al hl aZ;go_enter func37,ntmps37;go_wp2
  go_loopw [5] (fun an wr=> ∃k:Nat,k≤d.length∧an= ι k∧(∀i,i<k→Da (d.getD i St.nil) (r.getD i St.nil)=true)∧∃n,wr=w.drewN n) (fun an _=>d.length-(Yo an).toNat)
  case atStart=>exact⟨0,Ze _,rfl,fun i aj=>by omega,0,rfl⟩
  case round=>
   obtain⟨k,bf,rfl,aB,S⟩:=hrel;obtain⟨az,V⟩:=Y2 aB S;have ao:Ym (Au D wr d (ρ p d Z)):=by obtain⟨n,rfl⟩:=S;exact Ec aF.o n
   have ap:Ym (Au D wr r (ρ q d ad)):=by obtain⟨n,rfl⟩:=S;exact Ec aJ.o n
   clear aB S
   by_cases hlt:k<d.length
   ·obtain⟨g,h,bq,br,bp,rfl,bb,bc,t,p,Z,u,v,ab,ac,aa⟩:=Au.cellAt ao.o k hlt
    obtain⟨j,l,bt,bu,bs,rfl,bd,be,y,q,ad,z,A,af,ag,ae⟩:=Au.cellAt ap.o k (by rw[U.o];exact hlt);obtain⟨aU,aV,rfl⟩:=ab.shape;obtain⟨aW,aX,rfl⟩:=af.shape;obtain⟨J,K,rfl⟩:=ac.shape;obtain⟨N,O,rfl⟩:=ag.shape;obtain⟨L,I,rfl⟩:=aa.shape;obtain⟨P,M,rfl⟩:=ae.shape;obtain⟨aH,aL,aI,aM,aG,aK⟩:=Y6 ab af ac ag aa ae;clear ab af ac ag aa ae bb bd bc be ao ap;obtain⟨aT,aR,aN⟩:=Y3 (aS.out _ (Jy hlt)) (aQ.out _ (Jy hlt)) hlt;have aA:=lD (Fk d k) (Fk r k);generalize aC:Fk d k=b at*;generalize aD:Fk r k=c at*;obtain⟨aO,aP⟩:=Y2 aC aD;clear aC aD;have aq:=Za aA;clear aA;have bh:(0:Int)≤(k:Int):=by omega
    have bi:(k:Int)<(d.length:Int):=by omega
    have ar:Ym (∀a,Yq Zb 15 #[ρ aU b.args aV,ρ aW c.args aX] (wr.drewN a) fun e w'=>e=.returned (.bool (Dd b.args c.args))∧∃n,w'=(wr.drewN a).drewN n):=fun a=>mP _ _ D _ _ _ (aH.o.drewN a) (aL.o.drewN a)
    have C:Ym (∀f,(∃a,f=wr.drewN a)→∀a,Yq Zb 37 #[ρ J b.thn K,ρ N c.thn O] (f.drewN a) fun e w'=>e=.returned (.bool (Cb Da b.thn c.thn))∧∃n,w'=(f.drewN a).drewN n):=by
     rintro f ⟨G,rfl⟩ a;exact aT.out _ D _ _ _ (Ec (Ec aI.o G) a) (Ec (Ec aM.o G) a)
    have au:Ym (∀f,(∃a,f=wr.drewN a)→∀a,Yq Zb 37 #[ρ L b.els I,ρ P c.els M] (f.drewN a) fun e w'=>e=.returned (.bool (Cb Da b.els c.els))∧∃n,w'=(f.drewN a).drewN n):=by
     rintro f ⟨G,rfl⟩ a;exact aR.out _ D _ _ _ (Ec (Ec aG.o G) a) (Ec (Ec aK.o G) a)
    have T:Ym (∀a,(wr.drewN a).cell? ⟨g,h+k*5,none⟩=some (ι b.kind)∧(wr.drewN a).cell? ⟨g,h+k*5+1,none⟩=some (σ b.name)∧(wr.drewN a).cell? ⟨g,h+k*5+3,none⟩=some (ρ J b.thn K)∧(wr.drewN a).cell? ⟨g,h+k*5+4,none⟩=some (ρ L b.els I)
     ∧(wr.drewN a).cell? ⟨j,l+k*5,none⟩=some (ι c.kind)∧(wr.drewN a).cell? ⟨j,l+k*5+1,none⟩=some (σ c.name)∧(wr.drewN a).cell? ⟨j,l+k*5+3,none⟩=some (ρ N c.thn O)∧(wr.drewN a).cell? ⟨j,l+k*5+4,none⟩=some (ρ P c.els M)):=fun a=>⟨t,p,u,v,y,q,z,A⟩
    generalize Dd b.args c.args=bk at*;generalize Cb Da b.thn c.thn=bm at*;generalize Cb Da b.els c.els=bl at*;go_wp2_with fail;go_quiet ((go_at_call 15;exact Yb (ar.o _)));clear t p Z u v y q ad z A ar;obtain⟨Y,R⟩:∃f,wr.drewN nq=f:=⟨_,rfl⟩;have W:Ym (∃a,Y=wr.drewN a):=⟨nq,R.symm⟩;rw[R];obtain⟨t,p,u,v,y,q,z,A⟩:=T.o nq;rw[R]at t p u v y q z A;have av:=Za (C.o Y W.o);clear C R;go_wp2_with fail;go_quiet ((go_at_call 37;exact Yb (av.o _)));clear t p u v y q z A av;obtain⟨m,ah⟩:∃f,Y.drewN nq=f:=⟨_,rfl⟩;have H:Ym (∃a,m=wr.drewN a):=by obtain⟨a,o⟩:=W.o;exact⟨a+nq,by rw[←ah,o,Zs]⟩
    rw[ah];clear ah W;obtain⟨t,p,u,v,y,q,z,A⟩:m.cell? ⟨g,h+k*5,none⟩=some (ι b.kind)∧m.cell? ⟨g,h+k*5+1,none⟩=some (σ b.name)∧m.cell? ⟨g,h+k*5+3,none⟩=some (ρ J b.thn K)∧m.cell? ⟨g,h+k*5+4,none⟩=some (ρ L b.els I)
     ∧m.cell? ⟨j,l+k*5,none⟩=some (ι c.kind)∧m.cell? ⟨j,l+k*5+1,none⟩=some (σ c.name)∧m.cell? ⟨j,l+k*5+3,none⟩=some (ρ N c.thn O)∧m.cell? ⟨j,l+k*5+4,none⟩=some (ρ P c.els M):=by
     obtain⟨a,o⟩:=H.o;rw[o];exact T.o a
    have aw:=Za (au.o m H.o);clear au;go_wp2_with fail;go_quiet ((go_at_call 37;exact Yb (aw.o _)));clear t p u v y q z A aw;obtain⟨s,ai⟩:∃f,m.drewN nq=f:=⟨_,rfl⟩;have X:Ym (∃a,s=wr.drewN a):=by obtain⟨a,o⟩:=H.o;exact⟨a+nq,by rw[←ai,o,Zs]⟩
    rw[ai];clear ai H;obtain⟨t,p,u,v,y,q,z,A⟩:s.cell? ⟨g,h+k*5,none⟩=some (ι b.kind)∧s.cell? ⟨g,h+k*5+1,none⟩=some (σ b.name)∧s.cell? ⟨g,h+k*5+3,none⟩=some (ρ J b.thn K)∧s.cell? ⟨g,h+k*5+4,none⟩=some (ρ L b.els I)
     ∧s.cell? ⟨j,l+k*5,none⟩=some (ι c.kind)∧s.cell? ⟨j,l+k*5+1,none⟩=some (σ c.name)∧s.cell? ⟨j,l+k*5+3,none⟩=some (ρ N c.thn O)∧s.cell? ⟨j,l+k*5+4,none⟩=some (ρ P c.els M):=by
     obtain⟨a,o⟩:=X.o;rw[o];exact T.o a
    have C:=Za aq.o;rcases C.o with⟨e,E⟩|⟨e,E,Q⟩|⟨e,E,Q,rfl⟩|⟨e,E,Q,rfl,rfl⟩|⟨e,E,Q,rfl,rfl,rfl⟩|⟨e,E,Q,rfl,rfl,rfl⟩
    all_goals
     have ax:Ym (Da (Fk d k) (Fk r k)=Da b c):=by show _=_;rw[aO.o,aP.o]
     have ay:=Za e;clear aq C e;go_wp2_with fail;go_quiet (fail);go_wp2_with fail
    iterate 5
     ·go_ret
      obtain⟨ba,ak⟩:=V.o;obtain⟨a,o⟩:=X.o;exact⟨Ae (Ii Da St.nil d r k U.o.symm aN.o (ax.o.trans ay.o)).symm,_,by rw[o,ak,Zs,Zs]⟩
    ·go_roundw
     case rel=>exact⟨k+1,by omega,by go_num,fun i aj=>by rcases Zk.1 aj with aY|rfl;exact az.o i aY;exact ax.o.trans ay.o,by obtain⟨ba,ak⟩:=V.o;obtain⟨a,o⟩:=X.o;exact⟨_,by rw[o,ak,Zs,Zs]⟩⟩
     case measure=>simp [Yo];omega
   ·go_wp2
    go_ret
    exact⟨Ae (Jm Da St.nil d r U.o.symm (fun i aj=>az.o i (by omega))).symm,V.o⟩
 ·have bg:((d.length:Int) !=(r.length:Int))=true:=by rw[bne_iff_ne];omega
  have aE:Ym (Cb Da d r=false):=Nf _ _ _ (by omega);clear F B am al hl;go_enter func37,ntmps37;go_wp2;go_ret
  exact⟨Ae aE.out.symm,0,rfl⟩
theorem Wm:∀(n:Nat) (l:List St),SizeOf.sizeOf l≤n→Xk l
 |0,l,h=>by cases l<;>simp at h
 |n+1,l,h=>nX l
  (fun x hx=>Wm n x.thn (by
   have a:=Zw hx
   cases x with
   |mk k nm us t e=>show SizeOf.sizeOf t≤n;simp at a;omega))
  (fun x hx=>Wm n x.els (by
   have a:=Zw hx
   cases x with
   |mk k nm us t e=>show SizeOf.sizeOf e≤n;simp at a;omega))
theorem tC(l:List St):Xk l:=Wm _ l (Zc _)
def fC(l:List St):Prop:= ∀(a:Nat),a≤42→∀(D:Nat→Prop) (v:Value) (w:Yp),Au D w l v→
 Yq Zb 75 #[v,.int .i64 a] w fun e w'=>e=.returned (.int .i64 (Kx a l))∧∃n,w'=w.drewN n
abbrev tO(m:Nat)(x:St):Nat:=max (1+Kx m x.thn) (1+Kx m x.els)
theorem rY(l:List St)(P:∀x,x∈l→fC x.thn)(O:∀x,x∈l→fC x.els):fC l:=by
 intro b av D v w h;obtain⟨a,c,rfl⟩:=h.shape;have aD:=h.fits.lt;obtain⟨Q,m,i⟩:=Y3 h P O;clear h P O;have r:Ym (Kx 0 l=0):=by show _=_;rw[Kx]
 have s:Ym (0<b→Kx b l=l.foldl (fun n x=>max n (tO (b-1) x)) 0):=by
  intro aq;obtain⟨q,rfl⟩:∃q,b=q+1:=⟨b-1,by omega⟩;rw[Kx];rfl
 have aw:(b:Int)≤42:=by omega
 go_enter func75,ntmps75;go_wp2
 go_loopw [5,6] (fun ae C wr=> ∃k n:Nat,k≤l.length∧C= ι k∧ae= ι n∧n=(l.take k).foldl (fun n x=>max n (tO (b-1) x)) 0∧n≤43∧(b=0→k=0)∧∃j,wr=w.drewN j) (fun _ C _=>l.length-(Yo C).toNat)
 case atStart=>exact⟨0,0,Ze _,rfl,rfl,by simp,by omega,fun _=>rfl,0,rfl⟩
 case round=>
  obtain⟨k,n,ar,rfl,rfl,d,az,A,z⟩:=hrel;have p:=Za z;have E:Ym (Au D wr l (ρ a l c)):=by obtain⟨n,rfl⟩:=z;exact Ec Q.out n
  clear z
  by_cases hlt:k<l.length
  ·have au:(k:Int)<(l.length:Int):=by omega
   by_cases hm0:0<b
   ·have ax:(b:Int)>0:=by omega
    have ay:(0:Int)<(b:Int):=by omega
    obtain⟨am,aE,ao,ap,an,rfl,ab,ac,W,X,Y,Z,aa,ad,y,t⟩:=Au.cellAt E.o k hlt;obtain⟨af,ag,rfl⟩:=y.shape;obtain⟨u1,u2,rfl⟩:=t.shape;obtain⟨I,H,L,K⟩:=Y4 y t (m.out _ (Jy hlt) (b-1) (by omega)) (i.out _ (Jy hlt) (b-1) (by omega));have J:Ym (max n (tO (b-1) (Fk l k))=(l.take (k+1)).foldl (fun n x=>max n (tO (b-1) x)) 0):=by show _=_;rw[bX St.nil hlt,←d]
    have aA:=Qy (b-1) (Fk l k).thn;have aB:=Qy (b-1) (Fk l k).els;clear ad y t ab ac E m i d;have F:Ym (∀q,Yq Zb 75 #[.slice af (Fk l k).thn.length ag,ι ((b-1:Nat):Int)] (wr.drewN q) fun e w'=>e=.returned (ι (Kx (b-1) (Fk l k).thn))∧∃n,w'=(wr.drewN q).drewN n):=fun q=>L.out D _ _ (Ec I.o q)
    have G:Ym (∀q,Yq Zb 75 #[.slice u1 (Fk l k).els.length u2,ι ((b-1:Nat):Int)] (wr.drewN q) fun e w'=>e=.returned (ι (Kx (b-1) (Fk l k).els))∧∃n,w'=(wr.drewN q).drewN n):=fun q=>K.out D _ _ (Ec H.o q)
    clear L K I H;have T:IntKind.i64.wrap ((b:Int)-1)=((b-1:Nat):Int):=by rw[show((b-1:Nat):Int)=(b:Int)-1 by omega];exact Zj _ (by omega)
    unfold tO at J;generalize Fk l k=x at*;generalize Kx (b-1) x.thn=g at*;generalize Kx (b-1) x.els=f at*;generalize x.els.length=u at*;generalize x.thn.length=aF at*;have ai:(g:Int)≤42:=by omega
    have aj:(f:Int)≤42:=by omega
    have ak:(0:Int)≤(g:Int):=by omega
    have al:(0:Int)≤(f:Int):=by omega
    have U:IntKind.i64.wrap (1+(g:Int))=1+(g:Int):=Zj _ (by omega);have V:IntKind.i64.wrap (1+(f:Int))=1+(f:Int):=Zj _ (by omega);have ah:=Za hlt;clear A;go_wp2_with fail;go_quiet ((go_at_call 75;first|(with_reducible exact Yb (F.o _))|(with_reducible exact Yb (G.o _))));have R:Ym (∃n,wr.drewN nq=w.drewN n):=by obtain⟨n,d⟩:=p.o;exact⟨_,by rw[d,Zs]⟩
    clear W X Y Z aa F G T U V;go_wp2;go_roundw
    case rel=>exact⟨k+1,max n (max (1+g) (1+f)),by omega,by go_num,by first|go_num|(congr 1;omega),J.o,by omega,fun h=>absurd hm0 (by omega),R.o⟩
    case measure=>simp [Yo];omega
   ·obtain rfl:b=0:=by omega
    obtain rfl:=A rfl;have B:n=0:=by rw[d];simp
    subst B;clear d m i s;have aC:¬(((0:Nat):Int)>0):=by omega
    go_wp2;go_ret
    exact⟨by rw[r.o];rfl,p.o⟩
  ·have M:l.take k=l:=Yj (by omega)
   rw[M]at d;have N:Kx b l=n:=by
    by_cases hm0:0<b
    ·rw[s.o hm0,d]
    ·obtain rfl:b=0:=by omega
     obtain rfl:=A rfl;have B:n=0:=by
      have:l=[]:=List.length_eq_zero_iff.1 (by omega);rw[d,this];rfl
     rw[B,r.o]
   have S:=Za N;clear N d M r s m i;go_wp2;go_ret
   exact⟨by rw[S.o];rfl,p.o⟩
theorem dR:∀(n:Nat) (l:List St),SizeOf.sizeOf l≤n→fC l
 |0,l,h=>by cases l<;>simp at h
 |n+1,l,h=>rY l
  (fun x hx=>dR n x.thn (by
   have a:=Zw hx
   cases x with
   |mk k nm us t e=>show SizeOf.sizeOf t≤n;simp at a;omega))
  (fun x hx=>dR n x.els (by
   have a:=Zw hx
   cases x with
   |mk k nm us t e=>show SizeOf.sizeOf e≤n;simp at a;omega))
theorem far_any(l:List St):fC l:=dR _ l (Zc _)
abbrev stC(x:St)(a t e:Value):List Value:=[.int .i64 x.kind,.string (Aa x.name),a,t,e]
def sX(l:List St):Prop:= ∀(D:Nat→Prop) (v:Value) (w:Yp),Au D w l v→
 Yq Zb 76 #[v] w fun e w'=>e=.returned (.bool (Fl l))∧Yn w.heap.size w w'
theorem Ow {x:St}(a:x.args.all Cf=false∨Fl x.thn=false∨Fl x.els=false∨Ou x=false):Ly x=false:=by
 rw[Vz];rcases a with a|a|a|a<;>simp [a]
theorem cR {l:List St}{k:Nat}(b:k<l.length)(a:Ly (Fk l k)=false):Fl l=false:=by
 rw[Pp]
 cases q:l.all Ly
 ·rfl
 ·have:=Zi.1 q _ (Jy b)
  rw[a]at this;cases this
theorem oF {l:List Ex}{k:Nat}(b:k<l.length)(a:Cf (Bx l k)=false):l.all Cf=false:=by
 cases q:l.all Cf
 ·rfl
 ·have:=Zi.1 q _ (Cs b)
  rw[a]at this;cases this
theorem rW(l:List Ex):l.headD (.mk 0 0 0 [] [])=Bx l 0:=by cases l<;>rfl
def Dh(kd:Int)(e b c:Bool)(u a:Nat)(d:Bool):Bool:=
 if kd=1∨kd=2 then e && c else if kd=3 then b else if kd=4 then b && (u==0)else if kd=5∨kd=6 then b && c
 else if kd=7∨kd=8∨kd=9 then b && c else if kd=10 then b && c && (a==1) && d else false
def Di(kd:Int):Nat:=if kd=2 then 2 else if kd=5∨kd=6 then 0 else 1
theorem nQ(x:St):Ou x=(Dh x.kind (Ak x.name) (x.name==[]) (x.thn.length==0 && x.els.length==0) x.els.length x.args.length ((Bx x.args 0).kind==5) && (x.args.length==Di x.kind)):=by
 unfold Ou Dh Di;rw[rW]
theorem sj_step(l:List St)(aS:∀x,x∈l→sX x.thn)(aR:∀x,x∈l→sX x.els):sX l:=by
 intro D v w s;obtain⟨a,c,rfl⟩:=s.shape;have bS:=s.fits.lt;obtain⟨aW,bc,bb⟩:=Y3 s aS aR;clear s aS aR;go_enter func76,ntmps76;go_wp2
 go_loopw [3] (fun ay wr=> ∃k:Nat,k≤l.length∧ay= ι k∧Ym (∀i,i<k→Ly (Fk l i)=true)∧Ym (Yn w.heap.size w wr)) (fun ay _=>l.length-(Yo ay).toNat)
 case atStart=>exact⟨0,Ze _,rfl,fun i r=>absurd r (by omega),Zh _ _⟩
 case round=>
  obtain⟨k,bM,rfl,Y,V⟩:=hrel;have ae:=Za (aW.out.old V.out)
  by_cases hlt:k<l.length
  ·have bN:(k:Int)<(l.length:Int):=by omega
   have aZ:=Za hlt;obtain⟨bg,M,an,bL,bK,rfl,aq,bq,u,I,J,K,P,E,S,R⟩:=Au.cellAt ae.out k hlt;obtain⟨aa,ax,rfl⟩:=E.shape;obtain⟨aA,aB,rfl⟩:=S.shape;obtain⟨u1,u2,rfl⟩:=R.shape;have bd:=E.fits.lt;have bw:=S.fits.lt;have u63:=R.fits.lt;obtain⟨am,al⟩:=Y2 (bc.out _ (Jy hlt) D) (bb.out _ (Jy hlt) D);have aK:Ym (∃x,Fk l k=x):=⟨_,rfl⟩;obtain⟨x,hx⟩:=aK.o;have ak:=Za hx;rw[hx]at u I J K P E S R bd bw u63 am al;clear hx aK;have g:Ym (Ly x=false→Fl l=false):=fun s=>cR aZ.o (by rw[ak.o];exact s)
   have h:Ym (Ly x=true→∀i,i<k+1→Ly (Fk l i)=true):=fun s i r=>by
    rcases Zk.1 r with G|G
    ·exact Y.o i G
    ·subst G;rw[ak.o];exact s
   clear Y ak;have Q:Yn wr.heap.size wr (wr.alloc (.cells #[ι x.kind,σ x.name,.slice aa x.args.length ax,.slice aA x.thn.length aB,.slice u1 x.els.length u2] 50)):=bA;obtain⟨aF,W,ag,aH,aG⟩:=Y5 (V.out.trans (Q.mono V.out.size)) (Zd wr (stC x (.slice aa x.args.length ax) (.slice aA x.thn.length aB) (.slice u1 x.els.length u2)) 50) (E.old Q) (S.old Q) (R.old Q);clear Q E S R aq bq ae;go_upto_region 5 with(fail);clear u I J K P;generalize wr.alloc (.cells #[ι x.kind,σ x.name,.slice aa x.args.length ax,.slice aA x.thn.length aB,.slice u1 x.els.length u2] 50)=aN at*;generalize wr.heap.size=bU at*;go_wp2
   go_loopw [5] (fun az aU=> ∃q:Nat,q≤x.args.length∧az= ι q∧Ym (∀i,i<q→Cf (Bx x.args i)=true)∧Ym (Yn w.heap.size w aU)∧Ym (Yn aN.heap.size aN aU)) (fun az _=>x.args.length-(Yo az).toNat)
   case atStart=>exact⟨0,Ze _,rfl,fun i r=>absurd r (by omega),aF,Zh _ _⟩
   case round=>
    obtain⟨q,bO,rfl,aj,F,C⟩:=hrel;obtain⟨ad,aE⟩:=Y2 (W.out.old C.out) (ag.out.old C.out);have q2:=ad.out.at 2 _ rfl
    by_cases hqt:q<x.args.length
    ·have bP:(q:Int)<(x.args.length:Int):=by omega
     have ba:=Za hqt;obtain⟨bg,M,an,rfl,aq,u,I,J,K,P,E,bs⟩:=aE.out.cellAt q hqt;have p:=Za (Pc _ D an wr E);obtain⟨y,T⟩:∃y,Bx x.args q=y:=⟨_,rfl⟩;have aM:=Za T;rw[T]at u I J K p;clear T E bs aq
     cases hr:Cf y
     ·rw[hr]at p
      have O:Ym (Fl l=false):=g.o (Ow (.inl (oF ba.o (by rw[aM.o];exact hr))));clear hr h;go_wp2_with fail;refine p.o.mono ?_;rintro Z w2 ⟨rfl,t⟩;have af:=Za (F.out.trans (t.mono F.out.size));clear t q2 u I J K P p;go_wp2;go_ret
      exact⟨Ae O.o.symm,af.out⟩
     ·rw[hr]at p
      have aY:Ym (∀i,i<q+1→Cf (Bx x.args i)=true):=fun i r=>by
       rcases Zk.1 r with G|G
       ·exact aj.o i G
       ·subst G;rw[aM.o];exact hr
      clear hr;go_wp2_with fail;refine p.o.mono ?_;rintro Z w2 ⟨rfl,t⟩;obtain⟨af,aV⟩:=Y2 (F.out.trans (t.mono F.out.size)) (C.out.trans (t.mono C.out.size));clear t q2 u I J K P p;go_wp2;go_roundw
      case rel=>exact⟨q+1,by omega,by go_num,aY,af,aV⟩
      case measure=>simp [Yo];omega
    ·have aI:Ym (x.args.all Cf=true):=Zi.2 (fun y T=>by
      obtain⟨i,r,rfl⟩:=Zt T;have:=aj.o i (by omega)
      rwa[Ro r]at this)
     clear aj;have q3:=ad.out.at 3 _ rfl;have p:=Za (am.out _ wr (aH.out.old C.out));clear am;obtain⟨bf,av⟩:∃b,Fl x.thn=b:=⟨_,rfl⟩;have ai:=Za av;rw[av]at p;clear av;go_wp2_with fail;refine p.o.mono ?_;rintro Z w2 ⟨rfl,t⟩;obtain⟨ac,N⟩:=Y2 (F.out.trans (t.mono F.out.size)) (C.out.trans (t.mono C.out.size));clear t q2 q3 p F ad aE C;have aD:=Za (W.out.old N.out);have q4:=aD.out.at 4 _ rfl;have p:=Za (al.out _ w2 (aG.out.old N.out));clear al;obtain⟨be,au⟩:∃b,Fl x.els=b:=⟨_,rfl⟩;have ah:=Za au;rw[au]at p;clear au;go_wp2_with fail;refine p.o.mono ?_;rintro Z aT ⟨rfl,ar⟩;obtain⟨d,ab⟩:=Y2 (ac.out.trans (ar.mono ac.out.size)) (N.out.trans (ar.mono N.out.size));clear ar q4 p ac N aD;obtain⟨H,aC⟩:=Y2 (W.out.old ab.out) (ag.out.old ab.out);clear W ag aH aG aF
     cases bf
     ·have O:Ym (Fl l=false):=g.o (Ow (.inr (.inl ai.o)))
      clear h;go_wp2;go_ret
      exact⟨Ae O.o.symm,d.out⟩
     cases be
     ·have O:Ym (Fl l=false):=g.o (Ow (.inr (.inr (.inl ah.o))))
      clear h;go_wp2;go_ret
      exact⟨Ae O.o.symm,d.out⟩
     have aL:Ym (Ly x=Ou x):=by show _=_;rw[Vz,aI.o,ai.o,ah.o];simp
     clear aI ai ah;have q1:=H.out.at 1 _ rfl;have q3:=H.out.at 3 _ rfl;have q4:=H.out.at 4 _ rfl;obtain⟨aJ,X⟩:=Y2 (Ie x.name aT) (nQ x);have j:Ym (0<x.args.length→∃b M,aa=some ⟨b,M,none⟩∧aT.cell? ⟨b,M,none⟩=some (ι (Bx x.args 0).kind)):=fun s=>by
      obtain⟨b,M,an,aO,_,u,_⟩:=aC.out.cellAt 0 s;exact⟨b,M,aO,by simpa using u⟩
     clear aC ab;go_wp2_with fail;refine aJ.o.mono ?_;rintro Z bx ⟨rfl,bu⟩;subst bu;clear aJ q1;go_upto_region 17 with(fail);go_cut [11] (fun bv bz=>bv=.bool (x.thn.length==0 && x.els.length==0)∧bx=bz)
     case first=>
      by_cases ht:x.thn.length=0<;>by_cases hu:x.els.length=0
      all_goals
       have bQ:(x.thn.length:Int)=(x.thn.length:Int):=rfl
       first
       |(have ao:((x.thn.length:Int)==0)=true:=by rw[beq_iff_eq];omega)
       |(have ao:((x.thn.length:Int)==0)=false:=by rw[beq_eq_false_iff_ne];omega)
       first
       |(have ap:((x.els.length:Int)==0)=true:=by rw[beq_iff_eq];omega)
       |(have ap:((x.els.length:Int)==0)=false:=by rw[beq_eq_false_iff_ne];omega)
       go_wp2;go_meet;exact⟨by simp [ht,hu],rfl⟩
     case rest=>
     obtain⟨rfl,rfl⟩:=hcut;clear q3;obtain ⟨q0, q1, q2⟩ := τ3 H.out;have q4:=H.out.at 4 _ rfl;clear H;generalize (x.thn.length==0 && x.els.length==0)=m at*;generalize Ak x.name=U at*;obtain⟨n,bt⟩:∃b,(x.name==[])=b:=⟨_,rfl⟩;rw[bt]at X;obtain⟨aQ,br⟩:∃b,((Bx x.args 0).kind==5)=b:=⟨_,rfl⟩;rw[br]at X;have e:Ym (Ly x=(Dh x.kind U n m x.els.length x.args.length aQ && (x.args.length==Di x.kind))):=aL.o.trans X.o;clear X aL;generalize (Bx x.args 0).kind=bR at*;generalize x.name=nm at*;generalize x.args.length=f at*;generalize x.els.length=L at*;generalize x.thn.length=bT at*;generalize x.kind=kd at*;generalize Ly x=bV at*;have bp:(kd=1∨kd=2∨kd=3∨kd=4∨kd=5∨kd=6∨kd=7∨kd=8∨kd=9∨kd=10)∨(kd≠1∧kd≠2∧kd≠3∧kd≠4∧kd≠5∧kd≠6∧kd≠7∧kd≠8∧kd≠9∧kd≠10):=by omega
     rcases bp with(rfl|rfl|rfl|rfl|rfl|rfl|rfl|rfl|rfl|rfl)|⟨ao,ap,bi,bj,bk,bl,bm,bn,bo,bh⟩
     ·by_cases ha:f=1
      ·subst ha
       clear j
       cases U<;>cases m
       all_goals
        go_wp2_with fail
        first
        |(go_ret;exact⟨Ae (g.o (by rw[e.o];simp [Dh,Di, *])).symm,d.out⟩)
        |(go_roundw
          case rel=>exact⟨k+1,by omega,by go_num,h.o (by rw[e.o];simp [Dh,Di, *]),d⟩
          case measure=>simp [Yo];omega)
      ·have z:((f:Int) !=1)=true:=by rw[bne_iff_ne];omega
       have A:((f:Int)==1)=false:=by rw[beq_eq_false_iff_ne];omega
       have B:(f==1)=false:=by rw[beq_eq_false_iff_ne];exact ha
       clear j
       cases U<;>cases m
       all_goals
        go_wp2_with fail
        first
        |(go_ret;exact⟨Ae (g.o (by rw[e.o];simp [Dh,Di, *])).symm,d.out⟩)
        |(go_roundw
          case rel=>exact⟨k+1,by omega,by go_num,h.o (by rw[e.o];simp [Dh,Di, *]),d⟩
          case measure=>simp [Yo];omega)
     ·by_cases ha:f=2
      ·subst ha
       clear j
       cases U<;>cases m
       all_goals
        go_wp2_with fail
        first
        |(go_ret;exact⟨Ae (g.o (by rw[e.o];simp [Dh,Di, *])).symm,d.out⟩)
        |(go_roundw
          case rel=>exact⟨k+1,by omega,by go_num,h.o (by rw[e.o];simp [Dh,Di, *]),d⟩
          case measure=>simp [Yo];omega)
      ·have z:((f:Int) !=2)=true:=by rw[bne_iff_ne];omega
       have A:((f:Int)==2)=false:=by rw[beq_eq_false_iff_ne];omega
       have B:(f==2)=false:=by rw[beq_eq_false_iff_ne];exact ha
       clear j
       cases U<;>cases m
       all_goals
        go_wp2_with fail
        first
        |(go_ret;exact⟨Ae (g.o (by rw[e.o];simp [Dh,Di, *])).symm,d.out⟩)
        |(go_roundw
          case rel=>exact⟨k+1,by omega,by go_num,h.o (by rw[e.o];simp [Dh,Di, *]),d⟩
          case measure=>simp [Yo];omega)
     ·by_cases ha:f=1
      ·subst ha
       clear j
       cases n
       all_goals
        go_wp2_with fail
        first
        |(go_ret;exact⟨Ae (g.o (by rw[e.o];simp [Dh,Di, *])).symm,d.out⟩)
        |(go_roundw
          case rel=>exact⟨k+1,by omega,by go_num,h.o (by rw[e.o];simp [Dh,Di, *]),d⟩
          case measure=>simp [Yo];omega)
      ·have z:((f:Int) !=1)=true:=by rw[bne_iff_ne];omega
       have A:((f:Int)==1)=false:=by rw[beq_eq_false_iff_ne];omega
       have B:(f==1)=false:=by rw[beq_eq_false_iff_ne];exact ha
       clear j
       cases n
       all_goals
        go_wp2_with fail
        first
        |(go_ret;exact⟨Ae (g.o (by rw[e.o];simp [Dh,Di, *])).symm,d.out⟩)
        |(go_roundw
          case rel=>exact⟨k+1,by omega,by go_num,h.o (by rw[e.o];simp [Dh,Di, *]),d⟩
          case measure=>simp [Yo];omega)
     ·by_cases ha:f=1
      ·subst ha
       clear j
       cases n<;>by_cases hu:L=0
       all_goals
        first
        |(have aw:((L:Int)==0)=true:=by rw[beq_iff_eq];omega)
        |(have aw:((L:Int)==0)=false:=by rw[beq_eq_false_iff_ne];omega)
        go_wp2_with fail
        first
        |(go_ret;exact⟨Ae (g.o (by rw[e.o];simp [Dh,Di, *])).symm,d.out⟩)
        |(go_roundw
          case rel=>exact⟨k+1,by omega,by go_num,h.o (by rw[e.o];simp [Dh,Di, *]),d⟩
          case measure=>simp [Yo];omega)
      ·have z:((f:Int) !=1)=true:=by rw[bne_iff_ne];omega
       have A:((f:Int)==1)=false:=by rw[beq_eq_false_iff_ne];omega
       have B:(f==1)=false:=by rw[beq_eq_false_iff_ne];exact ha
       clear j
       cases n<;>by_cases hu:L=0
       all_goals
        first
        |(have aw:((L:Int)==0)=true:=by rw[beq_iff_eq];omega)
        |(have aw:((L:Int)==0)=false:=by rw[beq_eq_false_iff_ne];omega)
        go_wp2_with fail
        first
        |(go_ret;exact⟨Ae (g.o (by rw[e.o];simp [Dh,Di, *])).symm,d.out⟩)
        |(go_roundw
          case rel=>exact⟨k+1,by omega,by go_num,h.o (by rw[e.o];simp [Dh,Di, *]),d⟩
          case measure=>simp [Yo];omega)
     ·by_cases ha:f=0
      ·subst ha
       clear j
       cases n<;>cases m
       all_goals
        go_wp2_with fail
        first
        |(go_ret;exact⟨Ae (g.o (by rw[e.o];simp [Dh,Di, *])).symm,d.out⟩)
        |(go_roundw
          case rel=>exact⟨k+1,by omega,by go_num,h.o (by rw[e.o];simp [Dh,Di, *]),d⟩
          case measure=>simp [Yo];omega)
      ·have z:((f:Int) !=0)=true:=by rw[bne_iff_ne];omega
       have A:((f:Int)==0)=false:=by rw[beq_eq_false_iff_ne];omega
       have B:(f==0)=false:=by rw[beq_eq_false_iff_ne];exact ha
       clear j
       cases n<;>cases m
       all_goals
        go_wp2_with fail
        first
        |(go_ret;exact⟨Ae (g.o (by rw[e.o];simp [Dh,Di, *])).symm,d.out⟩)
        |(go_roundw
          case rel=>exact⟨k+1,by omega,by go_num,h.o (by rw[e.o];simp [Dh,Di, *]),d⟩
          case measure=>simp [Yo];omega)
     ·by_cases ha:f=0
      ·subst ha
       clear j
       cases n<;>cases m
       all_goals
        go_wp2_with fail
        first
        |(go_ret;exact⟨Ae (g.o (by rw[e.o];simp [Dh,Di, *])).symm,d.out⟩)
        |(go_roundw
          case rel=>exact⟨k+1,by omega,by go_num,h.o (by rw[e.o];simp [Dh,Di, *]),d⟩
          case measure=>simp [Yo];omega)
      ·have z:((f:Int) !=0)=true:=by rw[bne_iff_ne];omega
       have A:((f:Int)==0)=false:=by rw[beq_eq_false_iff_ne];omega
       have B:(f==0)=false:=by rw[beq_eq_false_iff_ne];exact ha
       clear j
       cases n<;>cases m
       all_goals
        go_wp2_with fail
        first
        |(go_ret;exact⟨Ae (g.o (by rw[e.o];simp [Dh,Di, *])).symm,d.out⟩)
        |(go_roundw
          case rel=>exact⟨k+1,by omega,by go_num,h.o (by rw[e.o];simp [Dh,Di, *]),d⟩
          case measure=>simp [Yo];omega)
     ·by_cases ha:f=1
      ·subst ha
       clear j
       cases n<;>cases m
       all_goals
        go_wp2_with fail
        first
        |(go_ret;exact⟨Ae (g.o (by rw[e.o];simp [Dh,Di, *])).symm,d.out⟩)
        |(go_roundw
          case rel=>exact⟨k+1,by omega,by go_num,h.o (by rw[e.o];simp [Dh,Di, *]),d⟩
          case measure=>simp [Yo];omega)
      ·have z:((f:Int) !=1)=true:=by rw[bne_iff_ne];omega
       have A:((f:Int)==1)=false:=by rw[beq_eq_false_iff_ne];omega
       have B:(f==1)=false:=by rw[beq_eq_false_iff_ne];exact ha
       clear j
       cases n<;>cases m
       all_goals
        go_wp2_with fail
        first
        |(go_ret;exact⟨Ae (g.o (by rw[e.o];simp [Dh,Di, *])).symm,d.out⟩)
        |(go_roundw
          case rel=>exact⟨k+1,by omega,by go_num,h.o (by rw[e.o];simp [Dh,Di, *]),d⟩
          case measure=>simp [Yo];omega)
     ·by_cases ha:f=1
      ·subst ha
       clear j
       cases n<;>cases m
       all_goals
        go_wp2_with fail
        first
        |(go_ret;exact⟨Ae (g.o (by rw[e.o];simp [Dh,Di, *])).symm,d.out⟩)
        |(go_roundw
          case rel=>exact⟨k+1,by omega,by go_num,h.o (by rw[e.o];simp [Dh,Di, *]),d⟩
          case measure=>simp [Yo];omega)
      ·have z:((f:Int) !=1)=true:=by rw[bne_iff_ne];omega
       have A:((f:Int)==1)=false:=by rw[beq_eq_false_iff_ne];omega
       have B:(f==1)=false:=by rw[beq_eq_false_iff_ne];exact ha
       clear j
       cases n<;>cases m
       all_goals
        go_wp2_with fail
        first
        |(go_ret;exact⟨Ae (g.o (by rw[e.o];simp [Dh,Di, *])).symm,d.out⟩)
        |(go_roundw
          case rel=>exact⟨k+1,by omega,by go_num,h.o (by rw[e.o];simp [Dh,Di, *]),d⟩
          case measure=>simp [Yo];omega)
     ·by_cases ha:f=1
      ·subst ha
       clear j
       cases n<;>cases m
       all_goals
        go_wp2_with fail
        first
        |(go_ret;exact⟨Ae (g.o (by rw[e.o];simp [Dh,Di, *])).symm,d.out⟩)
        |(go_roundw
          case rel=>exact⟨k+1,by omega,by go_num,h.o (by rw[e.o];simp [Dh,Di, *]),d⟩
          case measure=>simp [Yo];omega)
      ·have z:((f:Int) !=1)=true:=by rw[bne_iff_ne];omega
       have A:((f:Int)==1)=false:=by rw[beq_eq_false_iff_ne];omega
       have B:(f==1)=false:=by rw[beq_eq_false_iff_ne];exact ha
       clear j
       cases n<;>cases m
       all_goals
        go_wp2_with fail
        first
        |(go_ret;exact⟨Ae (g.o (by rw[e.o];simp [Dh,Di, *])).symm,d.out⟩)
        |(go_roundw
          case rel=>exact⟨k+1,by omega,by go_num,h.o (by rw[e.o];simp [Dh,Di, *]),d⟩
          case measure=>simp [Yo];omega)
     ·by_cases ha:f=1
      ·subst ha
       obtain⟨bW,bX,rfl,u⟩:=j.o (by decide);clear j
       cases n<;>cases m<;>cases aQ
       all_goals
        go_wp2_with fail
        first
        |(go_ret;exact⟨Ae (g.o (by rw[e.o];simp [Dh,Di, *])).symm,d.out⟩)
        |(go_roundw
          case rel=>exact⟨k+1,by omega,by go_num,h.o (by rw[e.o];simp [Dh,Di, *]),d⟩
          case measure=>simp [Yo];omega)
      ·have z:((f:Int) !=1)=true:=by rw[bne_iff_ne];omega
       have A:((f:Int)==1)=false:=by rw[beq_eq_false_iff_ne];omega
       have B:(f==1)=false:=by rw[beq_eq_false_iff_ne];exact ha
       clear j
       cases n<;>cases m
       all_goals
        go_wp2_with fail
        first
        |(go_ret;exact⟨Ae (g.o (by rw[e.o];simp [Dh,Di, *])).symm,d.out⟩)
        |(go_roundw
          case rel=>exact⟨k+1,by omega,by go_num,h.o (by rw[e.o];simp [Dh,Di, *]),d⟩
          case measure=>simp [Yo];omega)
     ·have aO:(kd==1)=false:=by rw[beq_eq_false_iff_ne];exact ao
      have bC:(kd==2)=false:=by rw[beq_eq_false_iff_ne];exact ap
      have bD:(kd==3)=false:=by rw[beq_eq_false_iff_ne];exact bi
      have bE:(kd==4)=false:=by rw[beq_eq_false_iff_ne];exact bj
      have bF:(kd==5)=false:=by rw[beq_eq_false_iff_ne];exact bk
      have bG:(kd==6)=false:=by rw[beq_eq_false_iff_ne];exact bl
      have bH:(kd==7)=false:=by rw[beq_eq_false_iff_ne];exact bm
      have bI:(kd==8)=false:=by rw[beq_eq_false_iff_ne];exact bn
      have bJ:(kd==9)=false:=by rw[beq_eq_false_iff_ne];exact bo
      have bB:(kd==10)=false:=by rw[beq_eq_false_iff_ne];exact bh
      go_wp2;go_ret
      exact⟨Ae (g.o (by rw[e.o];simp [Dh, *])).symm,d.out⟩
  ·have aP:Fl l=true:=by
    rw[Pp,Zi];intro x hx;obtain⟨i,r,rfl⟩:=Zt hx;have:=Y.o i (by omega)
    rwa[iE r]at this
   have aX:=Za aP;clear aP Y ae;go_wp2;go_ret
   exact⟨Ae aX.o.symm,V.out⟩
theorem jU:∀(n:Nat) (l:List St),SizeOf.sizeOf l≤n→sX l
 |0,l,h=>by cases l<;>simp at h
 |n+1,l,h=>sj_step l
  (fun x hx=>jU n x.thn (by
   have a:=Zw hx
   cases x with
   |mk k nm us t e=>show SizeOf.sizeOf t≤n;simp at a;omega))
  (fun x hx=>jU n x.els (by
   have a:=Zw hx
   cases x with
   |mk k nm us t e=>show SizeOf.sizeOf e≤n;simp at a;omega))
theorem sj_any(l:List St):sX l:=jU _ l (Zc _)
theorem Wg {B:Nat}{a w:Yp}(b:Yn B a w)(n:Nat):Yn B a (w.drewN n):=⟨b.os,b.tape,b.output,b.size,b.block⟩
theorem sP {α:Type}(f:α→Bool)(d:α){l:List α}(k:Nat)(b:k<l.length)(a:f (l.getD k d)=false):l.all f=false:=by
 cases q:l.all f
 ·rfl
 ·have:=Zi.1 q (l[k]) (Zx b)
  rw[show l.getD k d=l[k]by simp [Zg b]]at a;rw[a]at this;cases this
theorem xP {α:Type}(f:α→Bool)(d:α){l:List α}(b:∀i,i<l.length→f (l.getD i d)=true):l.all f=true:=by
 rw[Zi];intro x hx;obtain⟨i,a,rfl⟩:=Zt hx;have:=b i a
 rwa[show l.getD i d=l[i]by simp [Zg a]]at this
theorem rS(p:Pr)(D:Nat→Prop)(az aA:Value)(w:Yp)(L:Cd D w p.arrays az)(M:Bw D w p.funcs aA):
  Yq Zb 31 #[.agg #[az,aA]] w fun e w'=>e=.returned (.bool (Eh p))∧Yn w.heap.size w w':=by
 obtain⟨J,K,rfl⟩:=L.shape;obtain⟨y,z,rfl⟩:=M.shape;have bk:=L.fits.lt;have bl:=M.fits.lt;have S:Ym (Eh p=(p.arrays.all Cz && p.funcs.all Dr)):=rfl;have f:Yn w.heap.size w (w.alloc (.cells #[ρ J p.arrays K,ρ y p.funcs z] 30)):=bA;obtain⟨u,X,al,am⟩:=Y4 f (Zd w [ρ J p.arrays K,ρ y p.funcs z] 30) (L.old f) (Bw.old f M);clear f L M;go_enter func31,ntmps31;go_upto_region 1 with(fail);generalize w.alloc (.cells #[ρ J p.arrays K,ρ y p.funcs z] 30)=aJ at*;have bg:Ym (∃bb,w.heap.size=bb):=⟨_,rfl⟩;go_wp2
 go_loopw [3] (fun ae wr=> ∃k:Nat,k≤p.arrays.length∧ae= ι k∧Ym (∀i,i<k→Cz (Em p.arrays i)=true)∧wr=aJ) (fun ae _=>p.arrays.length-(Yo ae).toNat)
 case atStart=>exact⟨0,Ze _,rfl,fun i h=>absurd h (by omega),rfl⟩
 case round=>
  obtain⟨k,aU,rfl,g,aZ⟩:=hrel;subst aZ;have q0:=X.out.at 0 _ rfl
  by_cases hlt:k<p.arrays.length
  ·have aV:(k:Int)<(p.arrays.length:Int):=by omega
   obtain⟨b,ba,rfl,aa,aS,aw,ax⟩:=al.out.cellAt k hlt;have r:Ym (Cz (Em p.arrays k)=true→∀i,i<k+1→Cz (Em p.arrays i)=true):=fun d i h=>by
    rcases Zk.1 h with m|m
    ·exact g.o i m
    ·subst m;exact d
   have c:Ym (Cz (Em p.arrays k)=false→Eh p=false):=fun d=>by rw[S.out,sP Cz Ar.nil k hlt d];rfl
   have a:Ym (Cz (Em p.arrays k)=(Ak (Em p.arrays k).name && decide (1≤(Em p.arrays k).size∧(Em p.arrays k).size≤1048576))):=rfl;clear aa aS g;generalize Em p.arrays k=x at*;generalize Cz x=ay at*;generalize x.size=R at*;have q:=Za (Ie x.name wr)
   cases hn:Ak x.name
   ·rw[hn]at q a
    clear hn r;go_wp2_with fail;refine q.o.mono ?_;rintro e w2 ⟨rfl,j⟩;subst j;go_wp2;go_ret
    exact⟨Ae (c.o (by rw[a.o];rfl)).symm,u.out⟩
   ·rw[hn]at q a
    clear hn
    by_cases B:R<1
    ·clear r
     go_wp2_with fail;refine q.o.mono ?_;rintro e w2 ⟨rfl,j⟩;subst j;go_wp2;go_ret
     exact⟨Ae (c.o (by rw[a.o];simp;omega)).symm,u.out⟩
    ·by_cases s:R>1048576
     ·have aP:(1048576:Int)<R:=s
      clear r;go_wp2_with fail;refine q.o.mono ?_;rintro e w2 ⟨rfl,j⟩;subst j;go_wp2;go_ret
      exact⟨Ae (c.o (by rw[a.o];simp;omega)).symm,u.out⟩
     ·have aP:¬(1048576:Int)<R:=s
      clear c;go_wp2_with fail;refine q.o.mono ?_;rintro e w2 ⟨rfl,j⟩;subst j;go_wp2;go_roundw
      case rel=>exact⟨k+1,by omega,by go_num,r.o (by rw[a.o];simp;omega),by first|trivial|rfl⟩
      case measure=>simp [Yo];omega
  ·have aH:Ym (p.arrays.all Cz=true):=xP Cz Ar.nil (fun i h=>g.o i (by omega))
   have aF:Ym (∀w',Yn wr.heap.size wr w'→Ad w' w.heap.size [ρ J p.arrays K,ρ y p.funcs z] 30):=fun w' d=>X.out.old d
   have aD:Ym (∀w',Yn wr.heap.size wr w'→Bw D w' p.funcs (ρ y p.funcs z)):=fun w' d=>Bw.old d am.out
   clear g al am X;go_wp2
   go_loopw [5] (fun af aC=> ∃k:Nat,k≤p.funcs.length∧af= ι k∧Ym (∀i,i<k→Dr (Bc p.funcs i)=true)∧Ym (Yn w.heap.size w aC)∧Ym (Yn wr.heap.size wr aC)) (fun af _=>p.funcs.length-(Yo af).toNat)
   case atStart=>exact⟨0,Ze _,rfl,fun i h=>absurd h (by omega),u,Zh _ _⟩
   case round=>
    obtain⟨k,aU,rfl,g,F,v⟩:=hrel;obtain⟨ak,aj⟩:=Y2 (aF.out _ v.out) (aD.out _ v.out);clear u;have q1:=ak.out.at 1 _ rfl
    by_cases hlt:k<p.funcs.length
    ·have aV:(k:Int)<(p.funcs.length:Int):=by omega
     obtain⟨bh,ba,pv,lv,bn,rfl,aa,aT,aw,ax,aN,aO,B,s,Z⟩:=aj.out.cellAt k hlt;obtain⟨ac,ad,rfl⟩:=B.shape;obtain⟨ab,l2,rfl⟩:=s.shape;obtain⟨P,Q,rfl⟩:=Z.shape;have bm:=B.fits.lt;have r:Ym (Dr (Bc p.funcs k)=true→∀i,i<k+1→Dr (Bc p.funcs i)=true):=fun d i h=>by
      rcases Zk.1 h with m|m
      ·exact g.o i m
      ·subst m;exact d
     have c:Ym (Dr (Bc p.funcs k)=false→Eh p=false):=fun d=>by rw[S.out,sP Dr Fu.nil k hlt d];simp
     have a:Ym (Dr (Bc p.funcs k)=(Ak (Bc p.funcs k).name && (Bc p.funcs k).params.all Ak && (Bc p.funcs k).locals.all Ak && decide ((Bc p.funcs k).params.length≤6) && (decide ((Kx 42 (Bc p.funcs k).body:Int)≤40) && Fl (Bc p.funcs k).body))):=by show _=_;rw[qI];rfl
     have f:Yn wr.heap.size wr (wr.alloc (.cells #[.string (Aa (Bc p.funcs k).name),.slice ac (Bc p.funcs k).params.length ad,.slice ab (Bc p.funcs k).locals.length l2,.slice P (Bc p.funcs k).body.length Q] 48)):=bA;obtain⟨U,l,V,ah,ai,T⟩:=Y6 (Zd wr [.string (Aa (Bc p.funcs k).name),.slice ac (Bc p.funcs k).params.length ad,.slice ab (Bc p.funcs k).locals.length l2,.slice P (Bc p.funcs k).body.length Q] 48) (F.out.trans (f.mono F.out.size)) (v.out.trans (f.mono v.out.size)) (B.old f) (s.old f) (Z.old f);clear f B s Z aa aT g F v ak aj;have bj:=Qy 42 (Bc p.funcs k).body;generalize Bc p.funcs k=x at*;go_upto_region 11 with(fail);clear q1 aw ax aN aO;generalize wr.alloc (.cells #[σ x.name,ρ ac x.params ad,ρ ab x.locals l2,ρ P x.body Q] 48)=I at*;generalize wr.heap.size=bi at*;obtain ⟨bc, bd, be, O⟩ := τ4 U.out;obtain⟨ap,aq,ar,Y,au⟩:=Y5 (Ie x.name I) (Sf x.params I ah.out) (Sf x.locals I ai.out) (far_any x.body 42 (by omega) D _ I T.out) (fun w' aW=>sj_any x.body D (ρ P x.body Q) w' (T.out.old (w':=w') aW));clear ah ai T;generalize Dr x=ay at*;generalize Ak x.name=aK at*;generalize x.params.all Ak=aL at*
     generalize x.locals.all Ak=aM at*;generalize x.params.length=E at*;generalize Kx 42 x.body=A at*;generalize Fl x.body=av at*;go_wp2_with fail;refine ap.out.mono ?_;rintro e w2 ⟨rfl,j⟩;subst j;go_wp2_with fail;refine aq.out.mono ?_;rintro e bo ⟨rfl,aX⟩;subst aX;go_wp2_with fail;refine ar.out.mono ?_;rintro e aB ⟨rfl,aY⟩;subst aY;clear ap aq ar
     cases aK
     ·go_wp2
      go_ret
      exact⟨Ae (c.o (by rw[a.o];rfl)).symm,l.out⟩
     cases aL
     ·go_wp2
      go_ret
      exact⟨Ae (c.o (by rw[a.o];rfl)).symm,l.out⟩
     cases aM
     ·go_wp2
      go_ret
      exact⟨Ae (c.o (by rw[a.o];rfl)).symm,l.out⟩
     by_cases h6:(E:Int)>6
     ·have aR:(6:Int)<(E:Int):=h6
      go_wp2;go_ret
      exact⟨Ae (c.o (by rw[a.o,decide_eq_false (show ¬E≤6 by omega)];rfl)).symm,l.out⟩
     have aR:¬(6:Int)<(E:Int):=h6
     by_cases h40:(A:Int)>40
     ·have aQ:(40:Int)<(A:Int):=h40
      go_wp2_with fail;refine Y.out.mono ?_;rintro e ag ⟨rfl,n,N⟩;subst N;go_wp2;go_ret
      exact⟨Ae (c.o (by rw[a.o,decide_eq_false (show ¬(A:Int)≤40 by omega)];simp)).symm,Wg l.out n⟩
     have aQ:¬(40:Int)<(A:Int):=h40;go_wp2_with fail;refine Y.out.mono ?_;rintro e ag ⟨rfl,n,N⟩;have C:Yn aB.heap.size aB ag:=by rw[N];exact Wg (Zh _ _) n
     obtain⟨G,an,H,aE⟩:=Y4 (l.out.trans (C.mono l.out.size)) (V.out.trans (C.mono V.out.size)) (au.out ag C) (U.out.old C);clear C N Y au bc bd be O l V U;have O:=aE.out.at 3 _ rfl;have ao:Ym (ay=av):=by show _=_;rw[a.o,decide_eq_true (show E≤6 by omega),decide_eq_true (show(A:Int)≤40 by omega)];simp
     clear a
     cases av
     ·go_wp2_with fail
      refine H.out.mono ?_;rintro e bf ⟨rfl,t⟩;have W:=Za (G.out.trans (t.mono G.out.size));clear t H O;go_wp2;go_ret
      exact⟨Ae (c.o ao.o).symm,W.out⟩
     ·go_wp2_with fail
      refine H.out.mono ?_;rintro e bf ⟨rfl,t⟩;obtain⟨W,aG⟩:=Y2 (G.out.trans (t.mono G.out.size)) (an.out.trans (t.mono an.out.size));clear t H O;go_wp2;go_roundw
      case rel=>exact⟨k+1,by omega,by go_num,r.o ao.o,W,aG⟩
      case measure=>simp [Yo];omega
    ·have aI:Ym (p.funcs.all Dr=true):=xP Dr Fu.nil (fun i h=>g.o i (by omega))
     clear g;go_wp2;go_ret
     exact⟨Ae (by rw[S.out,aH.o,aI.o];rfl),F.out⟩
theorem Lr:∀(f:Nat) (s:Bs) (e:Nat) (d:List Tk),Hr f s e=.ok d→Iy d∧(∀t,t∈d→I64 t.num)∧d.length≤s.length+1
 |0,s,e,d,h=>by cases h
 |f+1,s,e,d,h=>by
  have j:=Ql (s.length+1) s;rw[Hr]at h;generalize (Dc (s.length+1) s).1=c at j h;generalize (Dc (s.length+1) s).2.1=i at j h;generalize (Dc (s.length+1) s).2.2=b at h
  cases b with
  |false=>cases h
  |true=>
   rw[if_pos rfl]at h
   by_cases hr:c=[]
   ·rw[if_pos hr]at h
    cases h
    exact⟨rfl,fun t a=>by rw[Ye.1 a];exact Eo,by simp⟩
   ·rw[if_neg hr]at h
    cases a:Ln c with
    |none=>rw[a]at h;cases h
    |some q=>
     obtain⟨k,x,n⟩:=q;rw[a]at h;obtain⟨p,z,r,A⟩:=Ux a;have hx:0<x.length:=Zy.2 p;have w:(c.drop x.length).length=c.length-x.length:=Zu;have y:0<c.length:=Zy.2 hr;dsimp only at h
     cases hc:Hr f (c.drop x.length) (e+i)with
     |error m=>rw[hc]at h;cases h
     |ok l=>
      rw[hc]at h
      cases h
      obtain⟨g,o,gl⟩:=Lr f (c.drop x.length) (e+i) l hc;obtain⟨u,v,rfl⟩:=g.ne;refine⟨g,fun t a=>?_,?_⟩
      ·rcases List.mem_cons.1 a with rfl|a
       ·exact r
       ·exact o t a
      ·rw[Zl];omega
theorem tK {w:Yp}{b:Nat}{a:List Tk}{v:Value}(d:Fs w b a v)(c:Iy a)(f:∀t,t∈a→I64 t.num)(k:a.length≤1000000):∃g cap,v=.slice (some ⟨g,0,none⟩) a.length cap∧b≤g∧
  Rs (w.alloc (.cells #[.slice (some ⟨g,0,none⟩) a.length cap,.int .i64 0,.bool false] 85)) w.heap.size g cap a (false,a):=by
 have e:0<a.length:=by obtain⟨t,n,rfl⟩:=c.ne;simp
 obtain⟨g,cap,m,l,i,j,h⟩:=Vo d e;refine⟨g,cap,m,h,0,⟨Zd w [κ g a.length cap,ι 0,.bool false] _,l.keep (Be (bA)),i,k,j,by rw[List.drop_zero];exact c,f⟩,by rw[List.drop_zero]⟩
theorem iZ:∀(f:Nat) (p:Pr) (st:PS) (x:Pr) (l:List Tk),prT f p st=(x,(false,l))→∃t c,l=t::c∧t.kind=5
 |0,p,st,x,l,a=>by
  rw[prT]at a;injection a with _ a;injection a with a;cases a
 |f+1,p,st,x,l,a=>by
  rw[prT]at a;split at a
  ·rename_i b
   injection a with e d
   subst d;rcases b with b|b
   ·cases b
   ·cases l with
    |nil=>exact absurd b (by decide)
    |cons t c=>exact⟨t,c,rfl,b⟩
  ·split at a
   ·exact iZ f _ _ x l a
   ·exact iZ f _ _ x l a
theorem Rs.spot {w:Yp}{p c cap:Nat}{L:List Tk}{b:Bool}{l:List Tk}(k:Rs w p c cap L (b,l)):∃(i:Nat) (t:Tk) (d:List Tk),l=t::d∧i<L.length∧L.length≤1000000∧w.cell? ⟨p,0,none⟩=some (.slice (some ⟨c,0,none⟩) L.length cap)∧w.cell? ⟨p,1,none⟩=some (.int .i64 (i:Int))∧w.cell? ⟨p,2,none⟩=some (.bool b)∧w.cell? ⟨c,i*4,none⟩=some (.int .i64 t.kind)∧w.cell? ⟨c,i*4+3,none⟩=some (.int .i64 t.line)∧p<w.heap.size∧c<w.heap.size:=by
 obtain⟨i,a,e⟩:=k;have e:l=L.drop i:=e;obtain⟨t,d,h,n,j,m⟩:=a.next;obtain⟨f,o,q,g⟩:=a.row.nth j;rw[Nat.zero_add]at f g;exact⟨i,t,d,e.trans h,m,a.fit,a.own.at 0 _ rfl,a.own.at 1 _ rfl,a.own.at 2 _ rfl,f,g,a.own.lt,Nat.lt_trans a.lt a.own.lt⟩
def Ta(a:Bs):Pr ×Int ×Int:=match Hr (a.length+1) a 1 with
 |.error n=>((⟨[],[]⟩:Pr),20,(n:Int))
 |.ok T=>Sn (oH (Kg (14*T.length+16) ⟨[],[]⟩ T))
theorem pT {b:Pr ×Int ×Int}(a:b.2.1=40):Sn b=b:=by
 obtain⟨x,e,n⟩:=b;have a:e=40:=a;subst a;show(if(40:Int)=0∧Eh x=false then((⟨[],[]⟩:Pr),(41:Int),(1:Int))else(x,40,n))=_
 rw[if_neg (by rintro⟨a,_⟩;exact absurd a (by decide))]
theorem eU(y:Bs)(bn:y.length≤20000)(w:Yp):
  Yq Zb 11 #[.string (Aa y)] w (WhP w (Ta y)):=by
 have aJ:Yn w.heap.size w (w.alloc (.cells #[ν,ν] 30)):=bA;obtain⟨A,K⟩:=Y2 aJ (Zd w [ν,ν] 30);have z:=yF y bn (w.alloc (.cells #[ν,ν] 30));have R:=Lr (y.length+1) y 1;unfold Ta;obtain⟨S,aI⟩:∃S,Hr (y.length+1) y 1=S:=⟨_,rfl⟩;rw[aI]at z R ⊢;have z:=Za z;clear aI aJ
 cases S with
 |error n=>
  clear R;go_enter func11,ntmps11;go_wp2_with fail;refine z.o.mono ?_;rintro e aO ⟨c,af⟩;have af:e=.returned (.tuple #[ν,ι 20,ι (n:Int)]):=af;subst af;obtain⟨aQ,au⟩:=Y2 (A.o.trans (c.mono A.o.size)) (K.o.old c);obtain⟨⟨s,u⟩,aj,ak⟩:=Je au.o;have al:=au.o.lt;clear c z A K;go_wp2_with fail;(rw[Af s];rw[Af u]);exact Yr (v:=.tuple #[.agg #[ν,ν],ι 20,ι (n:Int)]) (by simp [results,results11,go_sem,s,u]) rfl ⟨aQ.o,_,rfl,⟨_,_,rfl,Cd.zero,Bw.zero⟩⟩
 |ok T=>
  obtain⟨aF,aG,bg⟩:=R T rfl;dsimp only;have bv:T.length≤20001:=by omega
  have hrel:=kM (14*T.length+16) ⟨[],[]⟩ T (Zc _);have ag:=iZ (14*T.length+16) ⟨[],[]⟩ (false,T);obtain⟨⟨P,ba,l⟩,ae⟩:∃Q,prT (14*T.length+16) ⟨[],[]⟩ (false,T)=Q:=⟨_,rfl⟩;rw[ae]at hrel ag;obtain⟨aA,aH⟩:∃Q,Kg (14*T.length+16) ⟨[],[]⟩ T=Q:=⟨_,rfl⟩;rw[aH]at hrel ⊢;obtain⟨M,Z,aS,aT,X⟩:=Y5 (Ck hrel) ae aF aG ag;clear hrel ae aH R aF aG bg ag;go_enter func11,ntmps11;go_wp2_with fail;refine z.o.mono ?_;rintro e w2 ⟨c,v,rfl,k⟩;obtain⟨g,cap,rfl,aK,aM⟩:=tK k aS.o aT.o (by omega);have aU:Ym (g≠w.heap.size):=by
   rw[show(w.alloc (.cells #[ν,ν] 30)).heap.size=w.heap.size+1 by simp]at aK;show _≠_;omega
  clear aK;obtain⟨H,aa⟩:=Y2 (A.o.trans (c.mono A.o.size)) (K.o.old c);have f:Yn w2.heap.size w2 (w2.alloc (.cells #[κ g T.length cap,ι 0,.bool false] 85)):=bA;obtain⟨ao,ab,aw⟩:=Y3 (H.o.trans (f.mono H.o.size)) (aa.o.old f) aM;have Y:Ym (w.heap.size≠w2.heap.size):=by show _≠_;have:=aa.o.lt;omega
  have aX:Ym (w.heap.size≤w2.heap.size):=H.o.size;have aY:Ym (w2.heap.size≤(w2.alloc (.cells #[κ g T.length cap,ι 0,.bool false] 85)).heap.size):=f.size;clear c k f aM z A K H aa;go_upto_region 5 with(fail);generalize w2.alloc (.cells #[κ g T.length cap,ι 0,.bool false] 85)=C at*;have E:=rpProg (14*T.length+16) (false,T) C w2.heap.size g cap T (Zc _) aw.o;rw[Z.o]at E;have E:=Za E;have N:Ym (w.heap.size<C.heap.size):=ab.o.lt;generalize w2.heap.size=p at*;go_wp2_with fail;refine Calls.mono E.o ?_;rintro e D ⟨G,ah,v,rfl,bs,bu,rfl,B,U⟩;dsimp only at ah B U;obtain⟨j,h,rfl⟩:=B.yshape;obtain⟨q,m,rfl⟩:=U.yshape;obtain⟨W,av,ar,am,ay⟩:=Y5 (ao.o.trans ((G.below aY.o).mono aX.o)) (ab.o.sfr G Y.o) ah B U;clear G ah B U E ao ab aw;have f:Yn D.heap.size D (D.alloc (.cells #[ρ j P.arrays h,ρ q P.funcs m] 30)):=bA;obtain⟨I,L,aV,an,az,J⟩:=Y6 (W.o.trans (f.mono W.o.size)) (av.o.old f) (ar.o.old f) (am.o.old f) (Bw.old f ay.o) (Zd D [ρ j P.arrays h,ρ q P.funcs m] 30);clear f W av ar am ay;go_upto_region 6 with(fail);generalize D.alloc (.cells #[ρ j P.arrays h,ρ q P.funcs m] 30)=ai at*
  generalize D.heap.size=bD at*;obtain⟨i,t,bE,bk,bx,bw,bb,bc,bd,bo,bp,bl,bm⟩:=aV.o.spot;subst bk;have bh:(i:Int)<(T.length:Int):=by omega
  have bi:(0:Int)≤(i:Int):=by omega
  obtain⟨⟨s,u⟩,aj,ak⟩:=Je L.o;have al:=L.o.lt
  cases ba with
  |true=>
   have F:Ym (Sn (oH aA)=((⟨[],[]⟩:Pr),40,t.line)):=by
    rcases M.o with⟨x,l,O,r⟩|⟨aN,O,_,d⟩
    ·injection r with _ r;injection r with r;cases r
    ·have d:t.line=aN:=d
     rw[O,pT rfl,←d];rfl
   clear M X Z;have bz:p≠w.heap.size:=Y.o.symm;have bB:g≠w.heap.size:=aU.o;have bC:w.heap.size≠p:=Y.o;go_wp2_with fail
   go_region;(rw[Af s];rw[Af u]);have aR:Ym (Yn w.heap.size w ai.drew):=I.o.drew;have aB:∀a,ai.drew.cell? a=ai.cell? a:=fun _=>rfl
   have bq:=(aB ⟨w.heap.size,0,none⟩).trans s;have br:=(aB ⟨w.heap.size,1,none⟩).trans u;go_wp2_with fail;rw[F.o];exact Yr (v:=.tuple #[.agg #[ν,ν],ι 40,ι t.line]) (by simp [results,results11,go_sem,bq,br]) rfl ⟨aR.o,_,rfl,⟨_,_,rfl,Cd.zero,Bw.zero⟩⟩
  |false=>
   have ax:Ym (Sn (oH aA)=if(0:Int)=0∧Eh P=false then((⟨[],[]⟩:Pr),41,1)else(P,0,0)):=by
    rcases M.o with⟨x,l,O,r⟩|⟨aN,_,d,_⟩
    ·injection r with r d
     injection d with _ d
     subst r d;obtain⟨bG,bF,ad,bj⟩:=X.o _ _ rfl;injection ad with ad bt
     subst ad;rw[O];show Sn (if t.kind=5 then(P,0,0)else _)=_
     rw[if_pos bj];rfl
    ·have d:false=true:=d
     cases d
   clear M X Z;obtain⟨⟨aC,aD⟩,_⟩:=Je J.o;have aE:=J.o.lt;have aW:=Za (fun aO B G=>rS P (C.heap.size≤ ·) (ρ j P.arrays h) (ρ q P.funcs m) aO B G);go_wp2_with fail;refine(aW.o _ an.o az.o).mono ?_;rintro e V ⟨rfl,c⟩;obtain⟨ap,ac,aq,aP,aZ⟩:=Y5 (I.o.trans (c.mono I.o.size)) (L.o.old c) (J.o.old c) (an.o.old c) (Bw.old c az.o);clear c I L J s u aj ak al aC aD aE bb bc bd bo bp bl bm bh bi;obtain⟨⟨s,u⟩,aj,ak⟩:=Je ac.o;have al:=ac.o.lt;obtain⟨⟨aC,aD⟩,_⟩:=Je aq.o;have aE:=aq.o.lt
   cases hrt:Eh P with
   |false=>
    have k:=ax.o;rw[if_pos (by simp [hrt])]at k;have F:=Za k;clear hrt k;go_wp2_with fail;(rw[Af s];rw[Af u]);rw[F.o];exact Yr (v:=.tuple #[.agg #[ν,ν],ι 41,ι 1]) (by simp [results,results11,go_sem,s,u]) rfl ⟨ap.o,_,rfl,⟨_,_,rfl,Cd.zero,Bw.zero⟩⟩
   |true=>
    have k:=ax.o;rw[if_neg (by simp [hrt])]at k;have F:=Za k;clear hrt k;go_wp2_with fail;rw[F.o];have aL:Db (C.heap.size≤ ·) V ((V.setCell ⟨w.heap.size,0,none⟩ (ρ j P.arrays h)).setCell ⟨w.heap.size,1,none⟩ (ρ q P.funcs m)):=((Av V N.o 0 (ρ j P.arrays h)).trans (Av (V.setCell ⟨w.heap.size,0,none⟩ (ρ j P.arrays h)) N.o 1 (ρ q P.funcs m)));obtain⟨⟨be,bf⟩,_⟩:=Je ((ac.o.set 0 (ρ j P.arrays h)).set 1 (ρ q P.funcs m));exact Yr (v:=.tuple #[.agg #[ρ j P.arrays h,ρ q P.funcs m],ι 0,ι 0]) (by simp [results,results11,go_sem,be,bf]) rfl ⟨((ap.o.setCell (p:=⟨w.heap.size,0,none⟩) (Zc _) (ρ j P.arrays h)).setCell (p:=⟨w.heap.size,1,none⟩) (Zc _) (ρ q P.funcs m)),_,rfl,⟨_,_,rfl,(aP.o.keep aL).mono (fun b c=>by have c:C.heap.size≤b:=c;have:=N.o;show _≤_;omega),(Bw.keep aL aZ.o).mono (fun b c=>by have c:C.heap.size≤b:=c;have:=N.o;show _≤_;omega)⟩⟩
def Xx(a:Bs):Ex ×Int ×Int:=match Hr (a.length+1) a 1 with
 |.error n=>(exZ,20,(n:Int))
 |.ok T=>Qo (kB (Bk (14*T.length+16) 1 T))
theorem Wh {b:Ex ×Int ×Int}(a:b.2.1=40):Qo b=b:=by
 obtain⟨x,e,n⟩:=b;have a:e=40:=a;subst a;show(if(40:Int)=0∧Cf x=false then(exZ,(41:Int),(1:Int))else(x,40,n))=_
 rw[if_neg (by rintro⟨a,_⟩;exact absurd a (by decide))]
theorem iS(z:Bs)(bE:z.length≤20000)(w:Yp):
  Yq Zb 13 #[.string (Aa z)] w (WhE w (Xx z)):=by
 have aU:Yn w.heap.size w (w.alloc (ζ)):=bA;obtain⟨D,U⟩:=Y2 aU (Zd w η 35);have A:=yF z bE (w.alloc (ζ));have Y:=Lr (z.length+1) z 1;unfold Xx;obtain⟨S,aT⟩:∃S,Hr (z.length+1) z 1=S:=⟨_,rfl⟩;rw[aT]at A Y ⊢;have A:=Za A;clear aT aU
 cases S with
 |error n=>
  clear Y;go_enter func13,ntmps13;go_wp2_with fail;refine A.o.mono ?_;rintro e aZ ⟨c,ag⟩;have ag:e=.returned (.tuple #[ν,ι 20,ι (n:Int)]):=ag;subst ag;obtain⟨bb,aF⟩:=Y2 (D.o.trans (c.mono D.o.size)) (U.o.old c);obtain⟨⟨h,j,k,m,q⟩,al,am,an,ao,ap⟩:=Ai aF.o;have aq:=aF.o.lt;clear c A D U;go_wp2_with fail;(rw[Af h];rw[Af j];rw[Af k];rw[Af m];rw[Af q]);exact Yr (v:=.tuple #[.agg #[ι 0,ι 0,ι 0,ε,ν],ι 20,ι (n:Int)]) (by simp [results,Yf,go_sem,h,j,k,m,q]) rfl ⟨bb.o,_,rfl,⟨_,rfl,Ag.zero,Eo⟩⟩
 |ok T=>
  obtain⟨aR,aS,bs⟩:=Y T rfl;dsimp only;have bH:T.length≤20001:=by omega
  have hrel:=aG (14*T.length+16) T (by omega);have aV:=True.intro;obtain⟨⟨P,bj,l⟩,af⟩:∃Q,xT (14*T.length+16) 1 (false,T)=Q:=⟨_,rfl⟩;rw[af]at hrel;obtain⟨aK,X⟩:∃Q,Bk (14*T.length+16) 1 T=Q:=⟨_,rfl⟩;rw[X]at hrel ⊢;obtain⟨L,R,bc,bd,ab⟩:=Y5 (Ck hrel) af aR aS aV;clear hrel af X Y aR aS bs aV;go_enter func13,ntmps13;go_wp2_with fail;refine A.o.mono ?_;rintro e w2 ⟨c,v,rfl,s⟩;obtain⟨g,cap,rfl,aW,aX⟩:=tK s bc.o bd.o (by omega);have aC:Ym (g≠w.heap.size):=by
   rw[show(w.alloc (ζ)).heap.size=w.heap.size+1 by simp]at aW;show _≠_;omega
  clear aW;obtain⟨N,ac⟩:=Y2 (D.o.trans (c.mono D.o.size)) (U.o.old c);have r:Yn w2.heap.size w2 (w2.alloc (.cells #[κ g T.length cap,ι 0,.bool false] 85)):=bA;obtain⟨aA,ad,aI⟩:=Y3 (N.o.trans (r.mono N.o.size)) (ac.o.old r) aX;have K:Ym (w.heap.size≠w2.heap.size):=by show _≠_;have:=ac.o.lt;omega
  have bh:Ym (w.heap.size≤w2.heap.size):=N.o.size;have bi:Ym (w2.heap.size≤(w2.alloc (.cells #[κ g T.length cap,ι 0,.bool false] 85)).heap.size):=r.size;clear c s r aX A D U N ac;go_upto_region 5 with(fail);generalize w2.alloc (.cells #[κ g T.length cap,ι 0,.bool false] 85)=M at*;have J:=bY (14*T.length+16) (false,T) M w2.heap.size g cap T (by show 14*T.length+10≤_;omega) aI.o;rw[R.o]at J;have J:=Za J;have E:Ym (w.heap.size<M.heap.size):=ad.o.lt;generalize w2.heap.size=p at*;go_wp2_with fail;refine Calls.mono J.o ?_;rintro e G ⟨ah,aj,bL,rfl,F,ai⟩;dsimp only at aj F ai;obtain⟨y,sc,rfl⟩:=F.shape;obtain⟨Z,aH,aE,ay,be⟩:=Y5 (aA.o.trans ((ah.below bi.o).mono bh.o)) (ad.o.sfr ah K.o) aj F ai;clear ah aj F ai J aA ad aI;have r:Yn G.heap.size G (G.alloc (ξ P (ρ y P.args sc))):=bA;obtain⟨I,V,bf,az,O⟩:=Y5 (Z.o.trans (r.mono Z.o.size)) (aH.o.old r) (aE.o.old r) (ay.o.old r) (Zd G (χ P (ρ y P.args sc)) 35);clear r Z aH aE ay;go_upto_region 6 with(fail);generalize G.alloc (ξ P (ρ y P.args sc))=H at*
  generalize G.heap.size=bK at*;obtain⟨i,t,ak,bw,bJ,bI,bk,bl,bm,bF,bG,bC,bD⟩:=bf.o.spot;subst bw;have bt:(i:Int)<(T.length:Int):=by omega
  have bu:(0:Int)≤(i:Int):=by omega
  obtain⟨⟨h,j,k,m,q⟩,al,am,an,ao,ap⟩:=Ai V.o;have aq:=V.o.lt
  cases bj with
  |true=>
   have B:Ym (Qo (kB aK)=(exZ,40,t.line)):=by
    rcases L.o with⟨x,l,W,u⟩|⟨aY,W,_,f⟩
    ·injection u with _ u;injection u with u;cases u
    ·have f:t.line=aY:=f
     rw[W,Wh rfl,←f];rfl
   clear L ab R;have bx:p≠w.heap.size:=K.o.symm;have bz:g≠w.heap.size:=aC.o;have bB:w.heap.size≠p:=K.o;go_wp2_with fail
   go_region;(rw[Af h];rw[Af j];rw[Af k];rw[Af m];rw[Af q]);have aa:Ym (Yn w.heap.size w H.drew):=I.o.drew;have d:∀a,H.drew.cell? a=H.cell? a:=fun _=>rfl
   have ar:=(d ⟨w.heap.size,0,none⟩).trans h;have au:=(d ⟨w.heap.size,1,none⟩).trans j;have av:=(d ⟨w.heap.size,2,none⟩).trans k;have aw:=(d ⟨w.heap.size,3,none⟩).trans m;have ax:=(d ⟨w.heap.size,4,none⟩).trans q;go_wp2_with fail;rw[B.o];exact Yr (v:=.tuple #[.agg #[ι 0,ι 0,ι 0,ε,ν],ι 40,ι t.line]) (by simp [results,Yf,go_sem,ar,au,av,aw,ax]) rfl ⟨aa.o,_,rfl,⟨_,rfl,Ag.zero,Eo⟩⟩
  |false=>
   have X:aK=.ok (P,t::ak):=by
    rcases L.o with⟨x,l,W,u⟩|⟨aY,_,f,_⟩
    ·injection u with u f
     injection f with _ f
     subst u f;exact W
    ·have f:false=true:=f
     cases f
   subst X
   by_cases hk:t.kind=5
   ·have aJ:Ym (Qo (kB (.ok (P,t::ak)))=if(0:Int)=0∧Cf P=false then(exZ,41,1)else(P,0,0)):=by
     show Qo (if t.kind=5 then(P,0,0)else _)=_
     rw[if_pos hk];rfl
    clear L ab R;obtain⟨⟨aL,aM,aN,aO,aP⟩,_⟩:=Ai O.o;have aQ:=O.o.lt;have bg:=Za (fun aZ F=>Pc P (M.heap.size≤ ·) (ρ y P.args sc) aZ F);go_wp2_with fail;refine(bg.o _ az.o).mono ?_;rintro e C ⟨rfl,c⟩;obtain⟨aB,ae,aD,ba⟩:=Y4 (I.o.trans (c.mono I.o.size)) (V.o.old c) (O.o.old c) (az.o.old c);clear c I V O h j k m q al am an ao ap aq aL aM aN aO aP aQ bk bl bm bF bG bC bD bt bu;obtain⟨⟨h,j,k,m,q⟩,al,am,an,ao,ap⟩:=Ai ae.o;have aq:=ae.o.lt;obtain⟨⟨aL,aM,aN,aO,aP⟩,_⟩:=Ai aD.o;have aQ:=aD.o.lt
    cases hrt:Cf P with
    |false=>
     have s:=aJ.o;rw[if_pos (by simp [hrt])]at s;have B:=Za s;clear hrt s;go_wp2_with fail;(rw[Af h];rw[Af j];rw[Af k];rw[Af m];rw[Af q]);rw[B.o];exact Yr (v:=.tuple #[.agg #[ι 0,ι 0,ι 0,ε,ν],ι 41,ι 1]) (by simp [results,Yf,go_sem,h,j,k,m,q]) rfl ⟨aB.o,_,rfl,⟨_,rfl,Ag.zero,Eo⟩⟩
    |true=>
     have s:=aJ.o;rw[if_neg (by simp [hrt])]at s;have B:=Za s;clear hrt s;go_wp2_with fail;rw[B.o];have bv:Db (M.heap.size≤ ·) C (((((C.setCell ⟨w.heap.size,0,none⟩ (ι P.kind)).setCell ⟨w.heap.size,1,none⟩ (ι P.op)).setCell ⟨w.heap.size,2,none⟩ (ι P.n)).setCell ⟨w.heap.size,3,none⟩ (σ P.name)).setCell ⟨w.heap.size,4,none⟩ (ρ y P.args sc)):=(((((Av C E.o 0 (ι P.kind)).trans (Av (C.setCell ⟨w.heap.size,0,none⟩ (ι P.kind)) E.o 1 (ι P.op))).trans (Av ((C.setCell ⟨w.heap.size,0,none⟩ (ι P.kind)).setCell ⟨w.heap.size,1,none⟩ (ι P.op)) E.o 2 (ι P.n))).trans (Av (((C.setCell ⟨w.heap.size,0,none⟩ (ι P.kind)).setCell ⟨w.heap.size,1,none⟩ (ι P.op)).setCell ⟨w.heap.size,2,none⟩ (ι P.n)) E.o 3 (σ P.name))).trans (Av ((((C.setCell ⟨w.heap.size,0,none⟩ (ι P.kind)).setCell ⟨w.heap.size,1,none⟩ (ι P.op)).setCell ⟨w.heap.size,2,none⟩ (ι P.n)).setCell ⟨w.heap.size,3,none⟩ (σ P.name)) E.o 4 (ρ y P.args sc)));obtain⟨⟨bn,bo,bp,bq,br⟩,_⟩:=Ai (((((ae.o.set 0 (ι P.kind)).set 1 (ι P.op)).set 2 (ι P.n)).set 3 (σ P.name)).set 4 (ρ y P.args sc));exact Yr (v:=.tuple #[.agg #[ι P.kind,ι P.op,ι P.n,σ P.name,ρ y P.args sc],ι 0,ι 0]) (by simp [results,Yf,go_sem,bn,bo,bp,bq,br]) rfl ⟨(((((aB.o.setCell (p:=⟨w.heap.size,0,none⟩) (Zc _) (ι P.kind)).setCell (p:=⟨w.heap.size,1,none⟩) (Zc _) (ι P.op)).setCell (p:=⟨w.heap.size,2,none⟩) (Zc _) (ι P.n)).setCell (p:=⟨w.heap.size,3,none⟩) (Zc _) (σ P.name)).setCell (p:=⟨w.heap.size,4,none⟩) (Zc _) (ρ y P.args sc)),_,rfl,⟨_,rfl,(ba.o.keep bv).mono (fun b c=>by have c:M.heap.size≤b:=c;have:=E.o;show _≤_;omega),be.o⟩⟩
   ·have B:Ym (Qo (kB (.ok (P,t::ak)))=(exZ,40,t.line)):=by
     show Qo (if t.kind=5 then(P,0,0)else _)=_
     rw[if_neg hk,Wh rfl]
    clear L ab R;have bx:p≠w.heap.size:=K.o.symm;have bz:g≠w.heap.size:=aC.o;have bB:w.heap.size≠p:=K.o;go_wp2_with fail
    go_region;(rw[Af h];rw[Af j];rw[Af k];rw[Af m];rw[Af q]);have aa:Ym (Yn w.heap.size w H.drew):=I.o.drew;have d:∀a,H.drew.cell? a=H.cell? a:=fun _=>rfl
    have ar:=(d ⟨w.heap.size,0,none⟩).trans h;have au:=(d ⟨w.heap.size,1,none⟩).trans j;have av:=(d ⟨w.heap.size,2,none⟩).trans k;have aw:=(d ⟨w.heap.size,3,none⟩).trans m;have ax:=(d ⟨w.heap.size,4,none⟩).trans q;go_wp2_with fail;rw[B.o];exact Yr (v:=.tuple #[.agg #[ι 0,ι 0,ι 0,ε,ν],ι 40,ι t.line]) (by simp [results,Yf,go_sem,ar,au,av,aw,ax]) rfl ⟨aa.o,_,rfl,⟨_,rfl,Ag.zero,Eo⟩⟩
theorem Qa(a:Bs)(l:a.length≤20000)(w:Yp)(i:Lu w):Yq Zb 10 #[.string (Aa a)] w (WhP w (Ta a)):=by
 have k:=Lr (a.length+1) a 1;have c:∀w2,Lu w2→Yq Zb 57 #[σ a] w2 (Jx (Hr (a.length+1) a 1) w2):=fun w2 b=>gM a l w2 b
 unfold Ta
 cases hS:Hr (a.length+1) a 1 with
 |error n=>
  rw[hS]at c;have b:=mD a w ((⟨[],[]⟩:Pr),20,(n:Int)) (Za fun h d=>nW a n h (Za fun w2 f=>c w2 ((i.old d).old f)));have e:Sn ((⟨[],[]⟩:Pr),20,(n:Int))=((⟨[],[]⟩:Pr),20,(n:Int)):=by
   show(if(20:Int)=0∧Eh ⟨[],[]⟩=false then((⟨[],[]⟩:Pr),(41:Int),(1:Int))else((⟨[],[]⟩:Pr),20,(n:Int)))=_
   rw[if_neg (by rintro⟨b,_⟩;exact absurd b (by decide))]
  rw[e]at b;exact b
 |ok T=>
  rw[hS]at c;obtain⟨g,j,gl⟩:=k T hS;exact mD a w _ (Za fun h d=>pL a T g j (by omega) (14*T.length+16) (by omega) h (Za fun w2 f=>c w2 ((i.old d).old f)))
theorem bL(a:Bs)(l:a.length≤20000)(w:Yp)(i:Lu w):Yq Zb 12 #[.string (Aa a)] w (WhE w (Xx a)):=by
 have k:=Lr (a.length+1) a 1;have c:∀w2,Lu w2→Yq Zb 57 #[σ a] w2 (Jx (Hr (a.length+1) a 1) w2):=fun w2 b=>gM a l w2 b
 unfold Xx
 cases hS:Hr (a.length+1) a 1 with
 |error n=>
  rw[hS]at c;have b:=nN a w (exZ,20,(n:Int)) (Za fun h d=>pU a n h (Za fun w2 f=>c w2 ((i.old d).old f)));have e:Qo (exZ,20,(n:Int))=(exZ,20,(n:Int)):=by
   show(if(20:Int)=0∧Cf exZ=false then(exZ,(41:Int),(1:Int))else(exZ,20,(n:Int)))=_
   rw[if_neg (by rintro⟨b,_⟩;exact absurd b (by decide))]
  rw[e]at b;exact b
 |ok T=>
  rw[hS]at c;obtain⟨g,j,gl⟩:=k T hS;exact nN a w _ (Za fun h d=>qM a T g j (by omega) (14*T.length+16) (by omega) h (Za fun w2 f=>c w2 ((i.old d).old f)))
theorem kG(b:Nat)(t:Int)(w:Yp)(s:Ca w b [] t):
  Yq Zb 20 #[.pointer (some ⟨b,0,none⟩)] w fun e w'=>e=.returned (.string (Aa []))∧Yn b w w':=by
 obtain⟨p,v,a,k,d⟩:=s;have x:∀(q:Option Addr) (c:Yp),(Builtin.unsafeString_ #[102,3] 9 #[.pointer q,ι 0]).run Zb c=.ok (.string (Aa [])) c:=fun q c=>Lib.run_unsafeString_none c _ _ _ q
 have C:Tryz.prog.follows .mixedOrders=true:=by kernel_rfl
 have i:w.drew.heap[b]? =some (.cells #[p,v,ι t] 58 (0,0)):=a;have r:b<w.heap.size:=by
  rcases Nat.lt_or_ge b w.heap.size with h|h
  ·exact h
  ·rw[Array.getElem?_eq_none h]at a;simp at a
 rcases d.2 with⟨rfl,_⟩|⟨g,cap,l,rfl,y,j,B,z,A,o⟩
 ·have f:w.drew.cell? ⟨b,1,none⟩=some (ν):=by rw[Yh i];rfl
  have m:(Builtin.unsafeSliceData_ #[54] 102 #[ν]).run Zb w.drew=.ok (.pointer none) w.drew:=Lib.run_unsafeSliceData_nil _ _ _ _ _;clear a d k;go_enter func20,ntmps20
  go_wp2
  go_region_o
  all_goals(go_wp2;go_ret;exact⟨rfl,Below.drew (Zh b w)⟩)
 ·by_cases hz:cap=0
  ·subst hz
   have f:w.drew.cell? ⟨b,1,none⟩=some (κ g 0 0):=by rw[Yh i];rfl
   have n:w.drew.heap[g]? =some (.cells l 5 (0,0)):=j;have m:(Builtin.unsafeSliceData_ #[54] 102 #[κ g 0 0]).run Zb w.drew=.ok (π w.drew.heap.size) (w.drew.alloc (.view ⟨g,0,none⟩ 5)):=
    Lib.run_unsafeSliceData_zero _ _ _ _ underlying102 _ _ (5,l.size) (by simp [World.shape?,n])
   have u:w.cell? ⟨b,1,none⟩=some (κ g 0 0):=f;clear a d k j n o;go_enter func20,ntmps20
   go_wp2
   go_region_o
   all_goals(go_wp2;go_ret;exact⟨rfl,(Below.drew (Zh b w)).alloc (Nat.le_of_lt r) _⟩)
  ·have f:w.drew.cell? ⟨b,1,none⟩=some (κ g 0 cap):=by rw[Yh i];rfl
   have m:(Builtin.unsafeSliceData_ #[54] 102 #[κ g 0 cap]).run Zb w.drew=.ok (π g) w.drew:=
    Lib.run_unsafeSliceData_row _ _ _ _ _ _ hz
   clear a d k j o;go_enter func20,ntmps20
   go_wp2
   go_region_o
   all_goals(go_wp2;go_ret;exact⟨rfl,Below.drew (Zh b w)⟩)
theorem oN(p:Pr)(c d:Value)(w:Yp)(g:0<w.heap.size)(k:Ev w)(f:Cd (· <w.heap.size) w p.arrays c)(h:Bw (· <w.heap.size) w p.funcs d)(j:Eh p=true)(i:Cv (Jw p).length):
  Yq Zb 5 #[.agg #[c,d]] w fun l w'=>l=.returned (.tuple #[.string (Aa (Jw p)),.int .i64 0])∧Yn w.heap.size w w':=
 kL p c d w g k f h j (fun b e a=>by
  by_cases hn:Jw p=[]
  ·rw[hn]at a ⊢;exact kG b 0 e a
  ·exact Vt b a hn) i
def awP:Bs:=[105,110,116,32,109,97,105,110,40,41,32,123,32,112,114,105,110,116,40,49,32,43,32,50,32,42,32,51,41,59,32,125]
def awQ:Bs:=[105,110,116,32,109,97,105,110,40,41,32,123,10]
def awX:Bs:=[97,32,45,32,98,32,45,32,99]
theorem aw_p(w:Yp)(G:Lu w):
  Yq Zb 10 #[.string ⟨#[105,110,116,32,109,97,105,110,40,41,32,123,32,112,114,105,110,116,40,49,32,43,32,50,32,42,32,51,41,59,32,125]⟩] w fun e w'=>
   Yn w.heap.size w w'∧∃j l k b i cap d f g,e=.returned (.tuple #[.agg #[.slice j l k,.slice (some ⟨b,i,none⟩) 1 cap],.int .i64 0,.int .i64 0])∧w'.cell? ⟨b,i+3,none⟩=some (.slice (some ⟨d,f,none⟩) 1 g)∧w'.cell? ⟨d,f,none⟩=some (.int .i64 8)∧1≤cap∧1≤g:=by
 refine(Qa awP (by decide) w G).mono ?_;intro e w' H;obtain⟨C,v,E,u,P,K,L,M⟩:=H;have x:(Ta awP).2.1=0:=by kernel_rfl
 have y:(Ta awP).2.2=0:=by kernel_rfl
 have q:(Ta awP).1.funcs.length=1:=by kernel_rfl
 have z:(Bc (Ta awP).1.funcs 0).body.length=1:=by kernel_rfl
 have A:(Fk (Bc (Ta awP).1.funcs 0).body 0).kind=8:=by kernel_rfl
 generalize Ta awP=N at*;obtain⟨a,cap,b,i,pv,lv,O,rfl,s,_,p,r⟩:=M;rw[q]at s p r;obtain⟨⟨_,_,_,m⟩,_,_,o⟩:=r 0 (by decide);obtain⟨t,g,J⟩:=o.shape;rw[J]at o m;rcases p with p|⟨rfl,_⟩
 ·omega
 have I:∃d f,t=some ⟨d,f,none⟩∧w'.cell? ⟨d,f,none⟩=some (ι 8)∧1≤g:=by
  rw[←A]
  cases o with
  |mk _ _ _ d f sa st se hcap hfit h h0=>
   rcases h with h|⟨h,_⟩
   ·omega
   ·exact⟨d,f,h,by simpa using h0 0 (by omega),by omega⟩
 obtain⟨d,f,rfl,F,D⟩:=I;rw[z]at m;obtain⟨j,l,k,rfl⟩:∃a n c,u=Value.slice a n c:=by obtain⟨a,c,B⟩:=L.yshape;exact⟨a,_,c,B⟩
 refine⟨C,j,l,k,b,i,cap,d,f,g,?_,by simpa using m,F,s,D⟩;rw[E,K,x,y,q]
theorem aw_q(w:Yp)(r:Lu w):
  Yq Zb 10 #[.string ⟨#[105,110,116,32,109,97,105,110,40,41,32,123,10]⟩] w fun e w'=>
   Yn w.heap.size w w'∧∃b f d g i h,e=.returned (.tuple #[.agg #[.slice b f d,.slice g i h],.int .i64 40,.int .i64 2]):=by
 refine(Qa awQ (by decide) w r).mono ?_;intro e w' s;obtain⟨p,v,q,k,o,t,u,x⟩:=s;obtain⟨b,f,d,rfl⟩:∃a n c,k=Value.slice a n c:=by obtain⟨a,c,j⟩:=u.yshape;exact⟨a,_,c,j⟩
 obtain⟨g,i,h,rfl⟩:∃a n c,o=Value.slice a n c:=by obtain⟨a,c,j⟩:=x.yshape;exact⟨a,_,c,j⟩
 have l:(Ta awQ).2.1=40:=by kernel_rfl
 have m:(Ta awQ).2.2=2:=by kernel_rfl
 refine⟨p,b,f,d,g,i,h,?_⟩;rw[q,t,l,m]
theorem aw_x(w:Yp)(o:Lu w):
  Yq Zb 12 #[.string ⟨#[97,32,45,32,98,32,45,32,99]⟩] w fun e w'=>
   Yn w.heap.size w w'∧∃k r n s b d cap,e=.returned (.tuple #[.agg #[.int .i64 k,.int .i64 r,.int .i64 n,.string s,.slice (some ⟨b,d,none⟩) 2 cap],.int .i64 0,.int .i64 0])∧w'.cell? ⟨b,d+8,none⟩=some (.string ⟨#[99]⟩):=by
 refine(bL awX (by decide) w o).mono ?_;intro e w' p;obtain⟨l,v,m,s,q,hx,t⟩:=p;have g:(Xx awX).2.1=0:=by kernel_rfl
 have h:(Xx awX).2.2=0:=by kernel_rfl
 have i:(Xx awX).1.args.length=2:=by kernel_rfl
 have j:(Bx (Xx awX).1.args 1).name=[99]:=by kernel_rfl
 generalize Xx awX=c at*;obtain⟨a,cap,rfl⟩:=hx.shape;obtain⟨b,d,u,rfl,_,_,_,_,f,_⟩:=hx.cellAt 1 (by omega);rw[j]at f;refine⟨l,c.1.kind,c.1.op,c.1.n,Aa c.1.name,b,d,cap,?_,f⟩;rw[m,q,g,h,i]
theorem kR(w:Yp)(O:Lu w):
  Yq Zb 4 #[] w fun e w'=>e=.returned (.bool true)∧Yn w.heap.size w w':=by
 have D:=Za O;clear O;go_enter func4,ntmps4;go_wp2_with fail;refine(aw_p w D.o).mono ?_;rintro e f ⟨h,p,r,q,b,x,cap,ab,aj,ac,rfl,L,N,ag,ah⟩;have a:Yn f.heap.size f (f.alloc (.cells #[.slice p r q,.slice (some ⟨b,x,none⟩) 1 cap] 30)):=bA;obtain⟨o,m,j,z,B⟩:=Y5 (Zd f [.slice p r q,.slice (some ⟨b,x,none⟩) 1 cap] 30) ((D.o.old h).old a) (h.trans (a.mono h.size)) (Ac a L) (Ac a N);clear h L N a;go_upto_region 2 with(fail);generalize f.alloc (.cells #[.slice p r q,.slice (some ⟨b,x,none⟩) 1 cap] 30)=w2 at*;obtain⟨T,P⟩:∃T,f.heap.size=T:=⟨_,rfl⟩;rw[P]at o ⊢;clear P;go_wp2_with fail;refine(aw_q w2 m.o).mono ?_;rintro e i ⟨c,H,S,I,K,R,J,rfl⟩;have a:Yn i.heap.size i (i.alloc (.cells #[.slice H S I,.slice K R J] 30)):=bA;obtain⟨F,E,l,A,C⟩:=Y5 ((o.o.old c).old a) ((m.o.old c).old a) (j.o.trans ((c.trans (a.mono c.size)).mono j.o.size)) (Ac a (Ac c z.o)) (Ac a (Ac c B.o));clear c a o m j z B;go_upto_region 3 with(fail);generalize i.alloc (.cells #[.slice H S I,.slice K R J] 30)=aa at*;go_wp2_with fail;refine(aw_x aa E.o).mono ?_;rintro e g ⟨d,k,v,n,s,t,y,u,rfl,M⟩;have a:Yn g.heap.size g (g.alloc (.cells #[ι k,ι v,ι n,.string s,.slice (some ⟨t,y,none⟩) 2 u] 35)):=bA
 obtain⟨Z,G,X,V,Y,W⟩:=Y6 ((F.o.old d).old a) (Zd g [ι k,ι v,ι n,.string s,.slice (some ⟨t,y,none⟩) 2 u] 35) (l.o.trans ((d.trans (a.mono d.size)).mono l.o.size)) (Ac a (Ac d A.o)) (Ac a (Ac d C.o)) (Ac a M);clear d a F E l A C M;go_upto_region 4 with(fail);generalize g.alloc (.cells #[ι k,ι v,ι n,.string s,.slice (some ⟨t,y,none⟩) 2 u] 35)=al at*;obtain⟨U,Q⟩:∃U,g.heap.size=U:=⟨_,rfl⟩;rw[Q]at G ⊢;clear Q;have ak:=Z.o.at 1 _ rfl;have q4:=G.o.at 4 _ rfl;have ad:=V.o;have af:=Y.o;have ae:=W.o;have ai:(1:Int)≤(cap:Int):=by omega
 go_wp2;go_ret
 exact⟨rfl,X.o⟩
def Uw(c n:Int):Int:=if c<0 then(-(c+1)) % n else c % n
theorem aK(c n:Int)(a:I64 c)(b:0<n)(d:n≤9223372036854775807)(w:Yp):
  Yq Zb 9 #[.int .i64 c,.int .i64 n] w fun e w'=>e=.returned (.int .i64 (Uw c n))∧w'=w:=by
 obtain⟨l,u⟩:=a;unfold Uw
 by_cases hneg:c<0
 ·rw[if_pos hneg]
  have f:(n==0)=false:=by simp;omega
  go_enter func9,ntmps9;go_wp2;go_ret
  exact⟨Iv (by show -((c+1).tmod n)=_;rw[←Int.neg_tmod,Int.tmod_eq_emod_of_nonneg (by omega)]),rfl⟩
 ·rw[if_neg hneg]
  have g:0≤c:=by omega
  go_enter func9,ntmps9;go_wp2;go_ret
  exact⟨rfl,rfl⟩
theorem Ua(c n:Int)(a:0<n):∃k:Nat,Uw c n=k∧(k:Int)<n:=by
 unfold Uw;split
 ·exact⟨((-(c+1)) % n).toNat,by have:=Int.emod_nonneg (-(c+1)) (show n≠0 by omega);omega,by have:=Int.emod_nonneg (-(c+1)) (show n≠0 by omega);have:=Int.emod_lt_of_pos (-(c+1)) a;omega⟩
 ·exact⟨(c % n).toNat,by have:=Int.emod_nonneg c (show n≠0 by omega);omega,by have:=Int.emod_nonneg c (show n≠0 by omega);have:=Int.emod_lt_of_pos c a;omega⟩
inductive Xf:Ex→Prop
 |num (n:Int) (h:0≤n):Xf (.mk 1 0 n [] [])
 |var (nm:Bs) (h:Ak nm=true):Xf (.mk 2 0 0 nm [])
 |one (o:Int) (x:Ex) (h:o=17∨o=18∨o=19) (hx:Cc x=true):Xf (.mk 3 o 0 [] [x])
 |two (o:Int) (x y:Ex) (h:0<Ao o) (hx:Cc x=true) (hy:Cc y=true):Xf (.mk 4 o 0 [] [x,y])
 |call (nm:Bs) (l:List Ex) (h:Ak nm=true) (hn:l.length≤6) (hl:∀x,x∈l→Cc x=true):Xf (.mk 5 0 0 nm l)
 |index (nm:Bs) (x:Ex) (h:Ak nm=true) (hx:Cc x=true):Xf (.mk 6 0 0 nm [x])
 |read:Xf (.mk 7 0 0 [] [])
def SOk(x:St):Prop:= ∃a,Dy a x=true
inductive Ml:St→Prop
 |set (nm:Bs) (x:Ex) (h:Ak nm=true) (hx:Cc x=true):Ml (.mk 1 nm [x] [] [])
 |store (nm:Bs) (x y:Ex) (h:Ak nm=true) (hx:Cc x=true) (hy:Cc y=true):Ml (.mk 2 nm [x,y] [] [])
 |iff (x:Ex) (t e:List St) (hx:Cc x=true) (ht:∀y,y∈t→SOk y) (he:∀y,y∈e→SOk y):Ml (.mk 3 [] [x] t e)
 |loop (x:Ex) (t:List St) (hx:Cc x=true) (ht:∀y,y∈t→SOk y):Ml (.mk 4 [] [x] t [])
 |brk:Ml (.mk 5 [] [] [] [])
 |cont:Ml (.mk 6 [] [] [] [])
 |ret (x:Ex) (hx:Cc x=true):Ml (.mk 7 [] [x] [] [])
 |prt (x:Ex) (hx:Cc x=true):Ml (.mk 8 [] [x] [] [])
 |trp (x:Ex) (hx:Cc x=true):Ml (.mk 9 [] [x] [] [])
 |call (nm:Bs) (l:List Ex) (h:Ak nm=true) (hn:l.length≤6) (hl:∀x,x∈l→Cc x=true):Ml (.mk 10 [] [.mk 5 0 0 nm l] [] [])
structure FOk (f:Fu):Prop where
 name:Ak f.name=true
 params:∀x,x∈f.params→Ak x=true
 locals:∀x,x∈f.locals→Ak x=true
 body:∀x,x∈f.body→SOk x
theorem qY {f:Fu}(a:Dr f=true):FOk f:=by
 unfold Dr at a;simp only[Zn,Zi]at a;exact⟨a.1.1.1.1,a.1.1.1.2,a.1.1.2,fun x hx=>⟨40,a.2 x hx⟩⟩
theorem Dt {l:Bs}(a:Ak l=true):l.length≤20:=by
 unfold Ak at a;simp only[Zn,decide_eq_true_eq]at a;exact a.1.1.2
theorem mH(L:Nat):∀l:List Bs,(∀x,x∈l→x.length≤L)→(Bm l).length≤l.length*(L+2)
 |[],_=>by simp [Bm]
 |x::l,h=>by
  have g:∀a:List Bs,(∀x,x∈a→x.length≤L)→(a.flatMap (fun y=>[44,32]++y)).length≤a.length*(L+2):=by
   intro a
   induction a with
   |nil=>intro _;simp
   |cons y a ih=>
    intro e;have f:=e y Zv;have d:=ih (fun c b=>e c (Yc _ b));simp only[List.flatMap_cons,Zf,Zl,Zr]at d ⊢;rw[Nat.add_mul];omega
  have f:=h x Zv;have d:=g l (fun c b=>h c (Yc _ b));rw[Bm,Zf,Zl,Nat.add_mul];omega
theorem Mr(e:Ex)(a:Int)(t:Bs):(Fm e a t).length≤t.length+2:=by
 unfold Fm;split
 ·simp
 ·omega
theorem cZ:∀i:Fin 20,(As i.val).length≤2:=by decide+kernel
theorem Rc(a:Int):(As a).length≤2:=by
 by_cases h:0≤a∧a≤19
 ·have b:((a.toNat:Nat):Int)=a:=Int.toNat_of_nonneg (by omega)
  have:=cZ ⟨a.toNat,by omega⟩;simp only[b]at this;exact this
 ·unfold As
  rw[if_neg (by omega),if_neg (by omega),if_neg (by omega),if_neg (by omega),if_neg (by omega),if_neg (by omega),if_neg (by omega),if_neg (by omega),if_neg (by omega),if_neg (by omega),if_neg (by omega),if_neg (by omega),if_neg (by omega),if_neg (by omega),if_neg (by omega),if_neg (by omega),if_neg (by omega),if_neg (by omega),if_neg (by omega)];exact Ze _
theorem mO{n:Int}(a:0≤n∧n≤9223372036854775807)(b:Int)(nm:Bs)(l:List Ex):(Aj (.mk 1 b n nm l)).length≤21:=by
 rw[Qv];exact Lib.itoa_length_le n (by omega) a.2
theorem iB {L:Nat}{nm:Bs}{l:List Ex}(d:nm.length≤20)(a:l.length≤6)(b:∀x,x∈l→(Aj x).length≤L):(Aj (.mk 5 0 0 nm l)).length≤6*L+64:=by
 rw[Ra];have:=mH L (l.map Aj) (fun x hx=>by
  obtain⟨y,c,rfl⟩:=List.mem_map.1 hx;exact b y c)
 simp only[List.length_map,Zf,Zl,Zr]at this ⊢;have:l.length*(L+2)≤6*(L+2):=Nat.mul_le_mul_right _ a;omega
theorem aE {sc:Sc}(h:sc.Ok)(raw:List Int)(g:Nat→Ex ×Nat)(L:Nat)(c:∀a,(Aj (g a).1).length≤L)(a:Nat):(Aj (Hu sc raw g a).1).length≤6*L+64:=by
 unfold Hu;split
 ·have j:=Am raw (Ab raw a 312).2 7 (by decide)
  exact iB (Dt (Ja _)) (by rw[Im];omega) (Kj g (fun x=>(Aj x).length≤L) c _ _)
 ·rename_i e
  have k:=dY e;have l:=Am raw a sc.funcs.length (by omega);have b:Ak (Bc sc.funcs (Ab raw a sc.funcs.length).1.toNat).name=true∧(Bc sc.funcs (Ab raw a sc.funcs.length).1.toNat).params.length≤6:=h.funcs _ (pB (d:=Fu.nil) (i:=(Ab raw a sc.funcs.length).1.toNat) (by omega));dsimp only;generalize Bc sc.funcs (Ab raw a sc.funcs.length).1.toNat=f at b ⊢;exact iB (Dt b.1) (by rw[Im];exact b.2) (Kj g (fun x=>(Aj x).length≤L) c _ _)
theorem aL {sc:Sc}(e:sc.Ok)(raw:List Int)(g:Nat→Ex ×Nat)(L:Nat)(b:∀a,(Aj (g a).1).length≤L)(k:Int)(a:Nat):(Aj (Dg sc raw g k a).1).length≤6*L+64:=by
 unfold Dg;split
 ·have:=Dt (Oo e raw a)
  dsimp only;rw[Ru];omega
 split
 ·dsimp only;rw[Rv];simp
 split
 ·have d:=Am raw (if k=3 then(Ab raw a 3).2 else a) 1000 (by decide)
  have c:=Mb _ (Ab raw (Ab raw (if k=3 then(Ab raw a 3).2 else a) 1000).2 8).1 d;have:=mO c 0 [] [];dsimp only;omega
 split
 ·have:=b (Ab raw a 3).2
  dsimp only;rw[Sg _ _ _ _ (by simp)];have c:=Rc (17+(Ab raw a 3).1);have f:=Mr (g (Ab raw a 3).2).1 9 (Aj (g (Ab raw a 3).2).1);show(As _++Fm (g (Ab raw a 3).2).1 9 (Aj (g (Ab raw a 3).2).1)).length≤_
  rw[Zf];omega
 split
 ·have d:=Dt (Nb e raw a)
  have c:=b (Cq sc.free sc.arrays raw a).2;dsimp only;rw[Rt _ _ _ _ (by simp)];show(_++[91]++Aj (g (Cq sc.free sc.arrays raw a).2).1++[93]).length≤_
  simp only[Zf,Zl,Zr];omega
 split
 ·exact aE e raw g L b a
 ·dsimp only;rw[Ry _ _ _ _ (by simp)]
  have d:=b (Ab raw a 16).2;have c:=b (g (Ab raw a 16).2).2;have f:=Rc (1+(Ab raw a 16).1);have h:=Mr (g (Ab raw a 16).2).1 (Ao (1+(Ab raw a 16).1)) (Aj (g (Ab raw a 16).2).1);have i:=Mr (g (g (Ab raw a 16).2).2).1 (Ao (1+(Ab raw a 16).1)+1) (Aj (g (g (Ab raw a 16).2).2).1);show(Fm (g (Ab raw a 16).2).1 (Ao (1+(Ab raw a 16).1)) (Aj (g (Ab raw a 16).2).1)++([32]++(As _++[32]))++Fm (g (g (Ab raw a 16).2).2).1 (Ao (1+(Ab raw a 16).1)+1) (Aj (g (g (Ab raw a 16).2).2).1)).length≤_
  simp only[Zf,Zl,Zr];omega
def exB:Nat→Nat
 |0=>64
 |d+1=>6*exB d+64
theorem Pf {sc:Sc}(b:sc.Ok)(raw:List Int):∀d a,(Aj (Aw sc raw d a).1).length≤exB d
 |0,a=>by
  rw[Aw];unfold Px;have:=aL b raw (fun a=>(Ex.nil,a)) 0 (fun a=>by show(Aj (.mk 0 0 0 [] [])).length≤0;rw[Hl];decide) (gK raw 0 a) (Ab raw a 12).2;simp only[exB];omega
 |d+1,a=>by
  rw[Aw];unfold Px;exact aL b raw _ (exB d) (Pf b raw d) _ _
theorem vR(t:Nat):(Qi t).length=t:=List.length_replicate
theorem dX(t:Nat)(l:List Bs):(ln t l).length=t+l.flatten.length+1:=by unfold ln;rw[Zf,Zf,vR];rfl
theorem vY {t N L c b:Nat}{k:Int}{nm:Bs}{args:List Ex}{thn els:List St}(j:nm.length≤N)(d:∀x,x∈args→(Aj x).length≤L)(h:(Ci (t+1) thn).length≤c)(g:(Ci (t+1) els).length≤b):(Cy t (.mk k nm args thn els)).length≤3*t+N+2*L+c+b+40:=by
 have hx:∀i,(Aj (Bx args i)).length≤L:=fun i=>by
  unfold Bx;rcases Nat.lt_or_ge i args.length with a|a
  ·rw[Yl,Zg a];exact d _ (Zx a)
  ·rw[Yl,List.getElem?_eq_none a]
   show(Aj (.mk 0 0 0 [] [])).length≤L
   rw[Hl];exact Ze _
 have e:=hx 0;have f:=hx 1;rw[Ft];unfold Du
 repeat' split
 all_goals
  try simp only[dX,Zf,List.flatten_cons,List.flatten_nil,Zl,Zr]
  try omega
theorem dD {t B:Nat}:∀l:List St,(∀x,x∈l→(Cy t x).length≤B)→(Ci t l).length≤l.length*B
 |[],_=>by simp [Ci]
 |x::l,h=>by
  have c:=h x Zv;have d:=dD l (fun b a=>h b (Yc _ a));rw[Ci,Zf,Zl,Nat.add_mul];omega
theorem fA {sc:Sc}(e:sc.Ok)(raw:List Int)(gs gl:Nat→List St ×Nat)(d:Nat)(t:Nat)(h:∀a,(Ci (t+1) (gs a).1).length≤d)(i:∀a,(Ci (t+1) (gl a).1).length≤d)(k:Int)(a:Nat):
  ∃j nm args thn els,(Cj sc raw gs gl k a).1=.mk j nm args thn els∧nm.length≤20∧(∀x,x∈args→(Aj x).length≤exB 3)∧(Ci (t+1) thn).length≤d∧(Ci (t+1) els).length≤d:=by
 have b:(Ci (t+1) []).length≤d:=Ze _;have f:∀x:Ex,x∈([]:List Ex)→(Aj x).length≤exB 3:=fun x hx=>by cases hx
 have c:([]:Bs).length≤20:=Ze _;have g:∀a,∀x,x∈[(Aw sc raw 3 a).1]→(Aj x).length≤exB 3:=fun a x hx=>by rw[Ye.1 hx];exact Pf e raw 3 a
 unfold Cj;split
 ·exact⟨_,_,_,_,_,rfl,Dt (Oo e raw a),f,b,b⟩
 split
 ·exact⟨_,_,_,_,_,rfl,Dt (Nb e raw a),g _,b,b⟩
 split
 ·exact⟨_,_,_,_,_,rfl,c,fun x hx=>by rw[Ye.1 hx];exact aE e raw _ (exB 2) (Pf e raw 2) a,b,b⟩
 split
 ·exact⟨_,_,_,_,_,rfl,c,f,b,b⟩
 split
 ·exact⟨_,_,_,_,_,rfl,c,g _,h _,h _⟩
 split
 ·exact⟨_,_,_,_,_,rfl,c,g _,i _,b⟩
 split
 ·exact⟨_,_,_,_,_,rfl,c,f,b,b⟩
 ·exact⟨_,_,_,_,_,rfl,c,f,b,b⟩
theorem mZ {sc:Sc}(i:sc.Ok)(raw:List Int)(gs gl:Nat→List St ×Nat)(c:Nat)(t d:Nat)(m:∀a,(Ci (t+1) (gs a).1).length≤c)(l:∀a,(Ci (t+1) (gl a).1).length≤c)(a:Nat):(Cy t (gSt sc raw gs gl d a).1).length≤3*t+2*exB 4+2*c+60:=by
 unfold gSt;dsimp only;obtain⟨k,nm,args,thn,els,j,f,e,g,h⟩:=fA i raw gs gl c t m l (Th raw d a) (Ab raw a 14).2;generalize (Cj sc raw gs gl (Th raw d a) (Ab raw a 14).2).2=b;rw[j];have e:∀x,x∈args→(Aj x).length≤exB 4:=fun x hx=>Zq (e x hx) (by decide)
 unfold Kv;split
 ·have:=vY (k:=k) (N:=20) (L:=exB 4) f (args:=args++[(Aw sc raw 4 b).1]) (fun x hx=>by
   rcases List.mem_append.1 hx with hx|hx
   ·exact e x hx
   ·rw[Ye.1 hx];exact Pf i raw 4 b) g h
  show(Cy t (.mk k nm (args++[(Aw sc raw 4 b).1]) thn els)).length≤_
  omega
 ·have:=vY (k:=k) (N:=20) (L:=exB 4) f e g h
  show(Cy t (.mk k nm args thn els)).length≤_
  omega
def stB:Nat→Nat
 |0=>4*(2*exB 4+100)
 |d+1=>4*(2*exB 4+2*stB d+100)
theorem Xo{b:Nat→St ×Nat}(P:St→Prop)(d:∀a,P (b a).1)(c a:Nat):∀x,x∈(Ir b c a).1→P x:=Pl b P d c a
theorem five(raw:List Int)(a:Nat):(Ab raw a 5).1.toNat≤4:=by have:=Am raw a 5 (by decide);omega
theorem Qh(raw:List Int):∀(d t:Nat) (sc:Sc),sc.Ok→t+d≤10→∀a,(Ci t (Gt raw d sc a).1).length≤stB d
 |0,t,sc,hs,ht,a=>by
  rw[Gt];have c:=dD (t:=t) (B:=2*exB 4+100) _ (Xo (fun x=>(Cy t x).length≤2*exB 4+100) (fun b=>Zq (mZ hs raw (fun a=>([],a)) (fun a=>([],a)) 0 t 0 (fun _=>Zc _) (fun _=>Zc _) b) (by omega)) (Ab raw a 5).1.toNat (Ab raw a 5).2);rw[Mv]at c;exact Zq c (Nat.mul_le_mul_right _ (five raw a))
 |d+1,t,sc,hs,ht,a=>by
  rw[Gt];have c:=dD (t:=t) (B:=2*exB 4+2*stB d+100) _ (Xo (fun x=>(Cy t x).length≤2*exB 4+2*stB d+100) (fun b=>Zq (mZ hs raw (Gt raw d sc) (Gt raw d sc.inLoop) (stB d) t (d+1) (Qh raw d (t+1) sc hs (by omega)) (Qh raw d (t+1) sc.inLoop hs.inLoop (by omega)) b) (by omega)) (Ab raw a 5).1.toNat (Ab raw a 5).2);rw[Mv]at c;exact Zq c (Nat.mul_le_mul_right _ (five raw a))
theorem Il(raw:List Int)(a:Nat)(n:Int)(b:a≤raw.length):a≤(Ab raw a n).2∧(Ab raw a n).2≤raw.length:=by
 refine⟨?_,tA raw a n b⟩;unfold Ab;split
 ·exact Zc _
 ·show a≤a+1;omega
def tN(N:Nat)(g:Nat→Ex ×Nat):Prop:= ∀a,a≤N→a≤(g a).2∧(g a).2≤N∧(Aj (g a).1).length+64*a≤1+64*(g a).2
theorem dS(l:List Bs)(x:Bs):(Bm (l++[x])).length≤(Bm l).length+x.length+2:=by
 cases l with
 |nil=>simp [Bm]
 |cons y l=>
  rw[List.cons_append,Bm,Bm,List.flatMap_append];simp only[Zf,List.flatMap_cons,List.flatMap_nil,Zl,Zr,List.append_nil];omega
theorem Sx {N:Nat}{g:Nat→Ex ×Nat}(b:tN N g):∀c a,a≤N→a≤(Ej g c a).2∧(Ej g c a).2≤N∧(Bm ((Ej g c a).1.map Aj)).length+64*a≤3*c+64*(Ej g c a).2
 |0,a,h=>⟨Zc _,h,by simp [Ej,Bm]⟩
 |c+1,a,h=>by
  obtain⟨e,d,f⟩:=Sx b c a h;obtain⟨q1,q2,q3⟩:=b (Ej g c a).2 d;rw[Ej];dsimp only;refine⟨by omega,q2,?_⟩;rw[List.map_append];have:=dS ((Ej g c a).1.map Aj) (Aj (g (Ej g c a).2).1);show(Bm ((Ej g c a).1.map Aj++[Aj (g (Ej g c a).2).1])).length+64*a≤_
  omega
theorem aC {N c:Nat}{nm:Bs}{d:List Ex ×Nat}{a b:Nat}(k:nm.length≤20)(j:c≤6)(i:a≤b)(e:b≤d.2∧d.2≤N∧(Bm (d.1.map Aj)).length+64*b≤3*c+64*d.2):a≤d.2∧d.2≤N∧(Aj (.mk 5 0 0 nm d.1)).length+64*a≤65+64*d.2:=by
 obtain⟨g,f,h⟩:=e;refine⟨by omega,f,?_⟩;rw[Ra];simp only[Zf,Zl,Zr];omega
theorem qO {sc:Sc}(p:sc.Ok)(raw:List Int){g:Nat→Ex ×Nat}(m:tN raw.length g)(k:Int)(a:Nat)(e:a≤raw.length):a≤(Dg sc raw g k a).2∧(Dg sc raw g k a).2≤raw.length∧(Aj (Dg sc raw g k a).1).length+64*a≤65+64*(Dg sc raw g k a).2:=by
 unfold Dg;split
 ·have w:=Dt (Oo p raw a)
  have h:a≤(Gn sc.free sc.vars raw a).2∧(Gn sc.free sc.vars raw a).2≤raw.length:=by
   unfold Gn;split<;>exact Il raw a _ e
  dsimp only;rw[Ru];exact⟨h.1,h.2,by omega⟩
 split
 ·have h:=Il raw a 3 e
  dsimp only;rw[Rv];exact⟨h.1,h.2,by simp;omega⟩
 split
 ·have s:a≤(if k=3 then(Ab raw a 3).2 else a)∧(if k=3 then(Ab raw a 3).2 else a)≤raw.length:=by
   split
   ·exact Il raw a 3 e
   ·exact⟨Zc _,e⟩
  have l:=Il raw _ 1000 s.2;have u:=Il raw _ 8 l.2;have q:=Am raw (if k=3 then(Ab raw a 3).2 else a) 1000 (by decide);have h:=Mb _ (Ab raw (Ab raw (if k=3 then(Ab raw a 3).2 else a) 1000).2 8).1 q;have:=mO h 0 [] [];dsimp only;exact⟨by omega,u.2,by omega⟩
 split
 ·have l:=Il raw a 3 e
  obtain⟨q1,q2,q3⟩:=m (Ab raw a 3).2 l.2;dsimp only;rw[Sg _ _ _ _ (by simp)];have h:=Rc (17+(Ab raw a 3).1);have r:=Mr (g (Ab raw a 3).2).1 9 (Aj (g (Ab raw a 3).2).1);refine⟨by omega,q2,?_⟩;show(As _++Fm (g (Ab raw a 3).2).1 9 (Aj (g (Ab raw a 3).2).1)).length+64*a≤_
  rw[Zf];omega
 split
 ·have q:=Dt (Nb p raw a)
  have l:a≤(Cq sc.free sc.arrays raw a).2∧(Cq sc.free sc.arrays raw a).2≤raw.length:=by
   unfold Cq;split
   ·have j:=Il raw a 312 e
    have n:=Il raw _ 1000 j.2;exact⟨Zq j.1 n.1,n.2⟩
   ·exact Il raw a _ e
  obtain⟨q1,q2,q3⟩:=m (Cq sc.free sc.arrays raw a).2 l.2;dsimp only;rw[Rt _ _ _ _ (by simp)];refine⟨by omega,q2,?_⟩;show(_++[91]++Aj (g (Cq sc.free sc.arrays raw a).2).1++[93]).length+64*a≤_
  simp only[Zf,Zl,Zr];omega
 split
 ·unfold Hu
  split
  ·have z:=Am raw (Ab raw a 312).2 7 (by decide)
   have j:=Il raw a 312 e;have n:=Il raw _ 7 j.2;exact aC (c:=(Ab raw (Ab raw a 312).2 7).1.toNat) (b:=(Ab raw (Ab raw a 312).2 7).2) (Dt (Ja _)) (by omega) (Zq j.1 n.1) (Sx m _ _ n.2)
  ·rename_i t
   have A:=dY t;have B:=Am raw a sc.funcs.length (by omega);have o:Ak (Bc sc.funcs (Ab raw a sc.funcs.length).1.toNat).name=true∧(Bc sc.funcs (Ab raw a sc.funcs.length).1.toNat).params.length≤6:=p.funcs _ (pB (d:=Fu.nil) (i:=(Ab raw a sc.funcs.length).1.toNat) (by omega));have j:=Il raw a sc.funcs.length e;dsimp only;generalize Bc sc.funcs (Ab raw a sc.funcs.length).1.toNat=f at o ⊢;exact aC (c:=f.params.length) (Dt o.1) o.2 j.1 (Sx m _ _ j.2)
 ·have l:=Il raw a 16 e
  obtain⟨q1,q2,q3⟩:=m (Ab raw a 16).2 l.2;obtain⟨C,v,D⟩:=m (g (Ab raw a 16).2).2 q2;dsimp only;rw[Ry _ _ _ _ (by simp)];have r:=Rc (1+(Ab raw a 16).1);have x:=Mr (g (Ab raw a 16).2).1 (Ao (1+(Ab raw a 16).1)) (Aj (g (Ab raw a 16).2).1);have y:=Mr (g (g (Ab raw a 16).2).2).1 (Ao (1+(Ab raw a 16).1)+1) (Aj (g (g (Ab raw a 16).2).2).1);refine⟨by omega,v,?_⟩;show(Fm (g (Ab raw a 16).2).1 (Ao (1+(Ab raw a 16).1)) (Aj (g (Ab raw a 16).2).1)++([32]++(As _++[32]))++Fm (g (g (Ab raw a 16).2).2).1 (Ao (1+(Ab raw a 16).1)+1) (Aj (g (g (Ab raw a 16).2).2).1)).length+64*a≤_
  simp only[Zf,Zl,Zr];omega
theorem bW {sc:Sc}(k:sc.Ok)(raw:List Int)(d:Nat){g:Nat→Ex ×Nat}(j:tN raw.length g):tN raw.length (Px sc raw d g):=by
 intro a i;unfold Px
 by_cases h:raw.length≤a
 ·have e:∀n,Ab raw a n=(0,a):=fun n=>by unfold Ab;rw[if_pos h]
  have c:gK raw d a=0:=by unfold gK;rw[e];split<;>rfl
  rw[c,e];show a≤(Dg sc raw g 0 a).2∧(Dg sc raw g 0 a).2≤raw.length∧(Aj (Dg sc raw g 0 a).1).length+64*a≤1+64*(Dg sc raw g 0 a).2
  have b:Dg sc raw g 0 a=(.mk 1 0 0 [] [],a):=by
   unfold Dg;rw[if_neg (by simp),if_neg (by simp),if_pos (by decide),if_neg (by decide)];dsimp only;rw[e 1000];dsimp only;rw[e 8];rfl
  rw[b];refine⟨Zc _,i,?_⟩;rw[Qv];have:(Lib.itoa 0).length=1:=by rw[Lib.itoa,if_neg (by decide)];rw[Lib.decDigits,dif_pos (by decide)];rfl
  rw[this];exact Zc _
 ·have e:(Ab raw a 12).2=a+1:=by unfold Ab;rw[if_neg h]
  rw[e];obtain⟨l,f,m⟩:=qO k raw j (gK raw d a) (a+1) (by omega);exact⟨by omega,f,by omega⟩
theorem bN {sc:Sc}(b:sc.Ok)(raw:List Int):∀d,tN raw.length (Aw sc raw d)
 |0=>by
  rw[Aw];exact bW b raw 0 (fun a c=>⟨Zc _,c,by
   have:(Aj (Ex.nil)).length=0:=by show(Aj (.mk 0 0 0 [] [])).length=0;rw[Hl];decide
   show(Aj Ex.nil).length+64*a≤1+64*a
   omega⟩)
 |d+1=>by
  rw[Aw];exact bW b raw (d+1) (bN b raw d)
theorem Yv(a:List Int):(Aj (Mw a)).length≤6401:=by
 have c:Sc.Ok ⟨[],[],[],true,false⟩:=⟨fun x hx=>(by cases hx),fun x hx=>(by cases hx),fun x hx=>(by cases hx)⟩;have b:=(bN c (a.take 100) 6 0 (Ze _));have h:(a.take 100).length≤100:=by rw[Ya];omega
 have e:Mw a=(Aw ⟨[],[],[],true,false⟩ (a.take 100) 6 0).1:=rfl;rw[e];obtain⟨d,f,g⟩:=b;omega
end Go.Proofs.YthcpopmmlneneaaGreatDoor

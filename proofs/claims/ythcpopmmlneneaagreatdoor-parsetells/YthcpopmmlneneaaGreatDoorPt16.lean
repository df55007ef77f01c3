/-
  Rows in blocks of their own, as appends make them; what stays. No condition.
-/
import Derived.Test.YthcpopmmlneneaaGreatDoorPt15
import Derived.Lib.SlBytesConst
set_option linter.unusedVariables false
set_option linter.unusedSimpArgs false
namespace Go.Proofs.YthcpopmmlneneaaGreatDoor
open Go.RowKit Go.Proofs.Tryz
set_option maxHeartbeats 20000000
set_option maxRecDepth 100000
open Go.RowKit renaming Hid→Zq,intOf→Zt,Below→Zv
open Go renaming World→Zr,Value→Zs,bodyPost_ret→Zu,Calls→Zw
open Go.Lib renaming hid→Za,decodeL→Zf
open Go.Proofs.Tryz renaming prog→Zb,results67→Zd
open List renaming getElem?_eq_getElem→Zc,all_eq_true→Zk,getElem_mem→Zl,getElem_of_mem→Zm,mem_of_getElem?→Zo,getElem?_eq_some_iff→Zp
open Nat renaming le_refl→Ze,lt_succ_iff_lt_or_eq→Zh
open Go.RowKit.Below renaming refl→Zg
open IntWalk renaming i64_in→Zi
open Ad renaming new→Zj
open Bool renaming and_eq_true→Zn
theorem Rm:∀s:Bs,Es s=true→s.all Bu=true:=by
 intro s a;unfold Es Od at a;simp only[List.contains_cons,List.contains_nil,Bool.or_false,Bool.or_eq_true,beq_iff_eq]at a;rcases a with rfl|rfl|rfl|rfl|rfl|rfl|rfl|rfl|rfl|rfl<;>decide+kernel
theorem fZ {c:UInt8}(a:Bu c=true):c≠32:=by rintro rfl;revert a;decide
theorem rQ {i n:Nat}:(Aa Nz).extract i (i+n)=Aa ((Nz.drop i).take n):=by
 apply ByteArray.ext
 rw[ByteArray.data_extract];simp [Aa,List.extract_eq_take_drop]
theorem toList_eq(l:Bs):(Aa l).toList=l:=by rw[ByteArray.toList_eq]
theorem gA(k:Nat)(s:Bs):(((⟨#[32,105,110,116,32,105,102,32,101,108,115,101,32,119,104,105,108,101,32,98,114,101,97,107,32,99,111,110,116,105,110,117,101,32,114,101,116,117,114,110,32,112,114,105,110,116,32,114,101,97,100,32,116,114,97,112,32]⟩:ByteArray).extract k (k+s.length+2)).toList==((⟨#[32]⟩:ByteArray)++Aa s++(⟨#[32]⟩:ByteArray)).toList)=Vl k s:=by
 have a:((⟨#[32]⟩:ByteArray)++Aa s++(⟨#[32]⟩:ByteArray))=Aa (32::s++[32]):=by
  apply ByteArray.ext;simp [Aa]
 have b:=rQ (i:=k) (n:=s.length+2);rw[a];show(((Aa Nz).extract k (k+(s.length+2))).toList==_)=_
 rw[b,toList_eq,toList_eq];rfl
theorem Oi(s:Bs)(O:s.length≤1000000)(w:Zr):
  Zw Zb 110 #[.string (Aa s)] w fun e w'=>e=.returned (.bool (Es s))∧w'=w:=by
 have r:(Aa s).size=s.length:=by show s.toArray.size=_;simp
 have P:(s.length:Int)≤1000000:=by omega
 have y:=Za r;clear r;go_enter func110,ntmps110;go_wp2
 go_loopw [3] (fun m wr=> ∃k:Nat,k≤s.length∧m= ι k∧wr=w∧Zq (∀i,i<k→Bu (s.getD i 0)=true)) (fun m _=>s.length-(Zt m).toNat)
 case atStart=>exact⟨0,Nat.zero_le _,rfl,rfl,fun i a=>absurd a (by omega)⟩
 case round=>
  obtain⟨k,L,rfl,rfl,b⟩:=hrel
  by_cases hlt:k<s.length
  ·have J:∀d,(Aa s)[k]'d=s[k]:=fun _=>rfl
   have p:s.getD k 0=s[k]:=by simp [Zc hlt]
   have N:(k:Int)<(s.length:Int):=by omega
   obtain⟨F,u⟩:=Y2 hlt p;clear p;have h:=Za (Ef s[k] wr)
   cases hl:Bu s[k]
   ·have g:Es s=false:=by
     cases q:Es s
     ·rfl
     ·have f:=Zk.1 (Rm s q) s[k] (Zl hlt)
      rw[hl]at f;cases f
    have l:=Za g;rw[hl]at h;clear g hl;go_wp2_with fail;refine h.o.mono ?_;rintro e D ⟨rfl,rfl⟩;go_wp2;go_ret
    exact⟨Ae l.o.symm,rfl⟩
   ·have v:=Za hl
    rw[hl]at h;clear hl;go_wp2_with fail;refine h.o.mono ?_;rintro e D ⟨rfl,rfl⟩;go_wp2;go_roundw
    case rel=>exact⟨k+1,by omega,by go_num,by first|trivial|rfl,fun i a=>by rcases Zh.1 a with d|rfl;exact b.o i d;rw[u.o];exact v.o⟩
    case measure=>simp [Zt];omega
  ·have A:k=s.length:=by omega
   subst A;have t:Zq (∀c,c∈s→c≠32):=fun c z=>by
    obtain⟨i,a,rfl⟩:=Zm z;have:=b.o i a;rw[show s.getD i 0=s[i]by simp [Zc a]]at this;exact fZ this
   clear b;go_wp2
   go_loopw [4] (fun n E=> ∃k:Nat,k≤57∧n= ι k∧E=wr∧Zq (∀i,i<k→Vl i s=false)) (fun n _=>57-(Zt n).toNat)
   case atStart=>exact⟨0,Nat.zero_le _,rfl,rfl,fun i a=>absurd a (by omega)⟩
   case round=>
    obtain⟨k,M,rfl,rfl,b⟩:=hrel
    by_cases hne:s=[]
    ·subst hne
     go_wp2;go_ret
     exact⟨rfl,rfl⟩
    ·have K:(s==[])=false:=by rw[beq_eq_false_iff_ne];exact hne
     have Q:=y.o;have G:IntKind.i64.wrap ((k:Int)+(s.length:Int))=((k+s.length:Nat):Int):=by rw[Int.natCast_add];exact Zi _ (by omega)
     have H:IntKind.i64.wrap (((k+s.length:Nat):Int)+2)=((k+s.length+2:Nat):Int):=by rw[show((k+s.length+2:Nat):Int)=((k+s.length:Nat):Int)+2 by omega];exact Zi _ (by omega)
     have x:=Za hne;clear hne
     by_cases hlt:k+s.length+2≤57
     ·have C:((k+s.length+2:Nat):Int)≤57:=by omega
      have R:(k:Int)≤((k+s.length+2:Nat):Int):=by omega
      go_wp2_with fail
      ·rename_i j
       have hx:=(gA k s).symm.trans j;go_ret
       exact⟨Ae (word_is (by omega) x.o t.o hx).symm,rfl⟩
      ·rename_i j
       have hx:=Za ((gA k s).symm.trans j);have B:k+1≤57:=by omega
       clear j;go_roundw
       case rel=>exact⟨k+1,B,by go_num,by first|trivial|rfl,fun i a=>by rcases Zh.1 a with d|rfl;exact b.o i d;exact hx.out⟩
       case measure=>simp [Zt];omega
     ·have C:¬((k+s.length+2:Nat):Int)≤57:=by omega
      have g:Es s=false:=by
       cases q:Es s
       ·rfl
       ·obtain⟨I,f⟩:=vH s q
        rw[b.o (So s) (by omega)]at f;cases f
      have l:=Za g;clear g;go_wp2;go_ret
      exact⟨Ae l.o.symm,rfl⟩
theorem Wk:∀(b:Bool) (s:Bs),Dx b s=true→∀c,c∈s→(Bu c||Ax c)=true
 |_,[],_,c,a=>absurd a (by simp)
 |b,d::s,h,c,a=>by
  rw[Dx,Zn]at h;rcases List.mem_cons.1 a with rfl|a
  ·have e:=h.1
   cases hl:Bu c
   ·rw[hl]at e;cases hd:Ax c
    ·rw[hd]at e;simp at e
    ·rfl
   ·rfl
  ·exact Wk false s h.2 c a
theorem Vj:∀(s:Bs),(∀c,c∈s→(Bu c||Ax c)=true)→Dx false s=true
 |[],_=>rfl
 |c::s,h=>by
  rw[Dx,Vj s (fun d a=>h d (List.mem_cons_of_mem _ a))];have:=h c List.mem_cons_self;simpa using this
theorem Ie(s:Bs)(w:Zr):
  Zw Zb 73 #[.string (Aa s)] w fun e w'=>e=.returned (.bool (Ak s))∧w'=w:=by
 have A:(Aa s).size=s.length:=by show s.toArray.size=_;simp
 by_cases h0:s=[]
 ·subst h0
  go_enter func73,ntmps73;go_wp2;go_ret
  exact⟨rfl,rfl⟩
 have T:0<s.length:=List.length_pos_iff.2 h0;have U:(1:Int)≤(s.length:Int):=by omega
 by_cases h20:s.length≤20
 ·have J:(s.length:Int)≤20:=by omega
  obtain⟨c,v,P⟩:∃c,(Dx true s=(Bu c && Dx false (s.drop 1)))∧∀a,(Aa s)[0]'a=c:=by
   cases s with
   |nil=>exact absurd rfl h0
   |cons c r=>exact⟨c,by rw[Dx];simp,fun _=>rfl⟩
  have n:Ak s=(!Es s && Dx true s):=by unfold Ak;rw[decide_eq_true h20,show s.isEmpty=false by simpa using h0];simp
  have p:=Za (Ef c w)
  cases hl:Bu c
  ·have f:Ak s=false:=by rw[n,v,hl];simp
   have x:=Za f;rw[hl]at p;clear f hl n v h0 A;go_enter func73,ntmps73;go_wp2_with fail;refine p.o.mono ?_;rintro e G ⟨rfl,rfl⟩;go_wp2;go_ret
   exact⟨Ae x.o.symm,rfl⟩
  ·have E:Zq (∀b,Dx false (s.drop 1)=b→Ak s=(!Es s && b)):=fun b a=>by rw[n,v,hl,a];simp
   have D:Zq (∀i d,s[i]? =some d→(Bu d||Ax d)=false→Ak s=false):=fun i d a f=>by
    cases q:Ak s
    ·rfl
    ·rw[n,Zn]at q
     have:=Wk true s q.2 d (Zo a);rw[f]at this;cases this
   rw[hl]at p;clear hl n v h0 A;have I:=Za (Oi s (by omega) w);go_enter func73,ntmps73;go_wp2_with fail;refine p.o.mono ?_;rintro e G ⟨rfl,M⟩;subst M;go_wp2
   go_loopw [3] (fun C wr=> ∃k:Nat,k≤s.length∧C= ι k∧wr=G∧Zq (∀i d,s[i]? =some d→i<k→(Bu d||Ax d)=true)) (fun C _=>s.length-(Zt C).toNat)
   case atStart=>exact⟨0,Nat.zero_le _,rfl,rfl,fun i _ _ j=>absurd j (by omega)⟩
   case round=>
    obtain⟨k,R,rfl,rfl,u⟩:=hrel
    by_cases hlt:k<s.length
    ·obtain⟨d,z,Q⟩:∃d,s[k]? =some d∧∀a,(Aa s)[k]'a=d:=⟨s[k],Zc hlt,fun _=>rfl⟩
     have S:(k:Int)<(s.length:Int):=by omega
     obtain⟨O,m,t,l⟩:=Y4 hlt (Ef d wr) (Gx d wr) (D.o k d z);have h:Zq ((Bu d||Ax d)=true→∀i e,s[i]? =some e→i<k+1→(Bu e||Ax e)=true):=fun hx i e a j=>by
      rcases Zh.1 j with y|y
      ·exact u.o i e a y
      ·subst y;rw[z]at a;cases a;exact hx
     clear u z
     cases hl:Bu d
     ·rw[hl]at m l h
      cases hg:Ax d
      ·rw[hg]at t l
       clear hl hg h;go_wp2_with fail;refine m.o.mono ?_;rintro e w2 ⟨rfl,g⟩;subst g;go_wp2_with fail;refine t.o.mono ?_;rintro e N ⟨rfl,B⟩;subst B;go_wp2;go_ret
       exact⟨Ae (l.o rfl).symm,rfl⟩
      ·rw[hg]at t h
       clear hl hg l;go_wp2_with fail;refine m.o.mono ?_;rintro e w2 ⟨rfl,g⟩;subst g;go_wp2_with fail;refine t.o.mono ?_;rintro e N ⟨rfl,B⟩;subst B;go_wp2;go_roundw
       case rel=>exact⟨k+1,by omega,by go_num,by first|trivial|rfl,h.o rfl⟩
       case measure=>simp [Zt];omega
     ·rw[hl]at m h
      clear hl l;go_wp2_with fail;refine m.o.mono ?_;rintro e w2 ⟨rfl,g⟩;subst g;go_wp2;go_roundw
      case rel=>exact⟨k+1,by omega,by go_num,by first|trivial|rfl,h.o rfl⟩
      case measure=>simp [Zt];omega
    ·have L:k=s.length:=by omega
     subst L;have F:Dx false (s.drop 1)=true:=Vj _ (fun c K=>by
      obtain⟨i,j,rfl⟩:=Zm (List.mem_of_mem_drop K);exact u.o i _ (Zc j) j)
     have H:=Za (E.o true F);clear F u E D;go_wp2_with fail;refine I.o.mono ?_;rintro e w2 ⟨rfl,g⟩;subst g;go_wp2;go_ret
     exact⟨Ae (by rw[H.o];simp),rfl⟩
 ·have J:(20:Int)<(s.length:Int):=by omega
  have f:Ak s=false:=by unfold Ak;rw[decide_eq_false h20];simp
  have x:=Za f;clear f h0 h20 A;go_enter func73,ntmps73;go_wp2;go_ret
  exact⟨Ae x.o.symm,rfl⟩
theorem Sf(l:List Bs){D:Nat→Prop}{v:Zs}(w:Zr)(f:Bb D w l v):
  Zw Zb 74 #[v] w fun e w'=>e=.returned (.bool (l.all Ak))∧w'=w:=by
 obtain⟨a,c,b,I,rfl,L,u,y,t⟩:=f;have O:=u.lt;obtain⟨G,A⟩:=Y2 y t;clear y t u;go_enter func74,ntmps74;go_wp2
 go_loopw [3] (fun p wr=> ∃k:Nat,k≤l.length∧p= ι k∧wr=w∧Zq (∀i,i<k→Ak (l.getD i [])=true)) (fun p _=>l.length-(Zt p).toNat)
 case atStart=>exact⟨0,Nat.zero_le _,rfl,rfl,fun i h=>absurd h (by omega)⟩
 case round=>
  obtain⟨k,M,rfl,rfl,m⟩:=hrel
  by_cases hlt:k<l.length
  ·have N:(k:Int)<(l.length:Int):=by omega
   have H:=A.o k hlt;obtain rfl:a=some ⟨b,I,none⟩:=by rcases G.o with f|f;omega;exact f.1
   have r:Zq (l.getD k []=l[k]):=by show _=_;simp [Zc hlt]
   obtain⟨K,g⟩:=Y2 hlt (Ie (l.getD k []) wr);obtain⟨d,j⟩:∃d,l.getD k []=d:=⟨_,rfl⟩;have B:=Za j;have C:Zq (d∈l):=by show _∈_;rw[←j,r.o];exact Zl hlt
   rw[j]at g H;clear j r
   cases hn:Ak d
   ·rw[hn]at g
    have E:=Za hn;clear hn;go_wp2_with fail;refine g.o.mono ?_;rintro e J ⟨rfl,n⟩;subst n;go_wp2;go_ret
    exact⟨Ae (by
     cases q:l.all Ak
     ·rfl
     ·have:=Zk.1 q d C.o
      rw[E.o]at this;cases this),rfl⟩
   ·rw[hn]at g
    have F:=Za hn;clear hn;go_wp2_with fail;refine g.o.mono ?_;rintro e J ⟨rfl,n⟩;subst n;go_wp2;go_roundw
    case rel=>exact⟨k+1,by omega,by go_num,by first|trivial|rfl,fun i h=>by rcases Zh.1 h with f|rfl;exact m.o i f;rw[B.o];exact F.o⟩
    case measure=>simp [Zt];omega
  ·have s:l.all Ak=true:=Zk.2 (fun x hx=>by
    obtain⟨i,h,rfl⟩:=Zm hx;have:=m.o i (by omega);simpa [Zc h]using this)
   have z:=Za s;clear s m;go_wp2;go_ret
   exact⟨Ae z.o.symm,rfl⟩
def Wb(b:Option T4)(w:Zr)(e:Ending)(w':Zr):Prop:=(∃(k:Int) (x:Bs) (n:Int) (a:Nat),e=.returned (.tuple #[Fb k x n 0,.int .i64 (a:Int)])∧((a=0∧b=none)∨(a=x.length∧b=some (k,x,n))))∧Zv w.heap.size w w'
theorem pw_at(p:UInt8→Bool)(s:Bs)(q:Nat):(q<(s.takeWhile p).length→∃d,s[q]? =some d∧p d=true)∧(q=(s.takeWhile p).length→q<s.length→∃d,s[q]? =some d∧p d=false):=by
 obtain⟨f,g,h⟩:=It p s;obtain⟨a,i⟩:∃a,s.takeWhile p=a:=⟨_,rfl⟩;obtain⟨b,j⟩:∃b,s.dropWhile p=b:=⟨_,rfl⟩;rw[i,j]at f;rw[i]at g ⊢;rw[j]at h;have l:s.length=a.length+b.length:=by rw[f,List.length_append]
 constructor
 ·intro e
  exact⟨a[q],by rw[f,List.getElem?_append_left e,Zc e],g a[q] (Zl e)⟩
 ·intro e m
  subst e;rcases h with rfl|⟨c,n,rfl,k⟩
  ·simp at l;omega
  ·exact⟨c,by rw[f,List.getElem?_append_right (Ze _),Nat.sub_self];rfl,k⟩
theorem Vi {c:UInt8}(a:Bu c=true):Ax c=false:=by
 cases hd:Ax c with
 |false=>rfl
 |true=>
  exfalso
  rw[Sb]at a;rw[Tp]at hd;simp only[Bool.or_eq_true,Zn,decide_eq_true_eq]at a hd;omega
theorem vW(p:UInt8→Bool)(c:UInt8)(b:Bs)(a:p c=true):1≤((c::b).takeWhile p).length:=by
 rw[List.takeWhile_cons,if_pos a];simp
theorem iU{s:Bs}(c:UInt8)(W:Bs)(G:s=c::W)(F:Bu c=true)(aq:s.length≤1000000)(w:Zr):
  Zw Zb 67 #[.string (Aa s)] w (Wb (Nw s) w):=by
 obtain⟨b,H⟩:=Y2 (Zj w [ι 0,ε,ι 0,ι 0] 87) ((Zg w.heap.size w).alloc (Ze _) (.cells #[ι 0,ε,ι 0,ι 0] 87));have ap:(s.length:Int)≤1000000:=by omega
 have au:0<s.length:=by rw[G];simp
 have av:(0:Int)<(s.length:Int):=by omega
 have l2:(1:Int)≤(s.length:Int):=by omega
 have ad:∀I,(Aa s)[0]'I=c:=by subst G;exact fun _=>rfl
 have S:1≤(s.takeWhile Fi).length:=by rw[G];exact vW Fi c W (by unfold Fi;rw[F];rfl)
 have ac:=Ov Fi s;have E:=Za (pw_at Fi s);have q:=Kp s (s.takeWhile Fi).length;rw[Ls]at q;have r:Zq (Nw s=if Es (s.takeWhile Fi)=true then some (2,s.takeWhile Fi,0)else if Ak (s.takeWhile Fi)=true then some (1,s.takeWhile Fi,0)else none):=rfl;obtain⟨a,R⟩:∃a,s.takeWhile Fi=a:=⟨_,rfl⟩;rw[R]at S ac E q r;have X:=Za q;obtain⟨B,U⟩:∃B,Nw s=B:=⟨_,rfl⟩;rw[U]at r ⊢;obtain⟨L,D,M⟩:=Y3 (Vi F) (fun f=>Ef c f) (fun f=>Gx c f);rw[F]at D;rw[L.o]at M;obtain⟨aa,Z⟩:=Y2 (fun f=>Oi a (by omega) f) (fun f=>Ie a f);clear q R U G F L;go_enter func67,ntmps67;go_upto_region 3 with(fail);generalize w.alloc (.cells #[ι 0,ε,ι 0,ι 0] 87)=ai at*;go_wp2_with fail;refine(D.o _).mono ?_;rintro e f ⟨rfl,ae⟩;subst ae
 go_upto_block 0 with(fail);go_cut [5] (fun n K=>n= ι (a.length:Int)∧K=f)
 case first=>
  go_wp2
  go_loopw [5] (fun n K=> ∃k:Nat,n= ι (k:Int)∧1≤k∧k≤a.length∧K=f) (fun n _=>s.length-(Zt n).toNat)
  case atStart=>exact⟨1,rfl,Ze _,S,rfl⟩
  case round=>
   obtain⟨k,rfl,an,ao,rfl⟩:=hrel;have al:IntKind.i64.wrap ((k:Int)+1)=(k:Int)+1:=Zi _ (by omega)
   by_cases hlt:k<s.length
   ·have ah:(k:Int)<(s.length:Int):=by omega
    have ar:(0:Int)≤(k:Int):=by omega
    obtain⟨d,z⟩:∃d,s[k]=d:=⟨_,rfl⟩;have am:∀I,(Aa s)[k]'I=d:=fun _=>z
    have A:s[k]? =some d:=by rw[Zc hlt,z]
    obtain⟨p,C⟩:=Y2 (fun f=>Ef d f) (fun f=>Gx d f)
    by_cases l:k=a.length
    ·obtain⟨ab,i,h⟩:=(E.o k).2 l hlt
     have Y:=Za l;clear l;rw[A]at i;injection i with i
     subst i;unfold Fi at h;have j:Bu d=false:=by revert h;cases Bu d<;>simp
     have g:Ax d=false:=by revert h;cases Ax d<;>simp
     rw[j]at p;rw[g]at C;clear z h A j g;go_wp2_with fail;refine(p.o _).mono ?_;rintro e w2 ⟨rfl,m⟩;subst m;go_wp2_with fail;refine(C.o _).mono ?_;rintro e J ⟨rfl,o⟩;subst o;go_wp2;go_meet;exact⟨by rw[Y.o],by first|trivial|rfl⟩
    ·obtain⟨ab,i,h⟩:=(E.o k).1 (by omega)
     rw[A]at i;injection i with i
     subst i;have T:k+1≤a.length:=by omega
     unfold Fi at h
     cases hl:Bu d with
     |true=>
      rw[hl]at p;clear z h A l hl;go_wp2_with fail;refine(p.o _).mono ?_;rintro e w2 ⟨rfl,m⟩;subst m;go_wp2_with fail;refine(D.o _).mono ?_;rintro e J ⟨rfl,o⟩;subst o;go_wp2;go_roundw
      case rel=>exact⟨k+1,by go_num,by omega,T,by first|trivial|rfl⟩
      case measure=>simp [Zt];omega
     |false=>
      have g:Ax d=true:=by rw[hl]at h;simpa using h
      rw[hl]at p;rw[g]at C;clear z h A l hl g;go_wp2_with fail;refine(p.o _).mono ?_;rintro e w2 ⟨rfl,m⟩;subst m;go_wp2_with fail;refine(C.o _).mono ?_;rintro e J ⟨rfl,o⟩;subst o;go_wp2;go_roundw
      case rel=>exact⟨k+1,by go_num,by omega,T,by first|trivial|rfl⟩
      case measure=>simp [Zt];omega
   ·have ah:¬(k:Int)<(s.length:Int):=by omega
    have l:k=a.length:=by omega
    go_wp2;go_meet;exact⟨by first|rfl|rw[l],by first|trivial|rfl⟩
 case rest=>
 obtain⟨rfl,ag⟩:=hcut;subst ag;have aj:(a.length:Int)≤(s.length:Int):=by omega
 have ak:(0:Int)≤(a.length:Int):=by omega
 have q:=X.o;clear ad D E;go_wp2_with fail;refine(aa.o _).mono ?_;rintro e w2 ⟨rfl,m⟩;subst m;clear q;go_wp2_with fail;refine(Z.o _).mono ?_;rintro e J ⟨rfl,o⟩;subst o;go_wp2_with fail;refine(M.o _).mono ?_;rintro e aw ⟨rfl,af⟩;subst af
 cases hw:Es a with
 |true=>
  have u:Zq (B=some (2,a,0)):=by show _=_;rw[r.o,if_pos hw]
  obtain ⟨q0, q1, q2, q3⟩ := τ4 b.o;have N:=b.o.fz 0;have O:=b.o.fz 1;have P:=b.o.fz 2;have Q:=b.o.fz 3;have V:=b.o.lt;go_wp2_with fail;have t:=Za ((((b.o.set 0 (ι 2)).set 1 (σ a)).set 2 (ι 0)).set 3 (ι 0));obtain ⟨x, j, g, y⟩ := τ4 t.o;exact Zu (v:=.tuple #[Fb 2 a 0 0,ι (a.length:Int)]) (by simp [results,Zd,go_sem,Fb,x,j,g,y]) rfl ⟨⟨2,a,0,_,rfl,.inr ⟨rfl,u.o⟩⟩,Lp w H.o⟩
 |false=>
  cases hn:Ak a with
  |true=>
   have u:Zq (B=some (1,a,0)):=by show _=_;rw[r.o,if_neg (by rw[hw];decide),if_pos hn]
   obtain ⟨q0, q1, q2, q3⟩ := τ4 b.o;have N:=b.o.fz 0;have O:=b.o.fz 1;have P:=b.o.fz 2;have Q:=b.o.fz 3;have V:=b.o.lt;go_wp2_with fail;have t:=Za ((((b.o.set 0 (ι 1)).set 1 (σ a)).set 2 (ι 0)).set 3 (ι 0));obtain ⟨x, j, g, y⟩ := τ4 t.o;exact Zu (v:=.tuple #[Fb 1 a 0 0,ι (a.length:Int)]) (by simp [results,Zd,go_sem,Fb,x,j,g,y]) rfl ⟨⟨1,a,0,_,rfl,.inr ⟨rfl,u.o⟩⟩,Lp w H.o⟩
  |false=>
   have u:Zq (B=none):=by show _=_;rw[r.o,if_neg (by rw[hw];decide),if_neg (by rw[hn];decide)]
   obtain ⟨q0, q1, q2, q3⟩ := τ4 b.o;have N:=b.o.fz 0;have O:=b.o.fz 1;have P:=b.o.fz 2;have Q:=b.o.fz 3;have V:=b.o.lt;go_wp2_with fail;have t:=Za ((((b.o.set 0 (ι 0)).set 1 (.string (Aa []))).set 2 (ι 0)).set 3 (ι 0));obtain ⟨x, j, g, y⟩ := τ4 t.o;exact Zu (v:=.tuple #[Fb 0 [] 0 0,ι ((0:Nat):Int)]) (by simp [results,Zd,go_sem,Fb,x,j,g,y]) rfl ⟨⟨0,[],0,_,rfl,.inl ⟨rfl,u.o⟩⟩,Lp w H.o⟩
theorem oT{s:Bs}(c:UInt8)(ae:Bs)(y:s=c::ae)(H:Bu c=false)(E:Ax c=true)(aG:s.length≤1000000)(w:Zr):
  Zw Zb 67 #[.string (Aa s)] w (Wb (Sw s) w):=by
 obtain⟨g,U⟩:=Y2 (Zj w [ι 0,ε,ι 0,ι 0] 87) ((Zg w.heap.size w).alloc (Ze _) (.cells #[ι 0,ε,ι 0,ι 0] 87));have aF:(s.length:Int)≤1000000:=by omega
 have aI:0<s.length:=by rw[y];simp
 have aJ:(0:Int)<(s.length:Int):=by omega
 have l2:(1:Int)≤(s.length:Int):=by omega
 have ao:∀u,(Aa s)[0]'u=c:=by subst y;exact fun _=>rfl
 have aa:1≤(s.takeWhile Ax).length:=by rw[y];exact vW Ax c ae E
 have an:=Ov Ax s;have A:=Za (pw_at Ax s);have p:=Kp s (s.takeWhile Ax).length;rw[Ls]at p;have D:∀d,d∈s.takeWhile Ax→Ax d=true:=(It Ax s).2.1;have x:∃t,s.takeWhile Ax=c::t:=by rw[y,List.takeWhile_cons,if_pos E];exact⟨_,rfl⟩
 have B:Sw s=if 0≤Gv (s.takeWhile Ax)then some (3,s.takeWhile Ax,Gv (s.takeWhile Ax))else none:=by
  have am:s.takeWhile Ax≠[]:=by obtain⟨t,aq⟩:=x;rw[aq];simp
  have b:=num_law (s.takeWhile Ax) am D;unfold Sw;obtain⟨a,C⟩:∃a,s.takeWhile Ax=a:=⟨_,rfl⟩;rw[C]at b ⊢
  cases hat:Lib.atoiAll a with
  |ok n=>
   rw[hat]at b;dsimp only at b ⊢
   by_cases hi:Lib.itoa n=a
   ·rw[if_pos hi]at b ⊢
    by_cases h1:0≤Gv a
    ·rw[if_pos h1]at b ⊢
     injection b with b
     rw[b]
    ·rw[if_neg h1]at b;cases b
   ·rw[if_neg hi]at b ⊢
    by_cases h1:0≤Gv a
    ·rw[if_pos h1]at b;cases b
    ·rw[if_neg h1]
  |_=>
   rw[hat]at b;dsimp only at b ⊢
   by_cases h1:0≤Gv a
   ·rw[if_pos h1]at b;cases b
   ·rw[if_neg h1]
 obtain⟨a,C⟩:∃a,s.takeWhile Ax=a:=⟨_,rfl⟩;rw[C]at aa an A p B D x;have ac:Es a=false:=by
  cases hw:Es a with
  |false=>rfl
  |true=>
   obtain⟨t,rfl⟩:=x;have:=Zk.1 (Rm _ hw) c List.mem_cons_self;rw[H]at this;cases this
 have ab:Ak a=false:=by
  cases hw:Ak a with
  |false=>rfl
  |true=>
   obtain⟨t,rfl⟩:=x;unfold Ak at hw;simp only[Zn]at hw;have Z:=hw.2;rw[Dx,H]at Z;simp at Z
 have af:=Za p;obtain⟨I,ad⟩:∃I,Sw s=I:=⟨_,rfl⟩;rw[ad]at B ⊢;obtain⟨V,z,J⟩:=Y3 B (fun f=>Ef c f) (fun f=>Gx c f);rw[H]at z;rw[E]at J;obtain⟨Y,X,ag⟩:=Y3 (fun f=>Oi a (by omega) f) (fun f=>Ie a f) (fun f=>vU a D f);rw[ac]at Y;rw[ab]at X;clear p C ad y E H B D x ac ab;go_enter func67,ntmps67;go_upto_region 3 with(fail);generalize w.alloc (.cells #[ι 0,ε,ι 0,ι 0] 87)=ay at*;go_wp2_with fail;refine(z.o _).mono ?_;rintro e f ⟨rfl,Q⟩;subst Q;go_wp2_with fail;refine(J.o _).mono ?_;rintro e f ⟨rfl,Q⟩;subst Q
 go_upto_block 0 with(fail);go_cut [5] (fun n T=>n= ι (a.length:Int)∧T=f)
 case first=>
  go_wp2
  go_loopw [5] (fun n T=> ∃k:Nat,n= ι (k:Int)∧1≤k∧k≤a.length∧T=f) (fun n _=>s.length-(Zt n).toNat)
  case atStart=>exact⟨1,rfl,Ze _,aa,rfl⟩
  case round=>
   obtain⟨k,rfl,aD,aE,rfl⟩:=hrel;have aB:IntKind.i64.wrap ((k:Int)+1)=(k:Int)+1:=Zi _ (by omega)
   by_cases hlt:k<s.length
   ·have av:(k:Int)<(s.length:Int):=by omega
    have aH:(0:Int)≤(k:Int):=by omega
    obtain⟨d,F⟩:∃d,s[k]=d:=⟨_,rfl⟩;have aC:∀u,(Aa s)[k]'u=d:=fun _=>F
    have G:s[k]? =some d:=by rw[Zc hlt,F]
    obtain⟨o,r⟩:=Y2 (fun f=>Ef d f) (fun f=>Gx d f)
    by_cases q:k=a.length
    ·obtain⟨ah,h,i⟩:=(A.o k).2 q hlt
     have W:=Za q;clear q;rw[G]at h;injection h with h
     subst h;rw[i]at r;clear F i G
     cases j:Bu d with
     |false=>
      rw[j]at o;clear j;go_wp2_with fail;refine(o.o _).mono ?_;rintro e w2 ⟨rfl,l⟩;subst l;go_wp2_with fail;refine(r.o _).mono ?_;rintro e S ⟨rfl,m⟩;subst m;go_wp2;go_meet;exact⟨by rw[W.o],by first|trivial|rfl⟩
     |true=>
      rw[j]at o;clear j;go_wp2_with fail;refine(o.o _).mono ?_;rintro e w2 ⟨rfl,l⟩;subst l;go_wp2_with fail;refine(z.o _).mono ?_;rintro e ax ⟨rfl,R⟩;subst R;go_wp2_with fail;refine(r.o _).mono ?_;rintro e S ⟨rfl,m⟩;subst m;go_wp2;go_meet;exact⟨by rw[W.o],by first|trivial|rfl⟩
    ·obtain⟨ah,h,i⟩:=(A.o k).1 (by omega)
     rw[G]at h;injection h with h
     subst h;have ap:k+1≤a.length:=by omega
     have j:Bu d=false:=by
      cases u:Bu d with
      |false=>rfl
      |true=>rw[Vi u]at i;cases i
     rw[j]at o;rw[i]at r;clear F i G q j;go_wp2_with fail;refine(o.o _).mono ?_;rintro e w2 ⟨rfl,l⟩;subst l;go_wp2_with fail;refine(r.o _).mono ?_;rintro e S ⟨rfl,m⟩;subst m;go_wp2;go_roundw
     case rel=>exact⟨k+1,by go_num,by omega,ap,by first|trivial|rfl⟩
     case measure=>simp [Zt];omega
   ·have av:¬(k:Int)<(s.length:Int):=by omega
    have q:k=a.length:=by omega
    go_wp2;go_meet;exact⟨by first|rfl|rw[q],by first|trivial|rfl⟩
 case rest=>
 obtain⟨rfl,au⟩:=hcut;subst au;have az:(a.length:Int)≤(s.length:Int):=by omega
 have aA:(0:Int)≤(a.length:Int):=by omega
 have p:=af.o;clear ao z A;go_wp2_with fail;refine(Y.o _).mono ?_;rintro e w2 ⟨rfl,l⟩;subst l;clear p;go_wp2_with fail;refine(X.o _).mono ?_;rintro e S ⟨rfl,m⟩;subst m;go_wp2_with fail;refine(J.o _).mono ?_;rintro e ax ⟨rfl,R⟩;subst R;go_wp2_with fail;refine(ag.o _).mono ?_;rintro e aK ⟨rfl,ar⟩;subst ar
 by_cases hv:0≤Gv a
 ·have L:Zq (I=some (3,a,Gv a)):=by show _=_;rw[V.o,if_pos hv]
  generalize Gv a=v at*;obtain ⟨q0, q1, q2, q3⟩ := τ4 g.o;have ai:=g.o.fz 0;have aj:=g.o.fz 1;have ak:=g.o.fz 2;have al:=g.o.fz 3;have aw:=g.o.lt;go_wp2_with fail;have K:=Za ((((g.o.set 0 (ι 3)).set 1 (σ a)).set 2 (ι v)).set 3 (ι 0));obtain ⟨M, N, O, P⟩ := τ4 K.o;exact Zu (v:=.tuple #[Fb 3 a v 0,ι (a.length:Int)]) (by simp [results,Zd,go_sem,Fb,M,N,O,P]) rfl ⟨⟨3,a,v,_,rfl,.inr ⟨rfl,L.o⟩⟩,Lp w U.o⟩
 ·have L:Zq (I=none):=by show _=_;rw[V.o,if_neg hv]
  generalize Gv a=v at*;obtain ⟨q0, q1, q2, q3⟩ := τ4 g.o;have ai:=g.o.fz 0;have aj:=g.o.fz 1;have ak:=g.o.fz 2;have al:=g.o.fz 3;have aw:=g.o.lt;go_wp2_with fail;have K:=Za ((((g.o.set 0 (ι 0)).set 1 (.string (Aa []))).set 2 (ι 0)).set 3 (ι 0));obtain ⟨M, N, O, P⟩ := τ4 K.o;exact Zu (v:=.tuple #[Fb 0 [] 0 0,ι ((0:Nat):Int)]) (by simp [results,Zd,go_sem,Fb,M,N,O,P]) rfl ⟨⟨0,[],0,_,rfl,.inl ⟨rfl,L.o⟩⟩,Lp w U.o⟩
theorem oQ{s:Bs}(c:UInt8)(P:Bs)(h:s=c::P)(y:c=39)(O:s.length≤1000000)(w:Zr):
  Zw Zb 67 #[.string (Aa s)] w (Wb (Oq s) w):=by
 obtain⟨t,m⟩:=Y2 (Zj w [ι 0,ε,ι 0,ι 0] 87) ((Zg w.heap.size w).alloc (Ze _) (.cells #[ι 0,ε,ι 0,ι 0] 87));have X:(s.length:Int)≤1000000:=by omega
 have aa:0<s.length:=by rw[h];simp
 have ab:(0:Int)<(s.length:Int):=by omega
 have l2:(1:Int)≤(s.length:Int):=by omega
 have M:∀K,(Aa s)[0]'K=c:=by subst h;exact fun _=>rfl
 have u:Oq s=Ln s:=by rw[h,y];rfl
 have f:(Sr s).2≤s.length∧(((Sr s).2=0∧Oq s=none)∨((Sr s).2=(s.take (Sr s).2).length∧Oq s=some (3,s.take (Sr s).2,(Sr s).1))):=by
  unfold Sr
  cases a:Oq s with
  |none=>exact⟨Nat.zero_le _,.inl ⟨rfl,rfl⟩⟩
  |some q=>
   obtain⟨k,x,n⟩:=q;have L:k=3:=by
    unfold Oq at a;split at a
    ·cases a
    ·split at a
     ·injection a with a;injection a with a;exact a.symm
     ·cases a
   subst L;rw[u]at a;obtain⟨ad,B,_,_⟩:=Ux a;have N:x.length≤s.length:=by have:=congrArg List.length B;rw[List.length_append]at this;omega
   have A:s.take x.length=x:=by
    have:=congrArg (List.take x.length) B;rw[List.take_left]at this;exact this
   refine⟨N,.inr ⟨?_,?_⟩⟩
   ·show x.length=(s.take x.length).length
    rw[A]
   ·show some (3,x,n)=some (3,s.take x.length,n)
    rw[A]
 have i:=Za (fun d=>sN s (by rw[h];simp) O d);have g:=Kp s (Sr s).2;obtain⟨⟨v,k⟩,z⟩:∃q,Sr s=q:=⟨_,rfl⟩;rw[z]at f i g;dsimp only at f i g;obtain⟨W,f⟩:=f;obtain⟨F,D⟩:=Y2 f g;have Y:(k:Int)≤(s.length:Int):=by omega
 have Z:(0:Int)≤(k:Int):=by omega
 subst y;obtain⟨r,p⟩:=Y2 (fun d=>Ef 39 d) (fun d=>Gx 39 d);rw[show Bu 39=false by decide]at r;rw[show Ax 39=false by decide]at p;clear u f h z g;go_enter func67,ntmps67;go_upto_region 3 with(fail);have Q:Zq (w.heap.size<(w.alloc (.cells #[ι 0,ε,ι 0,ι 0] 87)).heap.size):=t.o.lt;generalize w.alloc (.cells #[ι 0,ε,ι 0,ι 0] 87)=R at*;go_wp2_with fail;refine(r.o _).mono ?_;rintro e d ⟨rfl,l⟩;subst l;go_wp2_with fail;refine(p.o _).mono ?_;rintro e d ⟨rfl,l⟩;subst l;clear M;go_wp2_with fail;refine(i.o _).mono ?_;rintro e w2 ⟨rfl,j⟩;obtain⟨C,b⟩:=Y2 (m.o.trans (j.mono m.o.size)) (t.o.old j);have g:=D.o;clear j;obtain ⟨q0, q1, q2, q3⟩ := τ4 b.o;have S:=b.o.fz 0;have T:=b.o.fz 1;have U:=b.o.fz 2;have V:=b.o.fz 3;have ac:=b.o.lt;go_wp2_with fail;have E:=Za ((((b.o.set 0 (ι 3)).set 1 (σ (s.take k))).set 2 (ι v)).set 3 (ι 0));obtain ⟨G, H, I, J⟩ := τ4 E.o;exact Zu (v:=.tuple #[Fb 3 (s.take k) v 0,ι (k:Int)]) (by simp [results,Zd,go_sem,Fb,G,H,I,J]) rfl ⟨⟨3,(s.take k),v,_,rfl,F.o⟩,Lp w C.o⟩
def Tl:List Bs:=[[61,61],[33,61],[60,61],[62,61],[60,60],[62,62]]
def Yy:Bs:=[40,41,123,125,91,93,44,59,61,124,94,38,43,45,42,47,37,33,126,60,62]
theorem two_at(j:Nat)(b:j<6):∃x,Tl[j]? =some x∧x.length=2∧([.string ⟨#[61,61]⟩,.string ⟨#[33,61]⟩,.string ⟨#[60,61]⟩,.string ⟨#[62,61]⟩,.string ⟨#[60,60]⟩,.string ⟨#[62,62]⟩]:List Zs)[j]? =some (.string (Aa x)):=by
 have e:([.string ⟨#[61,61]⟩,.string ⟨#[33,61]⟩,.string ⟨#[60,61]⟩,.string ⟨#[62,61]⟩,.string ⟨#[60,60]⟩,.string ⟨#[62,62]⟩]:List Zs)=Tl.map (fun x=> σ x):=rfl;have a:j<Tl.length:=b;refine⟨Tl[j],Zc a,?_,by rw[e,List.getElem?_map,Zc a];rfl⟩;have:∀x,x∈Tl→x.length=2:=by decide
 exact this _ (Zl a)
theorem yO(j:Nat)(b:j<21):∃d,Yy[j]? =some d∧([.int .u8 40,.int .u8 41,.int .u8 123,.int .u8 125,.int .u8 91,.int .u8 93,.int .u8 44,.int .u8 59,.int .u8 61,.int .u8 124,.int .u8 94,.int .u8 38,.int .u8 43,.int .u8 45,.int .u8 42,.int .u8 47,.int .u8 37,.int .u8 33,.int .u8 126,.int .u8 60,.int .u8 62]:List Zs)[j]? =some (.int .u8 (d.toNat:Int)):=by
 have e:([.int .u8 40,.int .u8 41,.int .u8 123,.int .u8 125,.int .u8 91,.int .u8 93,.int .u8 44,.int .u8 59,.int .u8 61,.int .u8 124,.int .u8 94,.int .u8 38,.int .u8 43,.int .u8 45,.int .u8 42,.int .u8 47,.int .u8 37,.int .u8 33,.int .u8 126,.int .u8 60,.int .u8 62]:List Zs)=Yy.map (fun d=>.int .u8 (d.toNat:Int)):=rfl;have a:j<Yy.length:=b;exact⟨Yy[j],Zc a,by rw[e,List.getElem?_map,Zc a];rfl⟩
theorem fP {w:Zr}{a:List Zs}{b:TypeId}{c:Nat ×Nat}{j:Nat}{v:Zs}(d:a[j]? =some v):(w.alloc (.cells a.toArray b c)).cell? ⟨w.heap.size,j,none⟩=some v:=by
 have e:(w.alloc (.cells a.toArray b c)).heap[w.heap.size]? =some (.cells a.toArray b c):=Array.getElem?_push_size;rw[Lib.cell_of_heap e];simpa using d
theorem bZ(a b:UInt8):Ga [a,b]=true↔[a,b]∈Tl:=by simp [Ga,Pa,Tl]
theorem Vb(a:UInt8):Ga [a]=true↔a∈Yy:=by simp [Ga,Pa,Yy]
def nG(s:Bs):Prop:=s.length<2∨s.take 2 ∉ Tl
theorem pF {s x:Bs}(c:s.take 2=x)(hx:x∈Tl):Hq s=some (4,x,0):=by
 unfold Hq;have d:x.length=2:=by
  have:∀x,x∈Tl→x.length=2:=by decide
  exact this x hx
 match x,d with
 |[a,b],_=>rw[c,if_pos ((bZ a b).2 hx)]
theorem aP {s:Bs}{c:UInt8}(h:∃b,s=c::b)(a:nG s)(e:c∈Yy):Hq s=some (4,[c],0):=by
 obtain⟨b,rfl⟩:=h;unfold Hq
 cases b with
 |nil=>rw[show([c]:Bs).take 2=[c]from rfl,if_pos ((Vb c).2 e)]
 |cons d b=>
  have g:(c::d::b).take 2=[c,d]:=rfl;rcases a with a|a
  ·simp at a;omega
  ·rw[g]at a ⊢
   rw[if_neg (fun f=>a ((bZ c d).1 f))];show(if Ga [c]=true then some (4,[c],0)else none)=_
   rw[if_pos ((Vb c).2 e)]
theorem gX {s:Bs}{c:UInt8}(i:∃a,s=c::a)(b:nG s)(f:c ∉ Yy):Hq s=none:=by
 obtain⟨a,rfl⟩:=i;unfold Hq;have g:(c::a).take 1=[c]:=by cases a<;>rfl
 rw[g,if_neg (show ¬Ga [c]=true from fun e=>f ((Vb c).1 e))]
 cases a with
 |nil=>rw[show([c]:Bs).take 2=[c]from rfl,if_neg (fun e=>f ((Vb c).1 e))]
 |cons d a=>
  have h:(c::d::a).take 2=[c,d]:=rfl;rcases b with b|b
  ·simp at b;omega
  ·rw[h]at b ⊢
   rw[if_neg (fun e=>b ((bZ c d).1 e))]
theorem jP{s:Bs}(c:UInt8)(N:Bs)(L:s=c::N)(al:Bu c=false)(ah:Ax c=false)(af:c≠39)(aG:s.length≤1000000)(w:Zr):
  Zw Zb 67 #[.string (Aa s)] w (Wb (Hq s) w):=by
 obtain⟨ac,O⟩:=Y2 (Zj w [ι 0,ε,ι 0,ι 0] 87) ((Zg w.heap.size w).alloc (Ze _) (.cells #[ι 0,ε,ι 0,ι 0] 87));have aE:(s.length:Int)≤1000000:=by omega
 have aH:0<s.length:=by rw[L];simp
 have aI:(0:Int)<(s.length:Int):=by omega
 have l2:(1:Int)≤(s.length:Int):=by omega
 have ax:∀b,(Aa s)[0]'b=c:=by subst L;exact fun _=>rfl
 have Q:Zq (∃N,s=c::N):=⟨N,L⟩;have M:=Kp s 1;rw[show s.take 1=[c]by rw[L];cases N<;>rfl]at M;obtain⟨ae,au⟩:=Y2 M (Kp s 2);have ap:((c.toNat:Int)==39)=false:=by rw[beq_eq_false_iff_ne];intro b;exact af (UInt8.toNat_inj.1 (by show _=39;omega))
 have aK:¬(c.toNat:Int)=39:=by rw[beq_eq_false_iff_ne]at ap;exact ap
 obtain⟨X,D⟩:=Y2 (fun g=>Ef c g) (fun g=>Gx c g);rw[al]at X;rw[ah]at D;clear L al ah af M;go_enter func67,ntmps67;go_upto_region 3 with(fail);generalize w.alloc (.cells #[ι 0,ε,ι 0,ι 0] 87)=aC at*;go_wp2_with fail;refine(X.o _).mono ?_;rintro e g ⟨rfl,aa⟩;subst aa;go_wp2_with fail;refine(D.o _).mono ?_;rintro e g ⟨rfl,aa⟩;subst aa;clear ax X D
 by_cases hlen:2≤s.length
 ·have aB:(1:Int)<(s.length:Int):=by omega
  have aJ:(2:Int)≤(s.length:Int):=by omega
  have Z:Zv g.heap.size g (g.alloc (.cells #[.string ⟨#[61,61]⟩,.string ⟨#[33,61]⟩,.string ⟨#[60,61]⟩,.string ⟨#[62,61]⟩,.string ⟨#[60,60]⟩,.string ⟨#[62,62]⟩] 9)):=bA;obtain⟨ad,z,W⟩:=Y3 (Zj g [.string ⟨#[61,61]⟩,.string ⟨#[33,61]⟩,.string ⟨#[60,61]⟩,.string ⟨#[62,61]⟩,.string ⟨#[60,60]⟩,.string ⟨#[62,62]⟩] 9) (ac.o.old Z) (O.o.trans (Z.mono O.o.size));clear Z
  go_upto_block 3 with(fail);generalize g.alloc (.cells #[.string ⟨#[61,61]⟩,.string ⟨#[33,61]⟩,.string ⟨#[60,61]⟩,.string ⟨#[62,61]⟩,.string ⟨#[60,60]⟩,.string ⟨#[62,62]⟩] 9)=w2 at*;generalize g.heap.size=aD at*;go_cut [] (fun F=>s.take 2 ∉ Tl∧F=w2)
  case first=>
   go_wp2
   go_loopw [94] (fun i F=> ∃j:Nat,i= ι (j:Int)∧j≤6∧F=w2∧Zq (∀q,q<j→Tl[q]? ≠some (s.take 2))) (fun i _=>6-(Zt i).toNat)
   case atStart=>exact⟨0,rfl,by omega,rfl,fun q f=>absurd f (by omega)⟩
   case round=>
    obtain⟨j,rfl,ai,rfl,u⟩:=hrel
    by_cases hlt:j<6
    ·have aj:(j:Int)<6:=by omega
     have ak:(0:Int)≤(j:Int):=by omega
     obtain⟨x,A,an,B⟩:=two_at j hlt;have ao:=ad.o.at j _ B;have kl:=ad.o.lt;obtain⟨t,aq⟩:=Y2 A an;have ag:IntKind.i64.wrap ((j:Int)+1)=(j:Int)+1:=Zi _ (by omega);have aF:=au.o;clear A B an
     by_cases hxe:s.take 2=x
     ·have k:Zq (Hq s=some (4,x,0)):=pF hxe (Zo t.o)
      have ay:(s.take 2==x)=true:=by rw[beq_iff_eq];exact hxe
      clear hxe;generalize s.take 2=y at*;obtain ⟨q0, q1, q2, q3⟩ := τ4 z.o;have R:=z.o.fz 0;have S:=z.o.fz 1;have T:=z.o.fz 2;have U:=z.o.fz 3;have V:=z.o.lt;go_wp2_with fail;have h:=Za ((((z.o.set 0 (ι 4)).set 1 (σ x)).set 2 (ι 0)).set 3 (ι 0));obtain ⟨l, m, p, r⟩ := τ4 h.o;exact Zu (v:=.tuple #[Fb 4 x 0 0,ι 2]) (by simp [results,Zd,go_sem,Fb,l,m,p,r]) rfl ⟨⟨4,x,0,_,rfl,.inr ⟨aq.o.symm,k.o⟩⟩,Lp w W.o⟩
     ·have ay:(s.take 2==x)=false:=by rw[beq_eq_false_iff_ne];exact hxe
      have av:=Za hxe;clear hxe;generalize s.take 2=y at*;go_wp2;go_roundw
      case rel=>exact⟨j+1,by go_num,by omega,by first|trivial|rfl,fun q f=>by
       rcases Zh.1 f with b|b
       ·exact u.o q b
       ·subst b;rw[t.o];intro e;injection e with e;exact av.o e.symm⟩
      case measure=>simp [Zt];omega
    ·obtain rfl:j=6:=by omega
     have ar:Zq (s.take 2 ∉ Tl):=fun I=>by
      obtain⟨q,f⟩:=List.getElem?_of_mem I;have K:q<6:=(Zp.1 f).1;exact u.o q K f
     go_wp2;go_meet;exact⟨ar.o,by first|trivial|rfl⟩
  case rest=>
  obtain⟨am,aA⟩:=hcut;subst aA;have H:Zq (nG s):=.inr am;clear am;have E:Zv wc.heap.size wc (wc.alloc (.cells #[.int .u8 40,.int .u8 41,.int .u8 123,.int .u8 125,.int .u8 91,.int .u8 93,.int .u8 44,.int .u8 59,.int .u8 61,.int .u8 124,.int .u8 94,.int .u8 38,.int .u8 43,.int .u8 45,.int .u8 42,.int .u8 47,.int .u8 37,.int .u8 33,.int .u8 126,.int .u8 60,.int .u8 62] 5 (21,22))):=bA;have Y:Zq (∀j d,([.int .u8 40,.int .u8 41,.int .u8 123,.int .u8 125,.int .u8 91,.int .u8 93,.int .u8 44,.int .u8 59,.int .u8 61,.int .u8 124,.int .u8 94,.int .u8 38,.int .u8 43,.int .u8 45,.int .u8 42,.int .u8 47,.int .u8 37,.int .u8 33,.int .u8 126,.int .u8 60,.int .u8 62]:List Zs)[j]? =some d→(wc.alloc (.cells #[.int .u8 40,.int .u8 41,.int .u8 123,.int .u8 125,.int .u8 91,.int .u8 93,.int .u8 44,.int .u8 59,.int .u8 61,.int .u8 124,.int .u8 94,.int .u8 38,.int .u8 43,.int .u8 45,.int .u8 42,.int .u8 47,.int .u8 37,.int .u8 33,.int .u8 126,.int .u8 60,.int .u8 62] 5 (21,22))).cell? ⟨wc.heap.size,j,none⟩=some d∧wc.heap.size<(wc.alloc (.cells #[.int .u8 40,.int .u8 41,.int .u8 123,.int .u8 125,.int .u8 91,.int .u8 93,.int .u8 44,.int .u8 59,.int .u8 61,.int .u8 124,.int .u8 94,.int .u8 38,.int .u8 43,.int .u8 45,.int .u8 42,.int .u8 47,.int .u8 37,.int .u8 33,.int .u8 126,.int .u8 60,.int .u8 62] 5 (21,22))).heap.size):=fun j d b=>⟨fP b,by simp⟩
  have kc:=fun(w:Zr) (C:Array Zs) (n c:Nat)=>Lib.run_convert_bytes_const (P:=Zb) w 54 5 C n c underlying54 underlying5
  obtain⟨a,G⟩:=Y2 (z.o.old E) (W.o.trans (E.mono W.o.size));clear E;go_wp2_with fail;clear kc;generalize wc.alloc (.cells #[.int .u8 40,.int .u8 41,.int .u8 123,.int .u8 125,.int .u8 91,.int .u8 93,.int .u8 44,.int .u8 59,.int .u8 61,.int .u8 124,.int .u8 94,.int .u8 38,.int .u8 43,.int .u8 45,.int .u8 42,.int .u8 47,.int .u8 37,.int .u8 33,.int .u8 126,.int .u8 60,.int .u8 62] 5 (21,22))=ab at*;generalize wc.heap.size=aw at*
  go_loopw [108] (fun i F=> ∃j:Nat,i= ι (j:Int)∧j≤21∧F=ab∧Zq (∀q,q<j→Yy[q]? ≠some c)) (fun i _=>21-(Zt i).toNat)
  case atStart=>exact⟨0,rfl,by omega,rfl,fun q f=>absurd f (by omega)⟩
  case round=>
   obtain⟨j,rfl,ai,rfl,u⟩:=hrel
   by_cases hlt:j<21
   ·have aj:(j:Int)<21:=by omega
    have ak:(0:Int)≤(j:Int):=by omega
    obtain⟨d,A,B⟩:=yO j hlt;obtain⟨ao,kl⟩:=Y.o j _ B;have t:=Za A;have ag:IntKind.i64.wrap ((j:Int)+1)=(j:Int)+1:=Zi _ (by omega);clear A B
    by_cases hdc:d=c
    ·subst hdc
     have k:Zq (Hq s=some (4,[d],0)):=aP Q.o H.o (Zo t.o);have M:=ae.o;obtain ⟨q0, q1, q2, q3⟩ := τ4 a.o;have R:=a.o.fz 0;have S:=a.o.fz 1;have T:=a.o.fz 2;have U:=a.o.fz 3;have V:=a.o.lt;go_wp2_with fail;have h:=Za ((((a.o.set 0 (ι 4)).set 1 (.string (Aa [d]))).set 2 (ι 0)).set 3 (ι 0));obtain ⟨l, m, p, r⟩ := τ4 h.o;exact Zu (v:=.tuple #[Fb 4 [d] 0 0,ι 1]) (by simp [results,Zd,go_sem,Fb,l,m,p,r]) rfl ⟨⟨4,[d],0,_,rfl,.inr ⟨rfl,k.o⟩⟩,Lp w G.o⟩
    ·have J:((d.toNat:Int)==(c.toNat:Int))=false:=by rw[beq_eq_false_iff_ne];intro b;exact hdc (UInt8.toNat_inj.1 (by omega))
     have az:¬(d.toNat:Int)=(c.toNat:Int):=by rw[beq_eq_false_iff_ne]at J;exact J
     have D:=Za hdc;clear hdc;go_wp2;go_roundw
     case rel=>exact⟨j+1,by go_num,by omega,by first|trivial|rfl,fun q f=>by
      rcases Zh.1 f with b|b
      ·exact u.o q b
      ·subst b;rw[t.o];intro e;injection e with e;exact D.o e⟩
     case measure=>simp [Zt];omega
   ·obtain rfl:j=21:=by omega
    have k:Zq (Hq s=none):=gX Q.o H.o (fun I=>by
     obtain⟨q,f⟩:=List.getElem?_of_mem I;have K:q<21:=(Zp.1 f).1;exact u.o q K f)
    obtain ⟨q0, q1, q2, q3⟩ := τ4 a.o;have R:=a.o.fz 0;have S:=a.o.fz 1;have T:=a.o.fz 2;have U:=a.o.fz 3;have V:=a.o.lt;go_wp2_with fail;have h:=Za ((((a.o.set 0 (ι 0)).set 1 (.string (Aa []))).set 2 (ι 0)).set 3 (ι 0));obtain ⟨l, m, p, r⟩ := τ4 h.o;exact Zu (v:=.tuple #[Fb 0 [] 0 0,ι ((0:Nat):Int)]) (by simp [results,Zd,go_sem,Fb,l,m,p,r]) rfl ⟨⟨0,[],0,_,rfl,.inl ⟨rfl,k.o⟩⟩,Lp w G.o⟩
 ·have aB:¬(1:Int)<(s.length:Int):=by omega
  have H:Zq (nG s):=.inl (by omega);have E:Zv g.heap.size g (g.alloc (.cells #[.int .u8 40,.int .u8 41,.int .u8 123,.int .u8 125,.int .u8 91,.int .u8 93,.int .u8 44,.int .u8 59,.int .u8 61,.int .u8 124,.int .u8 94,.int .u8 38,.int .u8 43,.int .u8 45,.int .u8 42,.int .u8 47,.int .u8 37,.int .u8 33,.int .u8 126,.int .u8 60,.int .u8 62] 5 (21,22))):=bA;have Y:Zq (∀j d,([.int .u8 40,.int .u8 41,.int .u8 123,.int .u8 125,.int .u8 91,.int .u8 93,.int .u8 44,.int .u8 59,.int .u8 61,.int .u8 124,.int .u8 94,.int .u8 38,.int .u8 43,.int .u8 45,.int .u8 42,.int .u8 47,.int .u8 37,.int .u8 33,.int .u8 126,.int .u8 60,.int .u8 62]:List Zs)[j]? =some d→(g.alloc (.cells #[.int .u8 40,.int .u8 41,.int .u8 123,.int .u8 125,.int .u8 91,.int .u8 93,.int .u8 44,.int .u8 59,.int .u8 61,.int .u8 124,.int .u8 94,.int .u8 38,.int .u8 43,.int .u8 45,.int .u8 42,.int .u8 47,.int .u8 37,.int .u8 33,.int .u8 126,.int .u8 60,.int .u8 62] 5 (21,22))).cell? ⟨g.heap.size,j,none⟩=some d∧g.heap.size<(g.alloc (.cells #[.int .u8 40,.int .u8 41,.int .u8 123,.int .u8 125,.int .u8 91,.int .u8 93,.int .u8 44,.int .u8 59,.int .u8 61,.int .u8 124,.int .u8 94,.int .u8 38,.int .u8 43,.int .u8 45,.int .u8 42,.int .u8 47,.int .u8 37,.int .u8 33,.int .u8 126,.int .u8 60,.int .u8 62] 5 (21,22))).heap.size):=fun j d b=>⟨fP b,by simp⟩
  have kc:=fun(w:Zr) (C:Array Zs) (n c:Nat)=>Lib.run_convert_bytes_const (P:=Zb) w 54 5 C n c underlying54 underlying5
  obtain⟨a,G⟩:=Y2 (ac.o.old E) (O.o.trans (E.mono O.o.size));clear E;go_wp2_with fail;clear kc;generalize g.alloc (.cells #[.int .u8 40,.int .u8 41,.int .u8 123,.int .u8 125,.int .u8 91,.int .u8 93,.int .u8 44,.int .u8 59,.int .u8 61,.int .u8 124,.int .u8 94,.int .u8 38,.int .u8 43,.int .u8 45,.int .u8 42,.int .u8 47,.int .u8 37,.int .u8 33,.int .u8 126,.int .u8 60,.int .u8 62] 5 (21,22))=ab at*;generalize g.heap.size=aw at*
  go_loopw [108] (fun i F=> ∃j:Nat,i= ι (j:Int)∧j≤21∧F=ab∧Zq (∀q,q<j→Yy[q]? ≠some c)) (fun i _=>21-(Zt i).toNat)
  case atStart=>exact⟨0,rfl,by omega,rfl,fun q f=>absurd f (by omega)⟩
  case round=>
   obtain⟨j,rfl,ai,rfl,u⟩:=hrel
   by_cases hlt:j<21
   ·have aj:(j:Int)<21:=by omega
    have ak:(0:Int)≤(j:Int):=by omega
    obtain⟨d,A,B⟩:=yO j hlt;obtain⟨ao,kl⟩:=Y.o j _ B;have t:=Za A;have ag:IntKind.i64.wrap ((j:Int)+1)=(j:Int)+1:=Zi _ (by omega);clear A B
    by_cases hdc:d=c
    ·subst hdc
     have k:Zq (Hq s=some (4,[d],0)):=aP Q.o H.o (Zo t.o);have M:=ae.o;obtain ⟨q0, q1, q2, q3⟩ := τ4 a.o;have R:=a.o.fz 0;have S:=a.o.fz 1;have T:=a.o.fz 2;have U:=a.o.fz 3;have V:=a.o.lt;go_wp2_with fail;have h:=Za ((((a.o.set 0 (ι 4)).set 1 (.string (Aa [d]))).set 2 (ι 0)).set 3 (ι 0));obtain ⟨l, m, p, r⟩ := τ4 h.o;exact Zu (v:=.tuple #[Fb 4 [d] 0 0,ι 1]) (by simp [results,Zd,go_sem,Fb,l,m,p,r]) rfl ⟨⟨4,[d],0,_,rfl,.inr ⟨rfl,k.o⟩⟩,Lp w G.o⟩
    ·have J:((d.toNat:Int)==(c.toNat:Int))=false:=by rw[beq_eq_false_iff_ne];intro b;exact hdc (UInt8.toNat_inj.1 (by omega))
     have az:¬(d.toNat:Int)=(c.toNat:Int):=by rw[beq_eq_false_iff_ne]at J;exact J
     have D:=Za hdc;clear hdc;go_wp2;go_roundw
     case rel=>exact⟨j+1,by go_num,by omega,by first|trivial|rfl,fun q f=>by
      rcases Zh.1 f with b|b
      ·exact u.o q b
      ·subst b;rw[t.o];intro e;injection e with e;exact D.o e⟩
     case measure=>simp [Zt];omega
   ·obtain rfl:j=21:=by omega
    have k:Zq (Hq s=none):=gX Q.o H.o (fun I=>by
     obtain⟨q,f⟩:=List.getElem?_of_mem I;have K:q<21:=(Zp.1 f).1;exact u.o q K f)
    obtain ⟨q0, q1, q2, q3⟩ := τ4 a.o;have R:=a.o.fz 0;have S:=a.o.fz 1;have T:=a.o.fz 2;have U:=a.o.fz 3;have V:=a.o.lt;go_wp2_with fail;have h:=Za ((((a.o.set 0 (ι 0)).set 1 (.string (Aa []))).set 2 (ι 0)).set 3 (ι 0));obtain ⟨l, m, p, r⟩ := τ4 h.o;exact Zu (v:=.tuple #[Fb 0 [] 0 0,ι ((0:Nat):Int)]) (by simp [results,Zd,go_sem,Fb,l,m,p,r]) rfl ⟨⟨0,[],0,_,rfl,.inl ⟨rfl,k.o⟩⟩,Lp w G.o⟩
theorem Nq {l:Bs}(a:∀c,c∈l→c≠10):Cr l=0:=by
 unfold Cr;rw[List.count_eq_zero];intro b;exact a 10 b rfl
theorem lR {l:Bs}(q:l≠[])(h:Ny (Zf l).1=false):∀i,i<(Zf l).2→(l.getD i 0)≠10:=by
 have b:32≤(Zf l).1∧(Zf l).1≠65533:=by
  have p:¬((Zf l).1<32∨(Zf l).1=39∨(Zf l).1=92∨(Zf l).1=65533):=by
   unfold Ny at h;exact of_decide_eq_false h
  omega
 rw[Lib.decodeL_N]at b ⊢;intro i j g;have g:(l.getD i 0).toNat=10:=by rw[g];rfl
 rcases Lib.decodeN_shape l.length (l.getD 0 0).toNat (l.getD 1 0).toNat (l.getD 2 0).toNat (l.getD 3 0).toNat with⟨a,e⟩|⟨a,c,d,f,e⟩|⟨a,c,d,k,f,n,e⟩|⟨a,c,d,k,m,f,o,e⟩|e
 all_goals(rw[e]at b j;dsimp only at b j)
 ·obtain rfl:i=0:=by omega
  omega
 ·have:i=0∨i=1:=by omega
  rcases this with rfl|rfl<;>omega
 ·have:i=0∨i=1∨i=2:=by omega
  rcases this with rfl|rfl|rfl<;>omega
 ·have:i=0∨i=1∨i=2∨i=3:=by omega
  rcases this with rfl|rfl|rfl|rfl<;>omega
 ·omega
theorem lH {s:Bs}{k:Int}{x:Bs}{n:Int}(a:Ln s=some (k,x,n)):Cr x=0:=by
 cases s with
 |nil=>cases a
 |cons c t=>
  unfold Ln at a;dsimp only at a;split at a
  ·have f:∀d,d∈(c::t).takeWhile Fi→d≠10:=fun d j e=>by
    have:=(It Fi (c::t)).2.1 d j;rw[e]at this;exact absurd this (by decide)
   unfold Nw at a;split at a
   ·cases a;exact Nq f
   ·split at a
    ·cases a;exact Nq f
    ·cases a
  ·split at a
   ·have f:∀d,d∈(c::t).takeWhile Ax→d≠10:=fun d j e=>by
     have:=(It Ax (c::t)).2.1 d j;rw[e]at this;exact absurd this (by decide)
    unfold Sw at a;split at a
    ·split at a
     ·cases a;exact Nq f
     ·cases a
    ·cases a
   ·split at a
    ·rename_i r
     unfold Oq at a
     by_cases ht:(c::t).drop 1=[]
     ·rw[ht]at a;cases a
     ·have o:t≠[]:=ht
      rw[show(c::t).drop 1=t from rfl,Sv o]at a;split at a
      ·cases a
      ·rename_i h
       have h:Ny (Zf t).1=false:=by simpa using h
       split at a
       ·rename_i z
        cases a
        have B:=lR o h;have A:=z;obtain⟨u,D⟩:=List.isPrefixOf_iff_prefix.1 A;have E:=Lib.decodeL_le _ o;generalize (Zf t).2=d at*;have v:t.drop d=39::u:=by
         have:(c::t).drop (1+d)=t.drop d:=by rw[Nat.add_comm];rfl
         rw[←this,←D];rfl
        have C:(c::t).take (d+2)=c::(t.take d++[39]):=by
         rw[show d+2=(d+1)+1 from rfl,List.take_succ_cons,List.take_add,v];rfl
        rw[C];refine Nq (fun e b=>?_);rcases List.mem_cons.1 b with rfl|b
        ·rw[r];decide
        ·rcases List.mem_append.1 b with b|b
         ·obtain⟨i,m,rfl⟩:=Zm b
          have w:i<d:=by rw[List.length_take]at m;omega
          have:=B i w;rw[List.getElem_take];have q:t.getD i 0=t[i]'(by rw[List.length_take]at m;omega):=by
           rw[List.getD_eq_getElem?_getD,Zc (by rw[List.length_take]at m;omega)];rfl
          rw[q]at this;exact this
         ·rw[List.mem_singleton.1 b];decide
       ·cases a
    ·have p:∀l,Ga l=true→Cr l=0:=by
      intro l y;rcases Vy y with rfl|rfl|rfl|rfl|rfl|rfl|rfl|rfl|rfl|rfl|rfl|rfl|rfl|rfl|rfl|rfl|rfl|rfl|rfl|rfl|rfl|rfl|rfl|rfl|rfl|rfl|rfl<;>rfl
     unfold Hq at a;split at a
     ·rename_i g;cases a;exact p _ g
     ·split at a
      ·rename_i g;cases a;exact p _ g
      ·cases a
theorem jH(a:Bs)(i:Nat)(c:UInt8)(b:a[i]? =some c):Cr (a.take (i+1))=Cr (a.take i)+if c=10 then 1 else 0:=by
 obtain⟨e,d⟩:=Zp.1 b;rw[List.take_add_one,b,Lq];congr 1
 show Cr [c]=_
 unfold Cr;rw[List.count_singleton]
 by_cases hc:c=10
 ·rw[if_pos hc,hc];rfl
 ·rw[if_neg hc,if_neg (by simpa using hc)]
theorem gT(b:Bs)(a k:Nat):Cr (b.take (a+k))=Cr (b.take a)+Cr ((b.drop a).take k):=by
 rw[List.take_add,Lq]
theorem rcToken(s:Bs)(b:s≠[])(a:s.length≤1000000)(w:Zr):Zw Zb 67 #[.string (Aa s)] w (Wb (Ln s) w):=by
 cases s with
 |nil=>exact absurd rfl b
 |cons c r=>
  cases hl:Bu c with
  |true=>
   rw[show Ln (c::r)=Nw (c::r)from if_pos hl];exact iU c r rfl hl a w
  |false=>
   cases hd:Ax c with
   |true=>
    rw[show Ln (c::r)=Sw (c::r)from(if_neg (by rw[hl];decide)).trans (if_pos hd)];exact oT c r rfl hl hd a w
   |false=>
    by_cases h9:c=39
    ·rw[show Ln (c::r)=Oq (c::r)from((if_neg (by rw[hl];decide)).trans (if_neg (by rw[hd];decide))).trans (if_pos h9)]
     exact oQ c r rfl h9 a w
    ·rw[show Ln (c::r)=Hq (c::r)from((if_neg (by rw[hl];decide)).trans (if_neg (by rw[hd];decide))).trans (if_neg h9)]
     exact jP c r rfl hl hd h9 a w
theorem Tz {B:Nat}{a w:Zr}(b:Zv B a w)(n:Nat):Zv B a (w.drewN n):=⟨b.os,b.tape,b.output,b.size,b.block⟩
theorem iD(s:Bs)(t:s.length≤1000000)(w:Zr)(j:Lu w):
  Zw Zb 161 #[.string (Aa s)] w fun e w'=>e=.returned (.tuple #[.string (Aa (By s)),.bool (bS s)])∧Zv w.heap.size w w':=by
 obtain⟨v,m⟩:=Y2 j t;obtain⟨B,p⟩:=j.max;have x:=Za p;have z:=Uz s;have hcut:∃a b,Lib.cut (Aa s).data.toList (Aa [10]).data.toList=(By s,a,b):=⟨(Lib.cut s [10]).2.1,(Lib.cut s [10]).2.2,by show Lib.cut s.toArray.toList [10]=_;unfold By;simp⟩;obtain⟨E,F,hcut⟩:=hcut;have l:=Za hcut;have f:Zq (bS s=(Lib.validD (By s) && !Lib.contains (By s) [239,191,189])):=rfl;obtain⟨u,r⟩:∃u,bS s=u:=⟨_,rfl⟩;rw[r]at f ⊢;obtain⟨c,n⟩:∃c,By s=c:=⟨_,rfl⟩;rw[n]at f l z ⊢;clear j p t hcut r n;go_enter func161,ntmps161;go_wp2_with fail;refine(Tryz.strings_Cut (Aa s) (Aa [10]) B w (by have:=m.o;show s.length<_;omega) x.o).mono ?_;rw[l.o];rintro e H ⟨rfl,g,rfl⟩;have i:Lu (w.drewN g):=v.o.old (Tz (Zg w.heap.size w) g);have G:c.length≤1000000:=by have:=m.o;omega
 go_wp2_with fail;refine(Tryz.utf8_ValidString (Aa c) (w.drewN g) (by show c.length≤_;omega) i.utf).mono ?_;rintro e w2 ⟨d,h⟩;have k:=Za ((Tz (Zg w.heap.size w) g).trans h);replace d:e=.returned (.bool (Lib.validD c)):=d
 cases hv:Lib.validD c
 ·rw[hv]at d
  subst d;rw[hv]at f;clear h i hv;go_wp2
  go_ret2
  exact⟨by rw[f.o];rfl,k.o⟩
 ·rw[hv]at d
  subst d;have o:=i.old (h:Zv (w.drewN g).heap.size (w.drewN g) w2);obtain⟨C,q⟩:=o.max;have y:=Za q;rw[hv]at f;clear h i o q hv;go_wp2_with fail;refine(Tryz.strings_Contains (Aa c) (Aa [239,191,189]) C w2 (by show c.length<_;omega) y.o).mono ?_;rintro e D ⟨d,A⟩;replace d:e=.returned (.bool (Lib.contains c [239,191,189])):=d;subst d;obtain rfl:w2=D:=A.symm
  cases hct:Lib.contains c [239,191,189]
  all_goals
   rw[hct]at f;clear hct;go_wp2
   go_ret2
   exact⟨by rw[f.o];rfl,k.o⟩
theorem vA(s:Bs)(O:s.length≤1000000)(w:Zr)(M:Lu w):
  Zw Zb 102 #[.string (Aa s)] w fun e w'=>e=.returned (.tuple #[.string (Aa (Dc (s.length+1) s).1),.int .i64 (Dc (s.length+1) s).2.1,.bool (Dc (s.length+1) s).2.2])∧Zv w.heap.size w w':=by
 obtain⟨q,D⟩:∃q,Dc (s.length+1) s=q:=⟨_,rfl⟩;rw[D];obtain⟨P,T,R⟩:=Y3 M O D;clear M O D;go_enter func102,ntmps102;go_wp2
 go_loopw [0,3] (fun F X wr=> ∃(d:Bs) (n f:Nat),F= σ d∧X= ι n∧d.length<f∧n+d.length≤s.length∧Zq ((Dc f d).1=q.1∧n+(Dc f d).2.1=q.2.1∧(Dc f d).2.2=q.2.2)∧Zv w.heap.size w wr) (fun F _ _=>match F with|.string s=>s.size|_=>0)
 case atStart=>exact⟨s,0,s.length+1,rfl,rfl,Nat.lt_succ_self _,by omega,by rw[R.o];exact⟨rfl,Nat.zero_add _,rfl⟩,Zg _ _⟩
 case round=>
  obtain⟨d,n,f,rfl,rfl,ac,x,h,B⟩:=hrel;obtain⟨f,rfl⟩:∃g,f=g+1:=⟨f-1,by omega⟩;have ad:=T.o;obtain⟨Q,G,I⟩:=Y3 (P.o.old B) B (fun j=>qP d j);have W:Cr (d.takeWhile Bf)≤(d.takeWhile Bf).length:=List.count_le_length;have k:=congrArg List.length (Kr Bf d);rw[List.length_append,Rf]at k;have K:=Za ((Kp d (d.takeWhile Bf).length).trans (congrArg Aa (Ls Bf d)));have A:Zq (∀n,n=d.length→(Aa d).extract (d.takeWhile Bf).length n=Aa (d.dropWhile Bf)):=Za (fun n x=>by rw[Nl d _ n x,Rf]);rw[Dc]at h;obtain⟨b,L⟩:∃b,d.takeWhile Bf=b:=⟨_,rfl⟩;obtain⟨a,N⟩:∃a,d.dropWhile Bf=a:=⟨_,rfl⟩;rw[L]at I W k K A h;rw[N]at k A h;have J:=Za h;have ah:(n:Int)≤1000000:=by omega
  have ai:(0:Int)≤(n:Int):=by omega
  have ae:(b.length:Int)≤(d.length:Int):=by omega
  have l2:b.length≤d.length:=by omega
  have Y:(n:Int)+(Cr b:Int)≤1000000:=by omega
  have Z:(0:Int)≤(Cr b:Int):=by omega
  have z:=Za k;clear B h L N k;go_wp2_with fail;refine(I.o _).mono ?_;rintro e j ⟨rfl,C⟩;obtain⟨l,H⟩:=Y2 (G.o.trans (C.mono G.o.size)) (Q.o.old C);clear C;go_wp2_with fail;rw[K.o];refine(Tryz.strings_Count_one (Aa b) 10 j).mono ?_;rintro e w2 ⟨i,E⟩;replace i:e=.returned (ι (Cr b:Int)):=i;subst i;obtain rfl:j=w2:=E.symm;go_wp2_with fail;rw[A.o _ rfl];refine(Tryz.strings_HasPrefix (Aa a) (Aa [47,47]) j).mono ?_;rintro e w2 ⟨i,E⟩;replace i:e=.returned (.bool (Lib.hasPrefix a [47,47])):=i;obtain rfl:j=w2:=E.symm
  cases hp:Lib.hasPrefix a [47,47]
  ·rw[hp]at i
   subst i;have h:=J.o;rw[if_neg (by rw[hp];decide)]at h;have m:=Za h;clear hp h;go_wp2
   go_ret3
   obtain⟨p,r,t⟩:=m.o;exact⟨by rw[←p,←r,←t,show((n+Cr b:Nat):Int)=(n:Int)+(Cr b:Int)by omega];rfl,l.o⟩
  ·rw[hp]at i
   subst i;have aa:=eG hp;have V:=Uz a;have h:=J.o;rw[if_pos hp]at h;have v:=Za (fun j U=>iD a (by have:=z.o;omega) j U);have S:Zq (∀n,n=a.length→(Aa a).extract (By a).length n=Aa (a.drop (By a).length)):=Za (fun n x=>Nl a _ n x);have af:((By a).length:Int)≤(a.length:Int):=by omega
   have ag:(By a).length≤a.length:=V;have ab:(a.drop (By a).length).length=a.length-(By a).length:=List.length_drop
   cases hcb:bS a
   ·rw[if_neg (by rw[hcb];decide)]at h
    rw[hcb]at v;have m:=Za h;generalize By a=c at*;clear hp h hcb;go_wp2_with fail;refine(v.o _ H.o).mono ?_;rintro e w2 ⟨rfl,u⟩;have y:=Za (l.o.trans (u.mono l.o.size));clear u;go_wp2
    go_ret3
    obtain⟨p,r,t⟩:=m.o;exact⟨by rw[←p,←r,←t,show((n+Cr b:Nat):Int)=(n:Int)+(Cr b:Int)by omega];rfl,y.o⟩
   ·rw[if_pos hcb]at h
    rw[hcb]at v;have m:=Za h;generalize By a=c at*;clear hp h hcb;go_wp2_with fail;refine(v.o _ H.o).mono ?_;rintro e w2 ⟨rfl,u⟩;have y:=Za (l.o.trans (u.mono l.o.size));clear u;go_wp2_with fail;rw[S.o _ rfl];go_roundw
    case rel=>
     obtain⟨p,r,t⟩:=m.o;have k:=z.o;exact⟨a.drop c.length,n+Cr b,f,rfl,by go_num,by omega,by omega,⟨p,by rw[Nat.add_assoc];exact r,t⟩,y.o⟩
    case measure=>have k:=z.o;show(a.drop c.length).length<d.length;omega
theorem sign_no {l:Bs}(a:Ga l=false):∀x,x∈Pa→(l==x)=false:=fun x hx=>by
 cases hq:(l==x)with
 |false=>rfl
 |true=>
  have e:l=x:=by simpa using hq
  subst e;rw[show Ga l=true from List.contains_iff_mem.2 hx]at a
  cases a
theorem yL(s:Bs)(x:s≠[])(w:Zr):Zw Zb 165 #[.string (Aa s)] w (Xq (Hq s) w):=by
 have y:1≤s.length:=List.length_pos_iff.2 x;have L:=Za (Kp s);have B:(min (2:Int) (s.length:Int))=((min 2 s.length:Nat):Int):=by omega
 obtain⟨d,hM⟩:∃d,min 2 s.length=d:=⟨_,rfl⟩;rw[hM]at B;have g:d≤2∧d≤s.length∧1≤d∧(d=1→s.length=1):=by omega
 have H:=Za g;have p:s.length=1→s.take 2=s.take 1:=fun f=>by rw[List.take_of_length_le (by omega),List.take_of_length_le (by omega)]
 have r:Zq (∀c,c≤d→1≤c→(∀j,c<j→j≤d→Ga (s.take j)=false)→Ga (s.take c)=true→Hq s=some (4,s.take c,0)):=Za (by
  intro c m u M o;have:c=1∨c=2:=by omega
  unfold Hq;rcases this with rfl|rfl
  ·by_cases f:d=1
   ·rw[p (g.2.2.2 f),o];rfl
   ·rw[M 2 (by omega) (by omega),o];rfl
  ·rw[o];rfl)
 have t:Zq ((∀j,0<j→j≤d→Ga (s.take j)=false)→Hq s=none):=Za (by
  intro a;have m:=a 1 (by omega) (by omega);have u:Ga (s.take 2)=false:=by
   by_cases f:d=1
   ·rw[p (g.2.2.2 f)];exact m
   ·exact a 2 (by omega) (by omega)
  unfold Hq;rw[u,m];rfl)
 obtain⟨D,C⟩:∃D,Hq s=D:=⟨_,rfl⟩;rw[C]at r t ⊢;obtain⟨J,E⟩:=Y2 (Zj w [ι 0,ε,ι 0,ι 0] 87) ((Zg w.heap.size w).alloc (Ze _) (.cells #[ι 0,ε,ι 0,ι 0] 87));clear C x hM g p;go_enter func165,ntmps165;go_wp2
 go_loopw [4] (fun q wr=> ∃c:Nat,c≤d∧q= ι c∧wr=w.alloc (.cells #[ι 0,ε,ι 0,ι 0] 87)∧Zq (∀j,c<j→j≤d→Ga (s.take j)=false)) (fun q _=>match q with|.int _ n=>n.toNat|_=>0)
 case atStart=>exact⟨d,Ze _,by first|rw[B]|rfl,rfl,fun j y z=>by omega⟩
 case round=>
  obtain⟨c,N,rfl,rfl,h⟩:=hrel;have g:=H.o
  by_cases hm0:c=0
  ·subst hm0
   have F:=Za (t.o h);obtain ⟨q0, q1, q2, q3⟩ := τ4 J.o;clear h;go_wp2;exact Zu (v:=.tuple #[Fb 0 [] 0 0,.bool false]) (by simp [results,results165,go_sem,Fb,q0,q1,q2,q3]) rfl ⟨⟨_,_,_,_,rfl,by rw[F.o];rfl⟩,E.o⟩
  ·have aq:(0:Int)<(c:Int):=by omega
   have ar:(c:Int)≤(s.length:Int):=by omega
   have au:c≤s.length:=by omega
   have A:(c:Int)-1=((c-1:Nat):Int):=by omega
   have I:=Za A;have hx:=L.o c;have i:=Za (r.o c N (by omega) h);have k:Zq (Ga (s.take c)=false→∀j,c-1<j→j≤d→Ga (s.take j)=false):=Za (fun f j y z=>by
    by_cases e:j=c
    ·rw[e];exact f
    ·exact h j (by omega) z)
   clear h A;generalize s.take c=l at*
   cases hs:Ga l
   ·have b:=sign_no hs
    have P:=b [61,61] (by decide);have Q:=b [33,61] (by decide);have ab:=b [60,61] (by decide);have aj:=b [62,61] (by decide);have ak:=b [60,60] (by decide);have al:=b [62,62] (by decide);have am:=b [40] (by decide);have an:=b [41] (by decide);have ao:=b [123] (by decide);have ap:=b [125] (by decide);have R:=b [91] (by decide);have S:=b [93] (by decide);have T:=b [44] (by decide);have U:=b [59] (by decide);have V:=b [61] (by decide);have W:=b [124] (by decide);have X:=b [94] (by decide);have Y:=b [38] (by decide);have Z:=b [43] (by decide);have aa:=b [45] (by decide);have ac:=b [42] (by decide);have ad:=b [47] (by decide);have ae:=b [37] (by decide);have af:=b [33] (by decide);have ag:=b [126] (by decide);have ah:=b [60] (by decide);have ai:=b [62] (by decide);have K:=Za (k.o hs);clear b i hs k;go_wp2;exact⟨⟨c-1,by omega,by rw[I.o],trivial,K.o⟩,by simp;omega⟩
   ·have G:=Za (i.o hs)
    have O:=Vy hs;clear i hs k;rcases O with rfl|rfl|rfl|rfl|rfl|rfl|rfl|rfl|rfl|rfl|rfl|rfl|rfl|rfl|rfl|rfl|rfl|rfl|rfl|rfl|rfl|rfl|rfl|rfl|rfl|rfl|rfl
    all_goals
     go_wp2;exact Zu (v:=.tuple #[Fb 4 _ 0 0,.bool true]) (by simp [results,results165,go_sem,Fb]) rfl ⟨⟨_,_,_,_,rfl,G.o⟩,bA⟩
theorem oG(s:Bs)(G:s≠[])(O:s.length≤1000000)(w:Zr)(u:Lu w):Zw Zb 103 #[.string (Aa s)] w (Xq (Ln s) w):=by
 obtain⟨c,t,rfl⟩:∃c t,s=c::t:=by cases s with|nil=>exact absurd rfl G|cons c t=>exact⟨c,t,rfl⟩
 obtain⟨M,N⟩:=Y2 u O;have S:0<(Aa (c::t)).size:=by show 0<(c::t).length;simp
 have U:(0:Int)<((c::t).length:Int):=by rw[List.length_cons];omega
 have V:0<(c::t).length:=by simp
 have T:=c.toNat_lt;have R:=Za (show wrap32 (((Aa (c::t))[0]'S).toNat:Int)=(c.toNat:Int)by
  show wrap32 (c.toNat:Int)=_
  unfold wrap32;omega)
 obtain⟨z,g,Q,P⟩:=Y4 (Zj w [ι 0,ε,ι 0,ι 0] 87) ((Zg w.heap.size w).alloc (Ze _) (.cells #[ι 0,ε,ι 0,ι 0] 87)) (Qg c) (Si c);have A:((c.toNat:Int)==39)=decide (c=39):=by
  rw[Bool.eq_iff_iff,beq_iff_eq,decide_eq_true_iff,←UInt8.toNat_inj];show _↔c.toNat=39
  omega
 have y:=Za A;have h:Zq (Ln (c::t)=if Bu c=true then Nw (c::t)else if Ax c=true then Sw (c::t)else if c=39 then Oq (c::t)else Hq (c::t)):=rfl;have K:=Za G;clear u O T G A;go_enter func103,ntmps103;go_wp2_with fail;rw[R.o];refine(Iw).mono ?_;rw[Q.o]
 cases u:Bu c
 ·rintro e I ⟨rfl,rfl⟩
  have B:=Za u;clear u;go_wp2_with fail;refine(Mu _ _).mono ?_;rw[P.o]
  cases hd:Ax c
  ·rintro e I ⟨rfl,rfl⟩
   have L:=Za hd;clear hd
   by_cases hc:c=39
   ·have A:((c.toNat:Int)==39)=true:=by rw[y.o];simp [hc]
    have b:=Za (lF (c::t) K.o N.o (M.o.old g.o));rw[show Oq (c::t)=Ln (c::t)by rw[h.o,if_neg (by rw[B.o];decide),if_neg (by rw[L.o];decide),if_pos hc]]at b;clear hc h y;go_wp2_with fail;refine b.o.mono ?_;rintro e J ⟨⟨k,x,n,ok,rfl,f⟩,d⟩;unfold Fb;obtain⟨a,i,j⟩:=Y3 (z.o.old d) (g.o.trans (d.mono g.o.size)) f;clear d f b;have q0:=a.o.at 0 _ rfl;have C:=a.o.fz 0;have q1:=a.o.at 1 _ rfl;have D:=a.o.fz 1;have q2:=a.o.at 2 _ rfl;have E:=a.o.fz 2;have q3:=a.o.at 3 _ rfl;have F:=a.o.fz 3;have H:=a.o.lt;go_wp2_with fail;have l:=Za ((((a.o.set 0 (ι k)).set 1 (σ x)).set 2 (ι n)).set 3 (ι 0));obtain ⟨m, p, q, r⟩ := τ4 l.o;exact Zu (v:=.tuple #[.agg #[ι k,σ x,ι n,ι 0],.bool ok]) (by simp [results,results103,go_sem,m,p,q,r]) rfl ⟨⟨_,_,_,_,rfl,j.o⟩,Lp w i.o⟩
   ·have A:((c.toNat:Int)==39)=false:=by rw[y.o];simp [hc]
    have b:=Za (yL (c::t) K.o (w.alloc (.cells #[ι 0,ε,ι 0,ι 0] 87)));rw[show Hq (c::t)=Ln (c::t)by rw[h.o,if_neg (by rw[B.o];decide),if_neg (by rw[L.o];decide),if_neg hc]]at b;clear hc h y;go_wp2_with fail;refine b.o.mono ?_;rintro e J ⟨⟨k,x,n,ok,rfl,f⟩,d⟩;unfold Fb;obtain⟨a,i,j⟩:=Y3 (z.o.old d) (g.o.trans (d.mono g.o.size)) f;clear d f b;have q0:=a.o.at 0 _ rfl;have C:=a.o.fz 0;have q1:=a.o.at 1 _ rfl;have D:=a.o.fz 1;have q2:=a.o.at 2 _ rfl;have E:=a.o.fz 2;have q3:=a.o.at 3 _ rfl;have F:=a.o.fz 3;have H:=a.o.lt;go_wp2_with fail;have l:=Za ((((a.o.set 0 (ι k)).set 1 (σ x)).set 2 (ι n)).set 3 (ι 0));obtain ⟨m, p, q, r⟩ := τ4 l.o;exact Zu (v:=.tuple #[.agg #[ι k,σ x,ι n,ι 0],.bool ok]) (by simp [results,results103,go_sem,m,p,q,r]) rfl ⟨⟨_,_,_,_,rfl,j.o⟩,Lp w i.o⟩
  ·rintro e I ⟨rfl,rfl⟩
   have b:=Za (mA (c::t) N.o (M.o.old g.o));rw[show Sw (c::t)=Ln (c::t)by rw[h.o,if_neg (by rw[B.o];decide),if_pos hd]]at b;clear hd h y;go_wp2_with fail;refine b.o.mono ?_;rintro e J ⟨⟨k,x,n,ok,rfl,f⟩,d⟩;unfold Fb;obtain⟨a,i,j⟩:=Y3 (z.o.old d) (g.o.trans (d.mono g.o.size)) f;clear d f b;have q0:=a.o.at 0 _ rfl;have C:=a.o.fz 0;have q1:=a.o.at 1 _ rfl;have D:=a.o.fz 1;have q2:=a.o.at 2 _ rfl;have E:=a.o.fz 2;have q3:=a.o.at 3 _ rfl;have F:=a.o.fz 3;have H:=a.o.lt;go_wp2_with fail;have l:=Za ((((a.o.set 0 (ι k)).set 1 (σ x)).set 2 (ι n)).set 3 (ι 0));obtain ⟨m, p, q, r⟩ := τ4 l.o;exact Zu (v:=.tuple #[.agg #[ι k,σ x,ι n,ι 0],.bool ok]) (by simp [results,results103,go_sem,m,p,q,r]) rfl ⟨⟨_,_,_,_,rfl,j.o⟩,Lp w i.o⟩
 ·rintro e I ⟨rfl,rfl⟩
  have b:=Za (xF (c::t) (w.alloc (.cells #[ι 0,ε,ι 0,ι 0] 87)));rw[show Nw (c::t)=Ln (c::t)by rw[h.o,if_pos u]]at b;clear u h y;go_wp2_with fail;refine b.o.mono ?_;rintro e J ⟨⟨k,x,n,ok,rfl,f⟩,d⟩;unfold Fb;obtain⟨a,i,j⟩:=Y3 (z.o.old d) (g.o.trans (d.mono g.o.size)) f;clear d f b;have q0:=a.o.at 0 _ rfl;have C:=a.o.fz 0;have q1:=a.o.at 1 _ rfl;have D:=a.o.fz 1;have q2:=a.o.at 2 _ rfl;have E:=a.o.fz 2;have q3:=a.o.at 3 _ rfl;have F:=a.o.fz 3;have H:=a.o.lt;go_wp2_with fail;have l:=Za ((((a.o.set 0 (ι k)).set 1 (σ x)).set 2 (ι n)).set 3 (ι 0));obtain ⟨m, p, q, r⟩ := τ4 l.o;exact Zu (v:=.tuple #[.agg #[ι k,σ x,ι n,ι 0],.bool ok]) (by simp [results,results103,go_sem,m,p,q,r]) rfl ⟨⟨_,_,_,_,rfl,j.o⟩,Lp w i.o⟩
theorem Ih {w w':Zr}{b f n:Nat}{e:TypeId}{v:Zs}{xs:List Zs}(c:w.ownsRow b e f v n xs)(i:Zv w.heap.size w w'):w'.ownsRow b e f v n xs:=by
 refine⟨c.1,?_⟩;rcases c.2 with k|⟨g,cap,h,rfl,j,d,l⟩
 ·exact .inl k
 ·refine .inr ⟨g,cap,h,rfl,j,?_,l⟩
  rw[i.block g (by
   rcases Nat.lt_or_ge g w.heap.size with a|a
   ·exact a
   ·simp [Array.getElem?_eq_none a]at d)]
  exact d
theorem Na {w:Zr}{a c n:Nat}{e:TypeId}{v:Zs}{xs:List Zs}(b:w.ownsRow a e c v n xs){k:Nat}(j:v.ownBlock≠some k)(i:Nat)(x:Zs):(w.setCell ⟨k,i,none⟩ x).ownsRow a e c v n xs:=by
 refine⟨b.1,?_⟩;rcases b.2 with l|⟨g,cap,d,rfl,f,h,m⟩
 ·exact .inl l
 ·refine .inr ⟨g,cap,d,rfl,f,?_,m⟩
  rw[Below.heap_setCell _ _ _ _ (by rintro rfl;exact j rfl)];exact h
theorem kY {w:Zr}{a d n:Nat}{e:TypeId}{v:Zs}{xs:List Zs}(b:w.ownsRow a e d v n xs):(v=.slice none 0 0∧n=0)∨∃g cap,v=.slice (some ⟨g,0,none⟩) n cap:=by
 rcases b.2 with c|⟨g,cap,f,rfl,_⟩
 ·exact .inl c
 ·exact .inr ⟨g,cap,rfl⟩
theorem Xn {w:Zr}{b d n:Nat}{e:TypeId}{v:Zs}{xs:List Zs}(c:w.ownsRow b e d v n xs):∃a cap,v=.slice a n cap:=by
 rcases kY c with⟨rfl,rfl⟩|⟨g,cap,rfl⟩
 ·exact⟨none,0,rfl⟩
 ·exact⟨_,_,rfl⟩
theorem Md {B:Nat}{a w w':Zr}(b:Zv B a w){row:Option Nat}(c:w.grownBy w' row)(g:∀k,row=some k→B≤k)(f:B≤w.heap.size):Zv B a w':=
 ⟨c.os.trans b.os,c.tape.trans b.tape,c.output.trans b.output,Nat.le_trans b.size c.size,fun k d=>(c.block k (Nat.lt_of_lt_of_le d f) (fun e=>by have:=g k e.symm;omega)).trans (b.block k d)⟩
theorem Gc {B:Nat}{a w:Zr}(b:Zv B a w){k:Nat}(c:B≤k)(i:Nat)(v:Zs):Zv B a (w.setCell ⟨k,i,none⟩ v):=b.setCell (p:=⟨k,i,none⟩) c v
theorem Ad.grow {w w':Zr}{b:Nat}{c:List Zs}{a:TypeId}(d:Ad w b c a){row:Option Nat}(f:w.grownBy w' row)(g:row≠some b):Ad w' b c a:=(f.block b d.lt (fun e=>g e.symm)).trans d
theorem Ad.news {w:Zr}{b:Nat}{a:List Zs}{c:TypeId}(d:Ad w b a c):∀j u,a[j]? =some u→w.cell? ((⟨b,0,none⟩:Addr).add j)=some u:=by
 intro j u f;have e:(⟨b,0,none⟩:Addr).add j=⟨b,j,none⟩:=by unfold Addr.add;split<;>simp_all
 rw[e];exact d.at j u f
end Go.Proofs.YthcpopmmlneneaaGreatDoor
